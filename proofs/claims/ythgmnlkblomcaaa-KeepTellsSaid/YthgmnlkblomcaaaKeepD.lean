/- Lots (layer 14): what is behind Hold and Reject. -/
import Derived.Test.YthgmnlkblomcaaaKeepC
namespace Go.Proofs.Ythgmnlkblomcaaa
open Go.RowKit Go.Hf

set_option maxRecDepth 100000 in
set_option maxHeartbeats 1000000 in
theorem behind_hold (e : Int) (d : Lot) (A : Option Addr) (n c : Nat) (ss : List Stay) (w : World) (h : Stays w (.slice A n c) ss) (hl : ss.length ≤ 1000) :
    Calls Try.prog 103 #[aggL d A n c, .int .i64 e, .func (.func 110) #[] #[], .func (.func 111) #[] #[]] w fun en w' => ∃ A' n' c' ss', en = .returned (.tuple #[aggL (Keep.behind d e (fun d => { d with order := 0 }) (fun _ => false)).1 A' n' c', .int .i64 (Keep.behind d e (fun d => { d with order := 0 }) (fun _ => false)).2]) ∧ Own w.heap.size 146 3 encS w' (.slice A' n' c') ss' ∧ ((Keep.behind d e (fun d => { d with order := 0 }) (fun _ => false)).2 = 0 → ss' = ss) ∧ ((Keep.behind d e (fun d => { d with order := 0 }) (fun _ => false)).2 ≠ 0 → ss' = []) ∧ Fr w w' := by
  have HV := Lib.hid h
  clear h
  by_cases he : (Status.After d.status e).2 = 0
  · have HE := Lib.hid he
    clear he
    go_enter Try.func103, Try.ntmps103
    go_wp2_with (first | (go_at_call 16; go_must (refine (status_After _ _ _).mono ?_; rintro _ w1 ⟨rfl, hf1⟩; rw [HE.out]; have HP := (hf1.block (k := w.heap.size) (by simp; omega)).trans ((Below.heap_alloc _ _ w.heap.size (by simp)).trans (heap_alloc_new w _)); obtain ⟨⟨p0, p1, p2, p3, p4, p5, p6, p7⟩, pf⟩ := blk8 HP; replace HP := Lib.hid HP; have HQ := (hf1.block (by simp)).trans (heap_alloc_new (w.alloc _) _); simp only [World.size_alloc] at HQ; have HQ2 := Lib.hid HQ; clear HQ; have hsz := hf1.size; simp only [World.size_alloc] at hsz; have HF := Lib.hid ((((Fr.refl w).alloc _).alloc _).trans hf1); clear hf1)) | (go_at_call 101; go_must (refine (keep_own d A n c ss _ (HV.out.frF HF.out) hl).mono ?_; rintro _ w1 ⟨A2, n2, c2, rfl, hs2, hf2⟩; obtain ⟨w2, rfl⟩ : ∃ y : World, y = w1 := ⟨_, rfl⟩; clear p0 p1 p2 p3 p4 p5 p6 p7 pf; replace HQ2 := Lib.hid ((hf2.block (k := w.heap.size + 1) (by omega)).trans HQ2.out); have hsz2 : w.heap.size + 2 ≤ w2.heap.size := Nat.le_trans hsz hf2.size; replace HF := Lib.hid (HF.out.trans hf2); replace hs2 := Lib.hid (hs2.lower hsz); clear hf2 hsz)) | (go_at_call 110; go_must (refine (does_hold w2.heap.size { d with status := (Status.After d.status e).1 } A2 n2 c2 _ (heap_alloc_new w2 _)).mono ?_; rintro _ w1 ⟨rfl, hb, hc⟩; obtain ⟨w3, rfl⟩ : ∃ y : World, y = w1 := ⟨_, rfl⟩; replace HQ2 := Lib.hid (hc.blk ((Below.heap_alloc w2 _ _ (by omega)).trans HQ2.out) (by omega)); replace HF := Lib.hid (hc.fr (HF.out.alloc _) (fun k hk => by omega)); replace hs2 := Lib.hid (hc.own (hs2.out.fr ((Fr.refl w2).alloc _)) (fun k hk hF => by (have := (hs2.out.lt k hk).2; omega))); have hlt3 : w2.heap.size < w3.heap.size := Nat.lt_of_lt_of_le (by simp) hc.size; obtain ⟨⟨p0, p1, p2, p3, p4, p5, p6, p7⟩, pf⟩ := blk8 hb; have HB := Lib.hid hb; clear hb hc)) | (go_at_call 111; go_must (refine (wrong_hold { d with order := 0, status := (Status.After d.status e).1 } A2 n2 c2 _).mono ?_; rintro _ w1 ⟨rfl, hf4⟩; obtain ⟨w4, rfl⟩ : ∃ y : World, y = w1 := ⟨_, rfl⟩; replace HQ2 := Lib.hid ((hf4.block (k := w.heap.size + 1) (by omega)).trans HQ2.out); replace HF := Lib.hid (HF.out.trans hf4); replace hs2 := Lib.hid (hs2.out.fr hf4); clear p0 p1 p2 p3 p4 p5 p6 p7 pf; obtain ⟨⟨p0, p1, p2, p3, p4, p5, p6, p7⟩, pf⟩ := blk8 ((hf4.block hlt3).trans HB.out); obtain ⟨⟨q0, q1, q2, q3, q4, q5, q6, q7⟩, qf⟩ := blk8 HQ2.out; clear hf4)))
    have HBE : Keep.behind d e (fun d => { d with order := 0 }) (fun _ => false) = ({ d with order := 0, status := (Status.After d.status e).1 }, 0) := by
      unfold Keep.behind; rw [if_neg (by simp [HE.out]), if_neg (by simp)]
    have hC0 : Chg (fun k => k = w.heap.size + 1) w4 w4 := Chg.refl _ _
    refine bodyPost_ret (v := .tuple #[aggL { d with order := 0, status := (Status.After d.status e).1 } A2 n2 c2, .int .i64 0]) (by simp [results, Try.results103, go_sem, *]) rfl ⟨A2, n2, c2, ss, by rw [HBE], ?_, fun _ => rfl, fun h => absurd (by rw [HBE]) h, ?_⟩
    · refine (Chg.own (F := fun k => k = w.heap.size + 1) ?_ hs2.out (fun k hk hF => by have := (hs2.out.lt k hk).1; omega)).lower (by omega)
      iterate 8 (refine chg_put (F := fun k => k = w.heap.size + 1) (p := ⟨w.heap.size + 1, _, none⟩) ?_ rfl _)
      exact hC0
    · iterate 8 (refine Fr.set ?_ (by simp) _)
      exact HF.out
  · have hne : ((Status.After d.status e).2 != 0) = true := by simpa using he
    have HNE := Lib.hid he
    clear he
    go_enter Try.func103, Try.ntmps103
    go_wp2_with (go_at_call 16; go_must (refine (status_After _ _ _).mono ?_; rintro _ w1 ⟨rfl, hf1⟩; have HP := (hf1.block (k := w.heap.size) (by simp; omega)).trans ((Below.heap_alloc _ _ w.heap.size (by simp)).trans (heap_alloc_new w _)); obtain ⟨⟨p0, p1, p2, p3, p4, p5, p6, p7⟩, pf⟩ := blk8 HP; clear HP; have HQ := (hf1.block (by simp)).trans (heap_alloc_new (w.alloc _) _); simp only [World.size_alloc] at HQ; obtain ⟨⟨q0, q1, q2, q3, q4, q5, q6, q7⟩, qf⟩ := blk8 HQ; clear HQ; have HF := Lib.hid ((((Fr.refl w).alloc _).alloc _).trans hf1); clear hf1))
    have HBE : Keep.behind d e (fun d => { d with order := 0 }) (fun _ => false) = (Lot.zero, (Status.After d.status e).2) := by
      unfold Keep.behind; rw [if_pos HNE.out]
    refine bodyPost_ret (v := .tuple #[aggL Lot.zero none 0 0, .int .i64 (Status.After d.status e).2]) (by simp [results, Try.results103, go_sem, Lot.zero, *]) rfl ⟨none, 0, 0, [], by rw [HBE], Own.nil _ _ _ _ _, fun h => absurd (by rw [HBE] at h; exact h) HNE.out, fun _ => rfl, ?_⟩
    iterate 8 (refine Fr.set ?_ (by simp) _)
    exact HF.out
end Go.Proofs.Ythgmnlkblomcaaa
