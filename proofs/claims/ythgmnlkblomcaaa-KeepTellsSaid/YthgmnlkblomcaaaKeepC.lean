/- Lots (layer 14): what is behind an event. -/
import Derived.Test.YthgmnlkblomcaaaKeepB
import Derived.Test.YthgmnlkblomcaaaStatus
import Derived.Deep.RegionHeld3
namespace Go.Proofs.Ythgmnlkblomcaaa
open Go.RowKit Go.Hf

abbrev LotB (w : World) (g : Nat) (d : Lot) (A : Option Addr) (n c : Nat) : Prop := w.heap[g]? = some (.cells #[.int .i64 d.id, .int .i64 d.product, .int .i64 d.units, .int .i64 d.expiry, .int .i64 d.grant, .int .i64 d.order, .int .i64 d.status, .slice A n c] 73 (0, 0))

namespace Keep
/-- A lot behind an event. -/
def behind (d : Lot) (e : Int) (does : Lot → Lot) (bad : Lot → Bool) : Lot × Int :=
  if (Status.After d.status e).2 ≠ 0 then (Lot.zero, (Status.After d.status e).2) else
  if bad (does { d with status := (Status.After d.status e).1 }) = true then (Lot.zero, 9) else (does { d with status := (Status.After d.status e).1 }, 0)
end Keep

theorem does_rel (g : Nat) (d : Lot) (A : Option Addr) (n c : Nat) (w : World) (h : LotB w g d A n c) :
    Calls Try.prog 104 #[.pointer (some ⟨g, 0, none⟩)] w fun e w' => e = .returned (.tuple #[]) ∧ LotB w' g d A n c ∧ Chg (fun k => k = g) w w' := by
  have H := Lib.hid h
  clear h
  go_enter Try.func104, Try.ntmps104
  go_wp2
  go_end0
  exact ⟨rfl, H.out, Chg.refl _ _⟩
theorem does_hold (g : Nat) (d : Lot) (A : Option Addr) (n c : Nat) (w : World) (h : LotB w g d A n c) :
    Calls Try.prog 110 #[.pointer (some ⟨g, 0, none⟩)] w fun e w' => e = .returned (.tuple #[]) ∧ LotB w' g { d with order := 0 } A n c ∧ Chg (fun k => k = g) w w' := by
  have H := Lib.hid h
  obtain ⟨⟨_, _, _, _, _, c5, _, _⟩, fz⟩ := blk8 h
  clear h
  go_enter Try.func110, Try.ntmps110
  go_wp2
  go_end0
  exact ⟨rfl, set_blk H.out 5 _, Chg.set (F := fun k => k = g) (p := ⟨g, 5, none⟩) _ rfl _⟩
theorem wrong_hold (d : Lot) (A : Option Addr) (n c : Nat) (w : World) :
    Calls Try.prog 111 #[aggL d A n c] w fun e w' => e = .returned (.bool false) ∧ Fr w w' := by
  go_enter Try.func111, Try.ntmps111
  go_wp2
  go_ret
  exact ⟨rfl, (Fr.refl _).alloc _⟩
theorem wrong_rel (p : Prod) (x : Int) (gp gx : Nat) (d : Lot) (A : Option Addr) (n c : Nat) (w : World) (h0 : w.cell? ⟨gp, 0, none⟩ = some (.int .i64 p.id)) (h1 : w.cell? ⟨gp, 1, none⟩ = some (.int .i64 p.limit)) (h2 : w.cell? ⟨gp, 2, none⟩ = some (.int .i64 p.budget)) (h3 : w.cell? ⟨gx, 0, none⟩ = some (.int .i64 x)) :
    Calls Try.prog 105 #[aggL d A n c, .pointer (some ⟨gp, 0, none⟩), .pointer (some ⟨gx, 0, none⟩)] w fun e w' => e = .returned (.bool (Keep.over p d x)) ∧ Fr w w' := by
  have b0 := World.block_lt_of_cell? _ _ h0
  have b3 := World.block_lt_of_cell? _ _ h3
  go_enter Try.func105, Try.ntmps105
  go_wp2_with (go_at_call 100; go_must (refine (keep_over p d A n c x _).mono ?_; rintro _ w1 ⟨rfl, hf⟩))
  go_ret
  exact ⟨rfl, ((Fr.refl _).alloc _).trans hf⟩
theorem wrong_rev (p : Prod) (x : Int) (gp gx : Nat) (d : Lot) (A : Option Addr) (n c : Nat) (w : World) (h0 : w.cell? ⟨gp, 0, none⟩ = some (.int .i64 p.id)) (h1 : w.cell? ⟨gp, 1, none⟩ = some (.int .i64 p.limit)) (h2 : w.cell? ⟨gp, 2, none⟩ = some (.int .i64 p.budget)) (h3 : w.cell? ⟨gx, 0, none⟩ = some (.int .i64 x)) :
    Calls Try.prog 108 #[aggL d A n c, .pointer (some ⟨gp, 0, none⟩), .pointer (some ⟨gx, 0, none⟩)] w fun e w' => e = .returned (.bool (Keep.over p d x)) ∧ Fr w w' := by
  have b0 := World.block_lt_of_cell? _ _ h0
  have b3 := World.block_lt_of_cell? _ _ h3
  go_enter Try.func108, Try.ntmps108
  go_wp2_with (go_at_call 100; go_must (refine (keep_over p d A n c x _).mono ?_; rintro _ w1 ⟨rfl, hf⟩))
  go_ret
  exact ⟨rfl, ((Fr.refl _).alloc _).trans hf⟩

set_option maxRecDepth 100000 in
set_option maxHeartbeats 1000000 in
theorem behind_rel (p : Prod) (x e : Int) (gp gx : Nat) (d : Lot) (A : Option Addr) (n c : Nat) (ss : List Stay) (w : World) (h : Stays w (.slice A n c) ss) (hl : ss.length ≤ 1000) (h0 : w.cell? ⟨gp, 0, none⟩ = some (.int .i64 p.id)) (h1 : w.cell? ⟨gp, 1, none⟩ = some (.int .i64 p.limit)) (h2 : w.cell? ⟨gp, 2, none⟩ = some (.int .i64 p.budget)) (h3 : w.cell? ⟨gx, 0, none⟩ = some (.int .i64 x)) :
    Calls Try.prog 103 #[aggL d A n c, .int .i64 e, .func (.func 104) #[] #[], .func (.func 105) #[] #[.pointer (some ⟨gp, 0, none⟩), .pointer (some ⟨gx, 0, none⟩)]] w fun en w' => ∃ A' n' c' ss', en = .returned (.tuple #[aggL (Keep.behind d e (fun d => d) (fun d => Keep.over p d x)).1 A' n' c', .int .i64 (Keep.behind d e (fun d => d) (fun d => Keep.over p d x)).2]) ∧ Own w.heap.size 146 3 encS w' (.slice A' n' c') ss' ∧ ((Keep.behind d e (fun d => d) (fun d => Keep.over p d x)).2 = 0 → ss' = ss) ∧ ((Keep.behind d e (fun d => d) (fun d => Keep.over p d x)).2 ≠ 0 → ss' = []) ∧ Fr w w' := by
  have HV := Lib.hid h
  have H0 := Lib.hid h0
  have H1 := Lib.hid h1
  have H2 := Lib.hid h2
  have H3 := Lib.hid h3
  clear h h0 h1 h2 h3
  by_cases he : (Status.After d.status e).2 = 0
  · have HE := Lib.hid he
    clear he
    by_cases hbad : Keep.over p { d with status := (Status.After d.status e).1 } x = true
    · have HBad := Lib.hid hbad
      clear hbad
      go_enter Try.func103, Try.ntmps103
      go_wp2_with (first | (go_at_call 16; go_must (refine (status_After _ _ _).mono ?_; rintro _ w1 ⟨rfl, hf1⟩; rw [HE.out]; have HP := (hf1.block (k := w.heap.size) (by simp; omega)).trans ((Below.heap_alloc _ _ w.heap.size (by simp)).trans (heap_alloc_new w _)); obtain ⟨⟨p0, p1, p2, p3, p4, p5, p6, p7⟩, pf⟩ := blk8 HP; replace HP := Lib.hid HP; have HQ := (hf1.block (by simp)).trans (heap_alloc_new (w.alloc _) _); simp only [World.size_alloc] at HQ; have HQ2 := Lib.hid HQ; clear HQ; have hsz := hf1.size; simp only [World.size_alloc] at hsz; have HF := Lib.hid ((((Fr.refl w).alloc _).alloc _).trans hf1); clear hf1)) | (go_at_call 101; go_must (refine (keep_own d A n c ss _ (HV.out.frF HF.out) hl).mono ?_; rintro _ w1 ⟨A2, n2, c2, rfl, hs2, hf2⟩; obtain ⟨w2, rfl⟩ : ∃ y : World, y = w1 := ⟨_, rfl⟩; clear p0 p1 p2 p3 p4 p5 p6 p7 pf; replace HQ2 := Lib.hid ((hf2.block (k := w.heap.size + 1) (by omega)).trans HQ2.out); have hsz2 : w.heap.size + 2 ≤ w2.heap.size := Nat.le_trans hsz hf2.size; replace HF := Lib.hid (HF.out.trans hf2); replace hs2 := Lib.hid (hs2.lower hsz); clear hf2 hsz)) | (go_at_call 104; go_must (refine (does_rel w2.heap.size { d with status := (Status.After d.status e).1 } A2 n2 c2 _ (heap_alloc_new w2 _)).mono ?_; rintro _ w1 ⟨rfl, hb, hc⟩; obtain ⟨w3, rfl⟩ : ∃ y : World, y = w1 := ⟨_, rfl⟩; replace HQ2 := Lib.hid (hc.blk ((Below.heap_alloc w2 _ _ (by omega)).trans HQ2.out) (by omega)); replace HF := Lib.hid (hc.fr (HF.out.alloc _) (fun k hk => by omega)); replace hs2 := Lib.hid (hc.own (hs2.out.fr ((Fr.refl w2).alloc _)) (fun k hk hF => by (have := (hs2.out.lt k hk).2; omega))); have hlt3 : w2.heap.size < w3.heap.size := Nat.lt_of_lt_of_le (by simp) hc.size; obtain ⟨⟨p0, p1, p2, p3, p4, p5, p6, p7⟩, pf⟩ := blk8 hb; have HB := Lib.hid hb; clear hb hc)) | (go_at_call 105; go_must (refine (wrong_rel p x gp gx { d with status := (Status.After d.status e).1 } A2 n2 c2 _ (HF.out.cell H0.out) (HF.out.cell H1.out) (HF.out.cell H2.out) (HF.out.cell H3.out)).mono ?_; rintro _ w1 ⟨rfl, hf4⟩; rw [HBad.out]; obtain ⟨w4, rfl⟩ : ∃ y : World, y = w1 := ⟨_, rfl⟩; replace HQ2 := Lib.hid ((hf4.block (k := w.heap.size + 1) (by omega)).trans HQ2.out); replace HF := Lib.hid (HF.out.trans hf4); replace hs2 := Lib.hid (hs2.out.fr hf4); clear p0 p1 p2 p3 p4 p5 p6 p7 pf; obtain ⟨⟨p0, p1, p2, p3, p4, p5, p6, p7⟩, pf⟩ := blk8 ((hf4.block hlt3).trans HB.out); obtain ⟨⟨q0, q1, q2, q3, q4, q5, q6, q7⟩, qf⟩ := blk8 HQ2.out; clear hf4)))
      have HBE : Keep.behind d e (fun d => d) (fun d => Keep.over p d x) = (Lot.zero, 9) := by
        unfold Keep.behind; rw [if_neg (by simp [HE.out]), if_pos HBad.out]
      refine bodyPost_ret (v := .tuple #[aggL Lot.zero none 0 0, .int .i64 9]) (by simp [results, Try.results103, go_sem, Lot.zero, *]) rfl ⟨none, 0, 0, [], by rw [HBE], Own.nil _ _ _ _ _, fun h => absurd (by rw [HBE] at h; exact h) (by decide), fun _ => rfl, ?_⟩
      iterate 8 (refine Fr.set ?_ (by simp) _)
      exact HF.out
    · have HBad : Hid (Keep.over p { d with status := (Status.After d.status e).1 } x = false) := Lib.hid (by simpa using hbad)
      clear hbad
      go_enter Try.func103, Try.ntmps103
      go_wp2_with (first | (go_at_call 16; go_must (refine (status_After _ _ _).mono ?_; rintro _ w1 ⟨rfl, hf1⟩; rw [HE.out]; have HP := (hf1.block (k := w.heap.size) (by simp; omega)).trans ((Below.heap_alloc _ _ w.heap.size (by simp)).trans (heap_alloc_new w _)); obtain ⟨⟨p0, p1, p2, p3, p4, p5, p6, p7⟩, pf⟩ := blk8 HP; replace HP := Lib.hid HP; have HQ := (hf1.block (by simp)).trans (heap_alloc_new (w.alloc _) _); simp only [World.size_alloc] at HQ; have HQ2 := Lib.hid HQ; clear HQ; have hsz := hf1.size; simp only [World.size_alloc] at hsz; have HF := Lib.hid ((((Fr.refl w).alloc _).alloc _).trans hf1); clear hf1)) | (go_at_call 101; go_must (refine (keep_own d A n c ss _ (HV.out.frF HF.out) hl).mono ?_; rintro _ w1 ⟨A2, n2, c2, rfl, hs2, hf2⟩; obtain ⟨w2, rfl⟩ : ∃ y : World, y = w1 := ⟨_, rfl⟩; clear p0 p1 p2 p3 p4 p5 p6 p7 pf; replace HQ2 := Lib.hid ((hf2.block (k := w.heap.size + 1) (by omega)).trans HQ2.out); have hsz2 : w.heap.size + 2 ≤ w2.heap.size := Nat.le_trans hsz hf2.size; replace HF := Lib.hid (HF.out.trans hf2); replace hs2 := Lib.hid (hs2.lower hsz); clear hf2 hsz)) | (go_at_call 104; go_must (refine (does_rel w2.heap.size { d with status := (Status.After d.status e).1 } A2 n2 c2 _ (heap_alloc_new w2 _)).mono ?_; rintro _ w1 ⟨rfl, hb, hc⟩; obtain ⟨w3, rfl⟩ : ∃ y : World, y = w1 := ⟨_, rfl⟩; replace HQ2 := Lib.hid (hc.blk ((Below.heap_alloc w2 _ _ (by omega)).trans HQ2.out) (by omega)); replace HF := Lib.hid (hc.fr (HF.out.alloc _) (fun k hk => by omega)); replace hs2 := Lib.hid (hc.own (hs2.out.fr ((Fr.refl w2).alloc _)) (fun k hk hF => by (have := (hs2.out.lt k hk).2; omega))); have hlt3 : w2.heap.size < w3.heap.size := Nat.lt_of_lt_of_le (by simp) hc.size; obtain ⟨⟨p0, p1, p2, p3, p4, p5, p6, p7⟩, pf⟩ := blk8 hb; have HB := Lib.hid hb; clear hb hc)) | (go_at_call 105; go_must (refine (wrong_rel p x gp gx { d with status := (Status.After d.status e).1 } A2 n2 c2 _ (HF.out.cell H0.out) (HF.out.cell H1.out) (HF.out.cell H2.out) (HF.out.cell H3.out)).mono ?_; rintro _ w1 ⟨rfl, hf4⟩; rw [HBad.out]; obtain ⟨w4, rfl⟩ : ∃ y : World, y = w1 := ⟨_, rfl⟩; replace HQ2 := Lib.hid ((hf4.block (k := w.heap.size + 1) (by omega)).trans HQ2.out); replace HF := Lib.hid (HF.out.trans hf4); replace hs2 := Lib.hid (hs2.out.fr hf4); clear p0 p1 p2 p3 p4 p5 p6 p7 pf; obtain ⟨⟨p0, p1, p2, p3, p4, p5, p6, p7⟩, pf⟩ := blk8 ((hf4.block hlt3).trans HB.out); obtain ⟨⟨q0, q1, q2, q3, q4, q5, q6, q7⟩, qf⟩ := blk8 HQ2.out; clear hf4)))
      have HBE : Keep.behind d e (fun d => d) (fun d => Keep.over p d x) = ({ d with status := (Status.After d.status e).1 }, 0) := by
        unfold Keep.behind; rw [if_neg (by simp [HE.out]), if_neg (by simp [HBad.out])]
      have hC0 : Chg (fun k => k = w.heap.size + 1) w4 w4 := Chg.refl _ _
      refine bodyPost_ret (v := .tuple #[aggL { d with status := (Status.After d.status e).1 } A2 n2 c2, .int .i64 0]) (by simp [results, Try.results103, go_sem, *]) rfl ⟨A2, n2, c2, ss, by rw [HBE], ?_, fun _ => rfl, fun h => absurd (by rw [HBE]) h, ?_⟩
      · refine (Chg.own (F := fun k => k = w.heap.size + 1) ?_ hs2.out (fun k hk hF => by have := (hs2.out.lt k hk).1; omega)).lower (by omega)
        iterate 8 (refine chg_put (F := fun k => k = w.heap.size + 1) (p := ⟨w.heap.size + 1, _, none⟩) ?_ rfl _)
        exact hC0
      · iterate 8 (refine Fr.set ?_ (by simp) _)
        exact HF.out
  · have hne : ((Status.After d.status e).2 != 0) = true := by simpa using he
    have HNE := Lib.hid he
    clear he
    go_enter Try.func103, Try.ntmps103
    go_wp2_with (go_at_call 16; go_must (refine (status_After _ _ _).mono ?_; rintro _ w1 ⟨rfl, hf1⟩; have HP := (hf1.block (k := w.heap.size) (by simp; omega)).trans ((Below.heap_alloc _ _ w.heap.size (by simp)).trans (heap_alloc_new w _)); obtain ⟨⟨p0, p1, p2, p3, p4, p5, p6, p7⟩, pf⟩ := blk8 HP; clear HP; have HQ := (hf1.block (by simp)).trans (heap_alloc_new (w.alloc _) _); simp only [World.size_alloc] at HQ; obtain ⟨⟨q0, q1, q2, q3, q4, q5, q6, q7⟩, qf⟩ := blk8 HQ; clear HQ; have HF := Lib.hid ((((Fr.refl w).alloc _).alloc _).trans hf1); clear hf1))
    have HBE : Keep.behind d e (fun d => d) (fun d => Keep.over p d x) = (Lot.zero, (Status.After d.status e).2) := by
      unfold Keep.behind; rw [if_pos HNE.out]
    refine bodyPost_ret (v := .tuple #[aggL Lot.zero none 0 0, .int .i64 (Status.After d.status e).2]) (by simp [results, Try.results103, go_sem, Lot.zero, *]) rfl ⟨none, 0, 0, [], by rw [HBE], Own.nil _ _ _ _ _, fun h => absurd (by rw [HBE] at h; exact h) HNE.out, fun _ => rfl, ?_⟩
    iterate 8 (refine Fr.set ?_ (by simp) _)
    exact HF.out
end Go.Proofs.Ythgmnlkblomcaaa
