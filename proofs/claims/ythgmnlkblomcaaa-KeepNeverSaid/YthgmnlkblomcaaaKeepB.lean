/- Lots (layer 14): a lot with stays of its own. -/
import Derived.Test.YthgmnlkblomcaaaKeep
namespace Go.Proofs.Ythgmnlkblomcaaa
open Go.RowKit Go.Hf

theorem blk8 {w : World} {g : Nat} {t : TypeId} {a0 a1 a2 a3 a4 a5 a6 a7 : Value} (h : w.heap[g]? = some (.cells #[a0, a1, a2, a3, a4, a5, a6, a7] t (0, 0))) :
    (w.cell? ⟨g, 0, none⟩ = some a0 ∧ w.cell? ⟨g, 1, none⟩ = some a1 ∧ w.cell? ⟨g, 2, none⟩ = some a2 ∧ w.cell? ⟨g, 3, none⟩ = some a3 ∧ w.cell? ⟨g, 4, none⟩ = some a4 ∧ w.cell? ⟨g, 5, none⟩ = some a5 ∧ w.cell? ⟨g, 6, none⟩ = some a6 ∧ w.cell? ⟨g, 7, none⟩ = some a7) ∧ ∀ i, w.frozen? ⟨g, i, none⟩ = false :=
  ⟨⟨cell_blk h 0 _ rfl, cell_blk h 1 _ rfl, cell_blk h 2 _ rfl, cell_blk h 3 _ rfl, cell_blk h 4 _ rfl, cell_blk h 5 _ rfl, cell_blk h 6 _ rfl, cell_blk h 7 _ rfl⟩, fun i => frozen_blk h i⟩

theorem chg_put {F : Nat → Prop} {w a : World} (h : Chg F w a) {p : Addr} (hp : F p.block) (u : Value) : Chg F w (a.setCell p u) := h.trans (Chg.set a hp u) (fun _ hb => .inl hb)

set_option maxRecDepth 100000 in
set_option maxHeartbeats 1000000 in
theorem keep_own (d : Lot) (A : Option Addr) (n c : Nat) (ss : List Stay) (w : World) (h : Stays w (.slice A n c) ss) (hl : ss.length ≤ 1000) :
    Calls Try.prog 101 #[aggL d A n c] w fun e w' => ∃ A' n' c', e = .returned (aggL d A' n' c') ∧ Own w.heap.size 146 3 encS w' (.slice A' n' c') ss ∧ Fr w w' := by
  have HV := Lib.hid h
  clear h
  go_enter Try.func101, Try.ntmps101
  go_wp2_with (go_at_call 118; go_must (refine (clone_stays _ ss _ (HV.out.frF (((Fr.refl _).alloc _).alloc _)) (by omega)).mono ?_; rintro _ w1 ⟨v', rfl, hv, hf, _⟩; obtain ⟨A2, m2, c2, rfl, _⟩ := hv.slv encS_len; obtain ⟨⟨p0, p1, p2, p3, p4, p5, p6, p7⟩, pf⟩ := blk8 ((hf.block (by simp; omega)).trans ((Below.heap_alloc _ _ w.heap.size (by simp)).trans (heap_alloc_new w _))); obtain ⟨⟨q0, q1, q2, q3, q4, q5, q6, q7⟩, qf⟩ := blk8 ((hf.block (by simp)).trans (heap_alloc_new (w.alloc _) _)); replace hv := Lib.hid hv; have HF := Lib.hid hf; have hsz := hf.size; simp only [World.size_alloc] at hsz qf q0 q1 q2 q3 q4 q5 q6 q7; clear hf))
  have hC0 : Chg (fun k => k = w.heap.size ∨ k = w.heap.size + 1) w1 w1 := Chg.refl _ _
  have hC := chg_put (chg_put (chg_put (chg_put (chg_put (chg_put (chg_put (chg_put (chg_put hC0 (p := ⟨w.heap.size, 7, none⟩) (.inl rfl) (.slice A2 m2 c2)) (p := ⟨w.heap.size + 1, 0, none⟩) (.inr rfl) (.int .i64 d.id)) (p := ⟨w.heap.size + 1, 1, none⟩) (.inr rfl) (.int .i64 d.product)) (p := ⟨w.heap.size + 1, 2, none⟩) (.inr rfl) (.int .i64 d.units)) (p := ⟨w.heap.size + 1, 3, none⟩) (.inr rfl) (.int .i64 d.expiry)) (p := ⟨w.heap.size + 1, 4, none⟩) (.inr rfl) (.int .i64 d.grant)) (p := ⟨w.heap.size + 1, 5, none⟩) (.inr rfl) (.int .i64 d.order)) (p := ⟨w.heap.size + 1, 6, none⟩) (.inr rfl) (.int .i64 d.status)) (p := ⟨w.heap.size + 1, 7, none⟩) (.inr rfl) (.slice A2 m2 c2)
  refine bodyPost_ret (v := aggL d A2 m2 c2) (by simp [results, Try.results101, go_sem, *]) rfl ⟨A2, m2, c2, rfl, (hC.own hv.out (fun k hk hF => ?_)).lower (by simp; omega), hC.fr ((((Fr.refl w).alloc _).alloc _).trans HF.out) (fun k hF => by omega)⟩
  have := (hv.out.lt k hk).1
  simp only [World.size_alloc] at this
  omega
end Go.Proofs.Ythgmnlkblomcaaa
