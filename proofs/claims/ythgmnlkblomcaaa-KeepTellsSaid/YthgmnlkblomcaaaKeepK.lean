/- Opening products, lots and a few numbers. -/
import Derived.Test.YthgmnlkblomcaaaKeepJ
import Derived.Test.YthgmnlkblomcaaaOpen
import Derived.Deep.RegionHeld3
namespace Go.Proofs.Ythgmnlkblomcaaa
open Go.ChangeShapes Go.WideShapes Go.ChangeAt Go.RowKit Go.Hf

section
variable {H : Type} {enc : TypeId × Value → H} {W : World} {base : Nat} {v : Value} {d : DataW H} {p : List MemPlace}
theorem ints3 {cs : Array Value} (h : Flat [.int .i64, .int .i64, .int .i64] cs.toList) : ∃ a b c : Int, cs = #[.int .i64 a, .int .i64 b, .int .i64 c] := by
  obtain ⟨v0, r0, e0, ⟨a, rfl, _⟩, h0⟩ := h.cons
  obtain ⟨v1, r1, e1, ⟨b, rfl, _⟩, h1⟩ := h0.cons
  obtain ⟨v2, r2, e2, ⟨c, rfl, _⟩, h2⟩ := h1.cons
  obtain rfl := h2.nil
  subst e2 e1
  exact ⟨a, b, c, by cases cs; simp_all⟩
theorem ints4 {cs : Array Value} (h : Flat [.int .i64, .int .i64, .int .i64, .int .i64] cs.toList) : ∃ a b c d : Int, cs = #[.int .i64 a, .int .i64 b, .int .i64 c, .int .i64 d] := by
  obtain ⟨v0, r0, e0, ⟨a, rfl, _⟩, h0⟩ := h.cons
  obtain ⟨v1, r1, e1, ⟨b, rfl, _⟩, h1⟩ := h0.cons
  obtain ⟨v2, r2, e2, ⟨c, rfl, _⟩, h2⟩ := h1.cons
  obtain ⟨v3, r3, e3, ⟨d, rfl, _⟩, h3⟩ := h2.cons
  obtain rfl := h3.nil
  subst e3 e2 e1
  exact ⟨a, b, c, d, by cases cs; simp_all⟩
set_option maxRecDepth 100000 in
theorem open_prod (hv : Value.okWide Try.prog W .any base 70 v) (hd : DataW.Trod enc Try.prog W 0 (fun _ => true) true 70 v d p) : ∃ q : Prod, v = aggP q := by
  obtain ⟨cs, rfl, hf⟩ := open_flat_arg (ks := [.int .i64, .int .i64, .int .i64]) (by kernel_rfl) hv hd
  obtain ⟨a, b, c, rfl⟩ := ints3 hf
  exact ⟨⟨a, b, c⟩, rfl⟩
set_option maxRecDepth 100000 in
theorem opens_stay : Opens Try.prog 146 (flat encS) := fun enc w fuel cs x h => by
  obtain ⟨_, hf⟩ := opens_flat (ks := [.int .i64, .int .i64, .int .i64]) (by kernel_rfl) enc w fuel cs x h
  obtain ⟨a, b, c, hc⟩ := ints3 (cs := cs.toArray) (by simpa using hf)
  exact ⟨⟨a, b, c⟩, by have := congrArg Array.toList hc; simpa [flat, encS] using this⟩
set_option maxRecDepth 100000 in
theorem opens_stays : Opens Try.prog 71 (slR 3 (flat encS)) := opens_slice Try.underlying71 (by kernel_rfl) (by omega) opens_stay
/-- A lot, and its stays. -/
def lotR : Rdr (Lot × List Stay) := fun w cs q => ∃ A n c, cs = [.int .i64 q.1.id, .int .i64 q.1.product, .int .i64 q.1.units, .int .i64 q.1.expiry, .int .i64 q.1.grant, .int .i64 q.1.order, .int .i64 q.1.status, .slice A n c] ∧ Stays w (.slice A n c) q.2
set_option maxRecDepth 100000 in
theorem opens_lot : Opens Try.prog 73 lotR := fun enc w fuel cs x h => by
  obtain ⟨hl, hf⟩ := field_opens Try.underlying73 h
  obtain ⟨a0, h0⟩ := hf 0 _ rfl (opens_i64 Try.underlying3)
  obtain ⟨a1, h1⟩ := hf 1 _ rfl (opens_i64 Try.underlying3)
  obtain ⟨a2, h2⟩ := hf 2 _ rfl (opens_i64 Try.underlying3)
  obtain ⟨a3, h3⟩ := hf 3 _ rfl (opens_i64 Try.underlying3)
  obtain ⟨a4, h4⟩ := hf 4 _ rfl (opens_i64 Try.underlying3)
  obtain ⟨a5, h5⟩ := hf 5 _ rfl (opens_i64 Try.underlying3)
  obtain ⟨a6, h6⟩ := hf 6 _ rfl (opens_i64 Try.underlying22)
  obtain ⟨a7, h7⟩ := hf 7 _ rfl opens_stays
  have e0 : Try.prog.cellsOf 73 = 8 := by kernel_rfl
  have e2 : Try.prog.cellsOf 3 = 1 := by kernel_rfl
  have e3 : Try.prog.cellsOf 22 = 1 := by kernel_rfl
  have e4 : Try.prog.cellsOf 71 = 1 := by kernel_rfl
  rw [e0] at hl
  match cs, hl with
  | [c0, c1, c2, c3, c4, c5, c6, c7], _ =>
    replace h0 : ([c0, c1, c2, c3, c4, c5, c6, c7].drop 0).take (Try.prog.cellsOf 3) = encI a0 := h0
    replace h1 : ([c0, c1, c2, c3, c4, c5, c6, c7].drop 1).take (Try.prog.cellsOf 3) = encI a1 := h1
    replace h2 : ([c0, c1, c2, c3, c4, c5, c6, c7].drop 2).take (Try.prog.cellsOf 3) = encI a2 := h2
    replace h3 : ([c0, c1, c2, c3, c4, c5, c6, c7].drop 3).take (Try.prog.cellsOf 3) = encI a3 := h3
    replace h4 : ([c0, c1, c2, c3, c4, c5, c6, c7].drop 4).take (Try.prog.cellsOf 3) = encI a4 := h4
    replace h5 : ([c0, c1, c2, c3, c4, c5, c6, c7].drop 5).take (Try.prog.cellsOf 3) = encI a5 := h5
    replace h6 : ([c0, c1, c2, c3, c4, c5, c6, c7].drop 6).take (Try.prog.cellsOf 22) = encI a6 := h6
    replace h7 : slR 3 (flat encS) w (([c0, c1, c2, c3, c4, c5, c6, c7].drop 7).take (Try.prog.cellsOf 71)) a7 := h7
    rw [e2] at h0 h1 h2 h3 h4 h5
    rw [e3] at h6
    rw [e4] at h7
    simp only [List.drop, List.take] at h0 h1 h2 h3 h4 h5 h6 h7
    simp only [encI, List.cons.injEq, and_true] at h0 h1 h2 h3 h4 h5 h6
    obtain ⟨A, c, h8, h9, h10, h11, h12⟩ := h7
    simp only [List.cons.injEq, and_true] at h8
    subst h0 h1 h2 h3 h4 h5 h6 h8
    exact ⟨(⟨a0, a1, a2, a3, a4, a5, a6⟩, a7), A, _, c, rfl, A, _, c, rfl, rfl, h9, h10, h11, h12⟩
set_option maxRecDepth 100000 in
theorem open_lot (hv : Value.okWide Try.prog W .any base 73 v) (hd : DataW.Trod enc Try.prog W 0 (fun _ => true) true 73 v d p) : ∃ (l : Lot) (A : Option Addr) (n c : Nat) (ss : List Stay), v = aggL l A n c ∧ Stays W (.slice A n c) ss := by
  obtain ⟨cs, rfl, _⟩ := okWide_struct Try.underlying73 hv
  obtain ⟨fuel, hf⟩ := hd
  obtain ⟨⟨l, ss⟩, A, n, c, h1, h2⟩ := opens_lot enc W fuel _ _ hf
  refine ⟨l, A, n, c, ss, ?_, h2⟩
  have h3 : cs.toList = _ := h1
  cases cs; simp_all
end
end Go.Proofs.Ythgmnlkblomcaaa
