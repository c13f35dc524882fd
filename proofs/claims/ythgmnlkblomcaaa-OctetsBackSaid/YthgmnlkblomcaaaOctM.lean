/- Octets (layer 4): things that come in as arguments. -/
import Derived.Test.YthgmnlkblomcaaaOctL
namespace Go.Proofs.Ythgmnlkblomcaaa
open Go.ChangeShapes Go.WideShapes Go.ChangeAt Go.RowKit Go.Hf

theorem opens_bytes : Opens Try.prog 35 (slR 1 (flat encB)) :=
  opens_slice Try.underlying35 (by kernel_rfl) (by omega) (opens_byte Try.underlying5)
theorem opens_u64 : Opens Try.prog 94 (α := Nat) (fun _ cs n => cs = [.int .u64 n] ∧ n < 18446744073709551616) :=
  fun enc w fuel cs x h => by
    obtain ⟨n, h1, h2⟩ := opens_int Try.underlying94 enc w fuel cs x h
    have h3 : 0 ≤ n ∧ n ≤ 18446744073709551615 := by simpa [Lit.wf, IntKind.min, IntKind.max, IntKind.signed, IntKind.bits] using h2
    refine ⟨n.toNat, ?_, by omega⟩
    rw [h1, Int.toNat_of_nonneg h3.1]
set_option maxRecDepth 100000 in
theorem opens_thing : Opens Try.prog 96 thingR := fun enc w fuel cs x h => by
  obtain ⟨hl, hf⟩ := field_opens Try.underlying96 h
  obtain ⟨k, h0⟩ := hf 0 _ rfl (opens_byte Try.underlying5)
  obtain ⟨n, h1⟩ := hf 1 _ rfl opens_u64
  obtain ⟨a, h2⟩ := hf 2 _ rfl (opens_i64 Try.underlying3)
  obtain ⟨l, h3⟩ := hf 3 _ rfl opens_bytes
  have e0 : Try.prog.cellsOf 96 = 4 := by kernel_rfl
  have e1 : Try.prog.cellsOf 5 = 1 := by kernel_rfl
  have e2 : Try.prog.cellsOf 94 = 1 := by kernel_rfl
  have e3 : Try.prog.cellsOf 3 = 1 := by kernel_rfl
  have e4 : Try.prog.cellsOf 35 = 1 := by kernel_rfl
  rw [e0] at hl
  match cs, hl with
  | [c0, c1, c2, c3], _ =>
    replace h0 : ([c0, c1, c2, c3].drop 0).take (Try.prog.cellsOf 5) = encB k := h0
    replace h1 : ([c0, c1, c2, c3].drop 1).take (Try.prog.cellsOf 94) = [.int .u64 n] ∧ n < 18446744073709551616 := h1
    replace h2 : ([c0, c1, c2, c3].drop 2).take (Try.prog.cellsOf 3) = encI a := h2
    replace h3 : slR 1 (flat encB) w (([c0, c1, c2, c3].drop 3).take (Try.prog.cellsOf 35)) l := h3
    rw [e1] at h0
    rw [e2] at h1
    rw [e3] at h2
    rw [e4] at h3
    obtain ⟨A, c, h3, h4⟩ := h3
    obtain ⟨h1, h5⟩ := h1
    simp only [List.drop, List.take] at h0 h1 h2 h3
    simp only [encB, encI, List.cons.injEq, and_true] at h0 h1 h2 h3
    subst h0 h1 h2 h3
    exact ⟨⟨k, n, a, l⟩, .slice A l.length c, rfl, ⟨A, _, c, rfl, rfl, h4⟩, h5⟩
set_option maxRecDepth 100000 in
theorem opens_things : Opens Try.prog 87 (slR 4 thingR) :=
  opens_slice Try.underlying87 (by kernel_rfl) (by omega) opens_thing
end Go.Proofs.Ythgmnlkblomcaaa
