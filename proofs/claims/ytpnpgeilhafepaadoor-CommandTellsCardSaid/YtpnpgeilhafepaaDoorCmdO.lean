
/- Commands (layer 18): a command, and bytes, that come in. -/
import Derived.Test.YtpnpgeilhafepaaDoorCmdC
import Derived.Test.YtpnpgeilhafepaaDoorCmdP
import Derived.Test.YtpnpgeilhafepaaDoorOpen
namespace Go.Proofs.YtpnpgeilhafepaaDoor
open Go.ChangeShapes Go.WideShapes Go.ChangeAt Go.RowKit Go.Hf

section
variable {H : Type} {enc : TypeId × Value → H} {W : World} {base : Nat} {v : Value} {d : DataW H} {p : List MemPlace}
theorem opens_bytes : Opens Tryd.prog 23 (slR 1 (flat encB)) := opens_slice Tryd.underlying23 (by kernel_rfl) (by omega) (opens_byte Tryd.underlying5)
theorem opens_in {t : TypeId} (ht : Tryd.prog.underlying t = some (.int .i64)) : Opens Tryd.prog t (α := Int) (fun _ cs n => cs = encI n ∧ Cmd.inI n) :=
  fun enc w fuel cs x h => by
    obtain ⟨n, h1, h2⟩ := opens_int ht enc w fuel cs x h
    have h3 : -9223372036854775808 ≤ n ∧ n ≤ 9223372036854775807 := by simpa [Lit.wf, IntKind.min, IntKind.max, IntKind.signed, IntKind.bits] using h2
    exact ⟨n, h1, by unfold Cmd.inI; omega⟩
/-- A command, and its bytes. -/
def cmdR : Rdr (Com × List UInt8) := fun w cs q => ∃ A n c, cs = [.int .i64 q.1.kind, .int .i64 q.1.a, .int .i64 q.1.b, .int .i64 q.1.c, .int .i64 q.1.d, .int .i64 q.1.e, .slice A n c] ∧ Bytes w (.slice A n c) q.2 ∧ ∀ x ∈ Cmd.nums q.1, Cmd.inI x
set_option maxRecDepth 100000 in
theorem opens_cmd : Opens Tryd.prog 25 cmdR := fun enc w fuel cs x h => by
  obtain ⟨hl, hf⟩ := field_opens Tryd.underlying25 h
  obtain ⟨a0, h0⟩ := hf 0 _ rfl (opens_i64 Tryd.underlying22)
  obtain ⟨a1, h1⟩ := hf 1 _ rfl (opens_in Tryd.underlying3)
  obtain ⟨a2, h2⟩ := hf 2 _ rfl (opens_in Tryd.underlying3)
  obtain ⟨a3, h3⟩ := hf 3 _ rfl (opens_in Tryd.underlying3)
  obtain ⟨a4, h4⟩ := hf 4 _ rfl (opens_in Tryd.underlying3)
  obtain ⟨a5, h5⟩ := hf 5 _ rfl (opens_in Tryd.underlying3)
  obtain ⟨a6, h6⟩ := hf 6 _ rfl opens_bytes
  have e0 : Tryd.prog.cellsOf 25 = 7 := by kernel_rfl
  have e2 : Tryd.prog.cellsOf 3 = 1 := by kernel_rfl
  have e3 : Tryd.prog.cellsOf 22 = 1 := by kernel_rfl
  have e4 : Tryd.prog.cellsOf 23 = 1 := by kernel_rfl
  rw [e0] at hl
  match cs, hl with
  | [c0, c1, c2, c3, c4, c5, c6], _ =>
    replace h0 : ([c0, c1, c2, c3, c4, c5, c6].drop 0).take (Tryd.prog.cellsOf 22) = encI a0 := h0
    replace h1 : ([c0, c1, c2, c3, c4, c5, c6].drop 1).take (Tryd.prog.cellsOf 3) = encI a1 ∧ Cmd.inI a1 := h1
    replace h2 : ([c0, c1, c2, c3, c4, c5, c6].drop 2).take (Tryd.prog.cellsOf 3) = encI a2 ∧ Cmd.inI a2 := h2
    replace h3 : ([c0, c1, c2, c3, c4, c5, c6].drop 3).take (Tryd.prog.cellsOf 3) = encI a3 ∧ Cmd.inI a3 := h3
    replace h4 : ([c0, c1, c2, c3, c4, c5, c6].drop 4).take (Tryd.prog.cellsOf 3) = encI a4 ∧ Cmd.inI a4 := h4
    replace h5 : ([c0, c1, c2, c3, c4, c5, c6].drop 5).take (Tryd.prog.cellsOf 3) = encI a5 ∧ Cmd.inI a5 := h5
    replace h6 : slR 1 (flat encB) w (([c0, c1, c2, c3, c4, c5, c6].drop 6).take (Tryd.prog.cellsOf 23)) a6 := h6
    obtain ⟨h1, i1⟩ := h1
    obtain ⟨h2, i2⟩ := h2
    obtain ⟨h3, i3⟩ := h3
    obtain ⟨h4, i4⟩ := h4
    obtain ⟨h5, i5⟩ := h5
    rw [e3] at h0
    rw [e2] at h1 h2 h3 h4 h5
    rw [e4] at h6
    simp only [List.drop, List.take] at h0 h1 h2 h3 h4 h5 h6
    simp only [encI, List.cons.injEq, and_true] at h0 h1 h2 h3 h4 h5
    obtain ⟨A, c, h8, h9, h10, h11, h12⟩ := h6
    simp only [List.cons.injEq, and_true] at h8
    subst h0 h1 h2 h3 h4 h5 h8
    refine ⟨(⟨a0, a1, a2, a3, a4, a5⟩, a6), A, _, c, rfl, ⟨A, _, c, rfl, rfl, h9, h10, h11, h12⟩, ?_⟩
    intro x hx
    simp only [Cmd.nums, List.mem_cons, List.not_mem_nil, or_false] at hx
    rcases hx with rfl | rfl | rfl | rfl | rfl <;> assumption
set_option maxRecDepth 100000 in
theorem open_cmd (hv : Value.okWide Tryd.prog W .any base 25 v) (hd : DataW.Trod enc Tryd.prog W 0 (fun _ => true) true 25 v d p) : ∃ (m : Com) (A : Option Addr) (n c : Nat) (bs : List UInt8), v = aggM m A n c ∧ Bytes W (.slice A n c) bs ∧ ∀ x ∈ Cmd.nums m, Cmd.inI x := by
  obtain ⟨cs, rfl, _⟩ := okWide_struct Tryd.underlying25 hv
  obtain ⟨fuel, hf⟩ := hd
  obtain ⟨⟨m, bs⟩, A, n, c, h1, h2, h4⟩ := opens_cmd enc W fuel _ _ hf
  refine ⟨m, A, n, c, bs, ?_, h2, h4⟩
  have h3 : cs.toList = _ := h1
  cases cs; simp_all
end
end Go.Proofs.YtpnpgeilhafepaaDoor
