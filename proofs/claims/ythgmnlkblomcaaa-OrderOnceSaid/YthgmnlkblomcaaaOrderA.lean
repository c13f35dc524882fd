/- Acts; a book by its acts. -/
import Derived.Test.YthgmnlkblomcaaaOrderD
import Derived.Test.YthgmnlkblomcaaaFrame
import Derived.Deep.RegionHeld3
namespace Go.Proofs.Ythgmnlkblomcaaa
open Go.ChangeShapes Go.WideShapes Go.ChangeAt Go.RowKit Go.Hf

/-- An act. -/
structure Act where
  kind : UInt8
  a : Int
  b : Int
def encA (x : Act) : List Value := [.int .u8 (x.kind.toNat : Int), .int .i64 x.a, .int .i64 x.b]

theorem eq_ord_self (y : Ord) (wx : World) : (Op.equalIn 10000 61 (.agg #[.int .i64 y.id, .int .i64 y.product, .int .i64 y.units, .int .i64 y.state]) (.agg #[.int .i64 y.id, .int .i64 y.product, .int .i64 y.units, .int .i64 y.state])).run Try.prog wx = .ok true wx := by
  have := eq_ord y y wx
  simpa using this

set_option maxRecDepth 100000 in
theorem opens_act : Opens Try.prog 50 (flat encA) := fun enc w fuel cs x h => by
  obtain ⟨hl, hf⟩ := field_opens Try.underlying50 h
  obtain ⟨k, hk⟩ := hf 0 _ rfl (opens_byte Try.underlying5)
  obtain ⟨a, ha⟩ := hf 1 _ rfl (opens_i64 Try.underlying3)
  obtain ⟨b, hb⟩ := hf 2 _ rfl (opens_i64 Try.underlying3)
  refine ⟨⟨k, a, b⟩, ?_⟩
  have e0 : Try.prog.cellsOf 50 = 3 := by kernel_rfl
  have e1 : Try.prog.cellsOf 5 = 1 := by kernel_rfl
  have e2 : Try.prog.cellsOf 3 = 1 := by kernel_rfl
  rw [e0] at hl
  match cs, hl with
  | [c0, c1, c2], _ =>
    replace hk : ([c0, c1, c2].drop 0).take (Try.prog.cellsOf 5) = encB k := hk
    replace ha : ([c0, c1, c2].drop 1).take (Try.prog.cellsOf 3) = encI a := ha
    replace hb : ([c0, c1, c2].drop 2).take (Try.prog.cellsOf 3) = encI b := hb
    rw [e1] at hk
    rw [e2] at ha hb
    simp only [List.drop, List.take] at hk ha hb
    simp only [encB, encI, List.cons.injEq, and_true] at hk ha hb
    subst hk ha hb
    rfl
theorem opens_acts : Opens Try.prog 45 (slR 3 (flat encA)) :=
  opens_slice Try.underlying45 (by kernel_rfl) (by omega) opens_act

end Go.Proofs.Ythgmnlkblomcaaa
