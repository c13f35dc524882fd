
/- A literal slice without elements. -/
import Derived.Test.YtggeloihnbjogaaStR
namespace Go.Hf
open Go.RowKit
section
variable {P : Program} {ops : Array Oper} {Q : Exit → Act → World → Prop} {rest : List Oper} {a : Act} {w0 w : World} {L : List Asr} {dst : Option Tmp} {tt : TypeId} {pos : String} {after : Array Edge} {α : Type} {e t : TypeId} {n bytes : Nat} {z : Value} {enc : α → List Value}
theorem gbs0 (h : wpList P ops Q (⟨dst, .buildSlice t 0 #[], tt, pos, after, none⟩ :: rest) a w) : wpList P ops Q (⟨dst, .buildSlice t 0 #[], tt, pos, after, none⟩ :: rest) a w := h
theorem w_bs0 [s : SlTy P t e n bytes z] (hn : ∀ x, (enc x).length = n) (I : St w0 w L)
    (k : ∀ g w', St w0 w' (OwnS e n enc (.slice (some ⟨g, 0, none⟩) 0 0) [] :: L) → wpList P ops Q rest (a.put dst (.slice (some ⟨g, 0, none⟩) 0 0)) w') :
    wpList P ops Q (⟨dst, .buildSlice t 0 #[], tt, pos, after, none⟩ :: rest) a w := by
  have hinfo := s.info
  obtain ⟨i, hi, hz0, hsize, hby⟩ : ∃ i, P.info? e = some i ∧ i.zero = some z ∧ i.size = n ∧ i.bytes = bytes := by
    cases hq : P.info? e with
    | none => simp [hq] at hinfo
    | some i => simp only [hq, Option.map_some, Option.some.injEq, Prod.mk.injEq] at hinfo; exact ⟨i, rfl, hinfo.1, hinfo.2.1, hinfo.2.2⟩
  refine wpList_plain rfl fun K hK => ?_
  have hI : St w0 (w.alloc (.cells #[] e)) (OwnS e n enc (.slice (some ⟨w.heap.size, 0, none⟩) 0 0) [] :: L) :=
    I.mkOwn ((Fr.refl w).alloc _) (Own.lit w.heap.size e n enc w #[] [] (Nat.le_refl _) (by simp [maxLen]) hn (by simp))
  unfold Oper.wp execOp
  have hzero : (zeroValue e).run P w = .ok z w := by simp [zeroValue, typeInfo, hi, hz0]
  have hsz : (sizeOf e).run P w = .ok n w := by simp [sizeOf, typeInfo, hi, hsize]
  have hrun : (Instr.buildSlice t 0 #[]).run P w = .ok (.slice (some ⟨w.heap.size, 0, none⟩) 0 0) (w.alloc (.cells #[] e)) := by
    unfold Instr.buildSlice
    simp [run_underlying s.is, hsz, hzero, Instr.fill, newRow, newObj, Sem.run, show Array.range 0 = #[] from rfl]
  simp only [List.map_toArray, List.map_nil, Sem.run_bind, Sem.run_pure, Result.andThen_ok, hrun]
  exact hK _ _ (k _ _ hI)
end
end Go.Hf
