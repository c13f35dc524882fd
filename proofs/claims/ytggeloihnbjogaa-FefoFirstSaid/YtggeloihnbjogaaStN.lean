
/- A literal slice whose elements' values are told. -/
import Derived.Test.YtggeloihnbjogaaStO
namespace Go.Hf
open Go.RowKit
section
variable {P : Program} {ops : Array Oper} {Q : Exit → Act → World → Prop} {rest : List Oper} {a : Act} {w0 w : World} {L : List Asr} {dst : Option Tmp} {tt ty : TypeId} {pos : String} {after : Array Edge} {x y : Operand} {α : Type} {e t : TypeId} {n bytes : Nat} {z : Value} {enc : α → List Value}
theorem fill_vals {enc : α → List Value} {val : α → Value} (hn : ∀ x, (enc x).length = n) (hv : ∀ x, (val x).cells = (enc x).toArray) (N : Nat) : ∀ (l : List α) (k : Nat) (cs : Array Value), cs.size = N * n → k + l.length ≤ N →
    Instr.fill (fun i => some (i * n, n)) cs ((l.zipIdx k).map fun p => (p.2, val p.1)) = some (cs.toList.take (k * n) ++ l.flatMap enc ++ cs.toList.drop ((k + l.length) * n)).toArray
  | [], k, cs, hs, hk => by simp [Instr.fill]
  | b :: l, k, cs, hs, hk => by
    have hk' : k + (l.length + 1) ≤ N := by simpa using hk
    have hfit : k * n + n ≤ N * n := by rw [show k * n + n = (k + 1) * n by rw [Nat.add_mul]; omega]; exact Nat.mul_le_mul_right n (by omega)
    have hc := hv b
    have hsz : (enc b).toArray.size = n := by simp [hn]
    rw [List.zipIdx_cons, List.map_cons]
    unfold Instr.fill
    simp only [hc, hsz, ne_eq, not_true_eq_false, decide_false, Bool.false_or, hs]
    rw [if_neg (by simp; omega)]
    have hfold : ((enc b).toArray.zipIdx.foldl (fun cs (x : Value × Nat) => cs.setIfInBounds (k * n + x.2) x.1) cs) = (cs.toList.take (k * n) ++ enc b ++ cs.toList.drop (k * n + n)).toArray := by
      rw [← Array.foldl_toList, Array.toList_zipIdx]
      have := fold_set (k * n) (enc b) 0 cs (by rw [hn, hs]; omega)
      rw [hn] at this
      exact this
    have hlen1 : (cs.toList.take (k * n) ++ enc b).length = (k + 1) * n := by rw [List.length_append, hn, List.length_take, Array.length_toList, hs, Nat.min_eq_left (by omega), Nat.add_mul]; omega
    have ih := fill_vals hn hv N l (k + 1) (cs.toList.take (k * n) ++ enc b ++ cs.toList.drop (k * n + n)).toArray (by rw [List.size_toArray, List.length_append, hlen1, List.length_drop, Array.length_toList, hs, Nat.add_mul]; omega) (by omega)
    refine (congrArg (fun q => Instr.fill (fun i => some (i * n, n)) q ((l.zipIdx (k + 1)).map fun p => (p.2, val p.1))) hfold).trans ?_
    rw [ih]
    congr 2
    have e1 : (cs.toList.take (k * n) ++ enc b ++ cs.toList.drop (k * n + n)).take ((k + 1) * n) = cs.toList.take (k * n) ++ enc b := List.take_left' hlen1
    have e2 : (k + 1 + l.length) * n = (k + 1) * n + l.length * n := by rw [Nat.add_mul]
    have e3 : (cs.toList.take (k * n) ++ enc b ++ cs.toList.drop (k * n + n)).drop ((k + 1 + l.length) * n) = cs.toList.drop ((k + (b :: l).length) * n) := by
      rw [e2, ← hlen1, List.drop_length_add_append, List.drop_drop]
      congr 1
      rw [List.length_cons, show k + (l.length + 1) = k + 1 + l.length by omega, e2, Nat.add_mul k 1 n, Nat.one_mul]
    show ((cs.toList.take (k * n) ++ enc b ++ cs.toList.drop (k * n + n)).toArray.toList.take ((k + 1) * n)) ++ l.flatMap enc ++ ((cs.toList.take (k * n) ++ enc b ++ cs.toList.drop (k * n + n)).toArray.toList.drop ((k + 1 + l.length) * n)) = _
    rw [List.toList_toArray, e1, e3, List.flatMap_cons]
    simp
/-- A literal slice, its elements' values told. -/
theorem w_bsv [s : SlTy P t e n bytes z] {N : Nat} {parts : Array (Nat × Operand)} (l : List α) (val : α → Value) (hv : ∀ x, (val x).cells = (enc x).toArray) (hn : ∀ x, (enc x).length = n) (I : St w0 w L) (hx : (parts.toList.map fun p => (p.1, a.eval p.2)) = (l.zipIdx.map fun p => (p.2, val p.1))) (hl : l.length = N) (hN : N ≤ 1000) (hs : N * n ≤ 16777216) (h0 : 0 < N * n)
    (k : ∀ g w', St w0 w' (OwnS e n enc (.slice (some ⟨g, 0, none⟩) N N) l :: L) → wpList P ops Q rest (a.put dst (.slice (some ⟨g, 0, none⟩) N N)) w') :
    wpList P ops Q (⟨dst, .buildSlice t N parts, tt, pos, after, none⟩ :: rest) a w := by
  have hinfo := s.info
  obtain ⟨i, hi, hz0, hsize, hby⟩ : ∃ i, P.info? e = some i ∧ i.zero = some z ∧ i.size = n ∧ i.bytes = bytes := by
    cases hq : P.info? e with
    | none => simp [hq] at hinfo
    | some i => simp only [hq, Option.map_some, Option.some.injEq, Prod.mk.injEq] at hinfo; exact ⟨i, rfl, hinfo.1, hinfo.2.1, hinfo.2.2⟩
  refine wpList_plain rfl fun K hK => ?_
  have hlit := Own.lit w.heap.size e n enc w (l.flatMap enc).toArray l (Nat.le_refl _) (by unfold maxLen; omega) hn (by simp)
  rw [hl] at hlit
  have hI : St w0 (w.alloc (.cells (l.flatMap enc).toArray e)) (OwnS e n enc (.slice (some ⟨w.heap.size, 0, none⟩) N N) l :: L) := I.mkOwn ((Fr.refl w).alloc _) hlit
  unfold Oper.wp execOp
  have hzero : (zeroValue e).run P w = .ok z w := by simp [zeroValue, typeInfo, hi, hz0]
  have hsz : (sizeOf e).run P w = .ok n w := by simp [sizeOf, typeInfo, hi, hsize]
  have hrun : (Instr.buildSlice t N (l.zipIdx.map fun p => (p.2, val p.1)).toArray).run P w = .ok (.slice (some ⟨w.heap.size, 0, none⟩) N N) (w.alloc (.cells (l.flatMap enc).toArray e)) := by
    have hf := fill_vals hn hv N l 0 ((Array.range (N * n)).map (z.cells[· % z.cells.size]!)) (by simp) (by omega)
    rw [Nat.zero_mul, List.take_zero, List.nil_append, Nat.zero_add, hl, List.drop_eq_nil_of_le (by simp), List.append_nil] at hf
    unfold Instr.buildSlice
    have h2 : ¬ N * n > 2 ^ 24 := by omega
    have h3 : ¬ N * n = 0 := by omega
    simp only [run_underlying s.is, hsz, Sem.run_bind, Result.andThen_ok, if_neg h2, if_neg h3, hzero, Sem.run_pure, hf]
    simp [newRow, newObj, Sem.run]
  have hx2 : (parts.map fun p => (p.1, a.eval p.2)) = (l.zipIdx.map fun p => (p.2, val p.1)).toArray := by rw [← hx, ← Array.toList_map, Array.toArray_toList]
  simp only [hx2, hrun, Sem.run_bind, Sem.run_pure, Result.andThen_ok]
  exact hK _ _ (k _ _ hI)
end
end Go.Hf
