
/- Slices of the call's own whose elements have several cells: a row written, cut, cleared; a literal one. -/
import Derived.Test.YtggeloihnbjogaaStS
namespace Go.Hf
open Go.RowKit
section
variable {w0 w : World} {L R : List Asr} {α : Type} {e : TypeId} {n : Nat} {enc : α → List Value} {v v' : Value} {l l' : List α}
/-- Cut at k. -/
theorem Own.cut {base : Nat} {A : Option Addr} {q c k : Nat} (hn : ∀ x, (enc x).length = n) (h : Own base e n enc w (.slice A q c) l) (hk : k ≤ q) : Own base e n enc w (.slice A k c) (l.take k) := by
  have hq : q = l.length := by obtain ⟨_, _, h1, _⟩ := h.reads hn; injection h1
  subst hq
  obtain ⟨h1, h2⟩ := h
  have hlen : (l.take k).length = k := by rw [List.length_take]; omega
  refine ⟨by rw [flatMap_len hn], ?_⟩
  rcases h2 with ⟨e1, e2⟩ | ⟨g, cap, cur, e1, hb, hg, h3, h4, h5, h6⟩
  · injection e1 with a b c
    subst a
    left
    rw [hlen]
    have : k = 0 := by omega
    subst this
    subst c
    exact ⟨rfl, rfl⟩
  · injection e1 with a b c
    subst a c
    right
    refine ⟨g, _, cur, by rw [hlen], hb, hg, by rw [hlen]; omega, h4, h5, ?_⟩
    rw [hlen]
    have : ((cur.toList.take (l.length * n)).take (k * n)) = cur.toList.take (k * n) := by rw [List.take_take, Nat.min_eq_left (Nat.mul_le_mul_right n hk)]
    rw [← this, h6]
    have : l.flatMap enc = (l.take k).flatMap enc ++ (l.drop k).flatMap enc := by rw [← List.flatMap_append, List.take_append_drop]
    rw [this, List.take_left' (by rw [flatMap_len hn, hlen])]
theorem St.cut {A : Option Addr} {q c k : Nat} (hn : ∀ x, (enc x).length = n) (I : St w0 w (OwnS e n enc (.slice A q c) l :: R)) (hk : k ≤ q) : St w0 w (OwnS e n enc (.slice A k c) (l.take k) :: R) := by
  obtain ⟨a, F, ⟨F1, F2, b, c', d, e'⟩, f⟩ := I
  exact ⟨a, F, ⟨F1, F2, ⟨b.1.cut hn hk, by cases A <;> exact b.2⟩, c', d, e'⟩, f⟩
/-- Cells of the block are written over, and the slice is cut. -/
theorem St.over {P : Program} {g q c o k : Nat} {vs : List Value} (hn : ∀ x, (enc x).length = n) (I : St w0 w (OwnS e n enc (.slice (some ⟨g, 0, none⟩) q c) l :: R)) (hfit : o + vs.length ≤ c * n) (h1 : ∀ v ∈ vs, v.oneCell' = true) (hk : l'.length = k) (hkc : k ≤ c)
    (hc : ∀ cur : List Value, cur.length = c * n → cur.take (q * n) = l.flatMap enc → (cur.take o ++ vs ++ cur.drop (o + vs.length)).take (k * n) = l'.flatMap enc) :
    ∃ w', (storeCells ⟨g, o, none⟩ vs).run P w = .ok () w' ∧ St w0 w' (OwnS e n enc (.slice (some ⟨g, 0, none⟩) k c) l' :: R) := by
  have ho := I.own .here
  have hq : q = l.length := by obtain ⟨_, _, h1, _⟩ := ho.reads hn; injection h1
  subst hq
  obtain ⟨a1, F, ⟨F1, F2, b, c', d, e'⟩, f⟩ := I
  obtain ⟨⟨_, h2⟩, b2⟩ := b
  have hF := (b2 g).2 rfl
  have hge := f g ((e' g).2 (.inl hF))
  rcases h2 with ⟨e1, e2⟩ | ⟨g', cap, cur, e1, hb, hg, h3, h4, h5, h6⟩
  · cases e1
  · injection e1 with a b c2
    subst c2
    obtain rfl : g = g' := by simpa using a
    have hst := run_storeCells_at P g o e vs 0 cur w hg (by rw [h5]; simpa using hfit) h1
    refine ⟨_, hst, Below.trans a1 (B := w0.heap.size) ⟨rfl, rfl, rfl, by simp, fun j hj => setRow_other w g j _ (by omega)⟩, F, ⟨F1, F2, ⟨⟨by rw [flatMap_len hn], .inr ⟨g, c, _, by rw [hk], Nat.zero_le _, setRow_heap w g _ _ e _ hg, by omega, h4, ?_, ?_⟩⟩, b2⟩, c'.loc fun j hj => setRow_other w g j _ (fun hg => by subst hg; exact d _ hF hj), d, e'⟩, f⟩
    · simp only [List.size_toArray, List.length_append, List.length_take, List.length_drop, Array.length_toList, Nat.add_zero]
      omega
    · rw [hk]
      exact hc cur.toList (by rw [Array.length_toList, h5]) h6
end

section
variable {P : Program} {ops : Array Oper} {Q : Exit → Act → World → Prop} {rest : List Oper} {a : Act} {w0 w : World} {L : List Asr} {dst : Option Tmp} {tt ty : TypeId} {pos : String} {after : Array Edge} {x y : Operand} {α : Type} {e t : TypeId} {n bytes : Nat} {z : Value} {enc : α → List Value}
theorem take_over {α : Type} {A B V : List α} {q o : Nat} (hA : A.take q = B) (h2 : o + V.length ≤ q) (hq : q ≤ A.length) : (A.take o ++ V ++ A.drop (o + V.length)).take q = B.take o ++ V ++ B.drop (o + V.length) := by
  subst hA
  apply List.ext_getElem?
  intro j
  simp only [List.getElem?_take, List.getElem?_append, List.length_take, List.length_append, List.getElem?_drop]
  have e1 : min o A.length = o := by omega
  have e2 : min o (min q A.length) = o := by omega
  rw [e1, e2]
  by_cases c2 : j < o + V.length
  · have c1 : j < q := by omega
    rw [if_pos c1, if_pos c2, if_pos c2]
    by_cases c3 : j < o
    · rw [if_pos c3, if_pos c3, if_pos c3, if_pos c3, if_pos c1]
    · rw [if_neg c3, if_neg c3]
  · have e3 : o + V.length + (j - (o + V.length)) = j := by omega
    rw [if_neg c2, if_neg c2, e3]
theorem flatMap_put {enc : α → List Value} (hn : ∀ x, (enc x).length = n) : ∀ (l : List α) (i : Nat) (x' : α), i < l.length → (l.flatMap enc).take (i * n) ++ enc x' ++ (l.flatMap enc).drop (i * n + (enc x').length) = (l.set i x').flatMap enc
  | [], i, x', h => by simp at h
  | y :: l, 0, x', h => by
    rw [List.set_cons_zero, List.flatMap_cons, List.flatMap_cons, Nat.zero_mul, List.take_zero, List.nil_append, Nat.zero_add, hn x', List.drop_left' (hn y)]
  | y :: l, i + 1, x', h => by
    rw [List.set_cons_succ, List.flatMap_cons, List.flatMap_cons, ← flatMap_put hn l i x' (by simpa using h)]
    have e1 : (i + 1) * n = (enc y).length + i * n := by rw [hn, Nat.add_mul]; omega
    rw [e1, List.take_length_add_append, Nat.add_assoc, List.drop_length_add_append]
    simp
/-- A store of a whole element into a slice of the call's own. -/
theorem w_storeOR [o : RowTy P ty n] {L' : List Asr} {g q cap i j : Nat} {l l' : List α} {b : α} (hn : ∀ x, (enc x).length = n) (h1 : ∀ x, ∀ u ∈ enc x, u.oneCell' = true) (I : St w0 w L) (hx : a.eval x = .pointer (some ⟨g, j, none⟩)) (hy : a.eval y = .agg (enc b).toArray) (m : Upd (OwnS e n enc (.slice (some ⟨g, 0, none⟩) q cap) l) (OwnS e n enc (.slice (some ⟨g, 0, none⟩) q cap) l') L L') (hj : j = i * n) (hi : i < l.length) (hl : l.set i b = l')
    (k : ∀ w', St w0 w' L' → wpList P ops Q rest (a.put dst undef) w') : wpList P ops Q (⟨dst, .store ty x y, tt, pos, after, none⟩ :: rest) a w := by
  subst hj
  subst hl
  obtain ⟨R, hA, hB⟩ := m.at_
  have hq : q = l.length := by obtain ⟨_, _, h1, _⟩ := (I.own hA).reads hn; injection h1
  subst hq
  have hcap : l.length ≤ cap := by obtain ⟨_, _, h1, h2, _⟩ := (I.own hA).reads hn; injection h1 with _ _ e; omega
  have hin : i * n + n ≤ l.length * n := by rw [show i * n + n = (i + 1) * n by rw [Nat.add_mul]; omega]; exact Nat.mul_le_mul_right n hi
  have hin2 : l.length * n ≤ cap * n := Nat.mul_le_mul_right n hcap
  obtain ⟨w', hr, hI⟩ := (I.take hA).over (P := P) (o := i * n) (vs := enc b) (l' := l.set i b) (k := l.length) hn (by rw [hn]; omega) (h1 b) (by simp) hcap (fun cur hc ht => by
    rw [take_over ht (by rw [hn]; omega) (by omega), flatMap_put hn l i b hi])
  refine wpList_plain rfl fun K hK => ?_
  unfold Oper.wp execOp
  have hsz : (Value.agg (enc b).toArray).cells.size = n := by simp [Value.cells, hn]
  have hlist : (Value.agg (enc b).toArray).cells.toList = enc b := by simp [Value.cells]
  simp only [hx, hy, Instr.storeAt, Instr.sureAddr, Sem.run_bind, Sem.run_pure, Result.andThen_ok, storeVar, hsz, sizeOf_of o.size, ne_eq, not_true_eq_false, if_false, hlist, hr]
  exact hK _ _ (k _ (hI.give hB))
theorem zeroCells_len (zc : Array Value) (q : Nat) : (Builtin.zeroCells zc q).toList.length = q * zc.size := by simp [Builtin.zeroCells]
theorem zeroCells_one (zc : Array Value) (q : Nat) (h : ∀ v ∈ zc.toList, v.oneCell' = true) : ∀ v ∈ (Builtin.zeroCells zc q).toList, v.oneCell' = true := by
  intro v hv
  simp only [Builtin.zeroCells, Array.toList_map, List.mem_map] at hv
  obtain ⟨i, hi, rfl⟩ := hv
  have h0 : 0 < zc.size := by
    rcases Nat.eq_zero_or_pos zc.size with h | h
    · rw [h] at hi; simp at hi
    · exact h
  have hm := Nat.mod_lt i h0
  rw [getElem!_pos zc _ hm]
  exact h _ (by simp)
theorem gclear (h : wpList P ops Q (⟨dst, .call { callee := .builtin .clear, args := #[x], argTypes := #[t] }, tt, pos, after, none⟩ :: rest) a w) : wpList P ops Q (⟨dst, .call { callee := .builtin .clear, args := #[x], argTypes := #[t] }, tt, pos, after, none⟩ :: rest) a w := h
/-- 'clear(s[k:])': what is behind k is forgotten. -/
theorem w_clear [s : SlTy P t e n bytes z] {L' : List Asr} {g q c k j r rc : Nat} {l : List α} (hn : ∀ x, (enc x).length = n) (h1 : ∀ v ∈ z.cells.toList, v.oneCell' = true) (I : St w0 w L) (hx : a.eval x = .slice (some ⟨g, j, none⟩) r rc) (m : Upd (OwnS e n enc (.slice (some ⟨g, 0, none⟩) q c) l) (OwnS e n enc (.slice (some ⟨g, 0, none⟩) k c) (l.take k)) L L') (hj : j = k * n) (hr : k + r = q) (hp : 0 < r)
    (K : ∀ w', St w0 w' L' → wpList P ops Q rest (a.put dst (.tuple #[])) w') : wpList P ops Q (⟨dst, .call { callee := .builtin .clear, args := #[x], argTypes := #[t] }, tt, pos, after, none⟩ :: rest) a w := by
  subst hj
  obtain ⟨R, hA, hB⟩ := m.at_
  have hq : q = l.length := by obtain ⟨_, _, h1, _⟩ := (I.own hA).reads hn; injection h1
  subst hq
  have hcap : l.length ≤ c := by obtain ⟨_, _, h1, h2, _⟩ := (I.own hA).reads hn; injection h1 with _ _ e; omega
  have hzs := s.zs
  have hinfo := s.info
  obtain ⟨i, hi, hz0, hsize, hby⟩ : ∃ i, P.info? e = some i ∧ i.zero = some z ∧ i.size = n ∧ i.bytes = bytes := by
    cases hq : P.info? e with
    | none => simp [hq] at hinfo
    | some i => simp only [hq, Option.map_some, Option.some.injEq, Prod.mk.injEq] at hinfo; exact ⟨i, rfl, hinfo.1, hinfo.2.1, hinfo.2.2⟩
  have hin : k * n + r * n = l.length * n := by rw [← Nat.add_mul, hr]
  have hin2 : l.length * n ≤ c * n := Nat.mul_le_mul_right n hcap
  have hlen := zeroCells_len z.cells r
  rw [hzs] at hlen
  obtain ⟨w', hrun, hI⟩ := (I.take hA).over (P := P) (o := k * n) (vs := (Builtin.zeroCells z.cells r).toList) (l' := l.take k) (k := k) hn (by rw [hlen]; omega) (zeroCells_one _ _ h1) (by rw [List.length_take]; omega) (by omega) (fun cur hc ht => by
    rw [List.append_assoc, List.take_left' (by rw [List.length_take]; omega)]
    have e1 : cur.take (k * n) = (cur.take (l.length * n)).take (k * n) := by rw [List.take_take, Nat.min_eq_left (by omega)]
    have e2 : l.flatMap enc = (l.take k).flatMap enc ++ (l.drop k).flatMap enc := by rw [← List.flatMap_append, List.take_append_drop]
    rw [e1, ht, e2, List.take_left' (by rw [flatMap_len hn, List.length_take, Nat.min_eq_left (by omega)])])
  refine wpList_plain rfl fun K' hK => ?_
  have hz : (zeroValue e).run P w = .ok z w := by simp [zeroValue, typeInfo, hi, hz0]
  have hc : (Builtin.clear_ #[t] tt #[.slice (some ⟨g, k * n, none⟩) r rc]).run P w = .ok (.tuple #[]) w' := by
    obtain ⟨r', rfl⟩ : ∃ r', r = r' + 1 := ⟨r - 1, by omega⟩
    simp [Builtin.clear_, run_underlying s.is, hz, hrun]
  unfold Oper.wp execOp
  simp only [resolve, invoke, builtin, Sem.run_bind, Sem.run_pure, Result.andThen_ok, List.map_toArray, List.map_cons, List.map_nil, hx, hc]
  exact hK _ _ (K _ (hI.give hB))
theorem fold_set (off : Nat) : ∀ (vs : List Value) (i : Nat) (cs : Array Value), off + i + vs.length ≤ cs.size → (vs.zipIdx i).foldl (fun cs (x : Value × Nat) => cs.setIfInBounds (off + x.2) x.1) cs = (cs.toList.take (off + i) ++ vs ++ cs.toList.drop (off + i + vs.length)).toArray
  | [], i, cs, h => by simp
  | v :: vs, i, cs, h => by
    rw [List.zipIdx_cons, List.foldl_cons, fold_set off vs (i + 1) _ (by simp at h ⊢; omega)]
    congr 1
    rw [Array.toList_setIfInBounds, ← Nat.add_assoc]
    exact list_seg_step cs.toList (off + i) v vs (by simp at h ⊢; omega)
theorem fill_rows {enc : α → List Value} (hn : ∀ x, (enc x).length = n) (N : Nat) : ∀ (l : List α) (k : Nat) (cs : Array Value), cs.size = N * n → k + l.length ≤ N →
    Instr.fill (fun i => some (i * n, n)) cs ((l.zipIdx k).map fun p => (p.2, Value.agg (enc p.1).toArray)) = some (cs.toList.take (k * n) ++ l.flatMap enc ++ cs.toList.drop ((k + l.length) * n)).toArray
  | [], k, cs, hs, hk => by simp [Instr.fill]
  | b :: l, k, cs, hs, hk => by
    have hk' : k + (l.length + 1) ≤ N := by simpa using hk
    have hfit : k * n + n ≤ N * n := by rw [show k * n + n = (k + 1) * n by rw [Nat.add_mul]; omega]; exact Nat.mul_le_mul_right n (by omega)
    have hc : (Value.agg (enc b).toArray).cells = (enc b).toArray := rfl
    have hsz : (enc b).toArray.size = n := by simp [hn]
    rw [List.zipIdx_cons, List.map_cons]
    unfold Instr.fill
    simp only [hc, hsz, ne_eq, not_true_eq_false, decide_false, Bool.false_or, hs]
    rw [if_neg (by simp; omega)]
    have hfold : ((enc b).toArray.zipIdx.foldl (fun cs (x : Value × Nat) => cs.setIfInBounds (k * n + x.2) x.1) cs) = (cs.toList.take (k * n) ++ enc b ++ cs.toList.drop (k * n + n)).toArray := by
      rw [← Array.foldl_toList, Array.toList_zipIdx]
      have := fold_set (k * n) (enc b) 0 cs (by rw [hn, hs]; omega)
      rw [hn] at this
      exact this
    have hlen1 : (cs.toList.take (k * n) ++ enc b).length = (k + 1) * n := by rw [List.length_append, hn, List.length_take, Array.length_toList, hs, Nat.min_eq_left (by omega), Nat.add_mul]; omega
    have ih := fill_rows hn N l (k + 1) (cs.toList.take (k * n) ++ enc b ++ cs.toList.drop (k * n + n)).toArray (by rw [List.size_toArray, List.length_append, hlen1, List.length_drop, Array.length_toList, hs, Nat.add_mul]; omega) (by omega)
    refine (congrArg (fun q => Instr.fill (fun i => some (i * n, n)) q ((l.zipIdx (k + 1)).map fun p => (p.2, Value.agg (enc p.1).toArray))) hfold).trans ?_
    rw [ih]
    congr 2
    have e1 : (cs.toList.take (k * n) ++ enc b ++ cs.toList.drop (k * n + n)).take ((k + 1) * n) = cs.toList.take (k * n) ++ enc b := List.take_left' hlen1
    have e2 : (k + 1 + l.length) * n = (k + 1) * n + l.length * n := by rw [Nat.add_mul]
    have e3 : (cs.toList.take (k * n) ++ enc b ++ cs.toList.drop (k * n + n)).drop ((k + 1 + l.length) * n) = cs.toList.drop ((k + (b :: l).length) * n) := by
      rw [e2, ← hlen1, List.drop_length_add_append, List.drop_drop]
      congr 1
      rw [List.length_cons, show k + (l.length + 1) = k + 1 + l.length by omega, e2, Nat.add_mul k 1 n, Nat.one_mul]
    show ((cs.toList.take (k * n) ++ enc b ++ cs.toList.drop (k * n + n)).toArray.toList.take ((k + 1) * n)) ++ l.flatMap enc ++ ((cs.toList.take (k * n) ++ enc b ++ cs.toList.drop (k * n + n)).toArray.toList.drop ((k + 1 + l.length) * n)) = _
    rw [List.toList_toArray, e1, e3, List.flatMap_cons]
    simp
theorem gbsr {N : Nat} {parts : Array (Nat × Operand)} (h : wpList P ops Q (⟨dst, .buildSlice t N parts, tt, pos, after, none⟩ :: rest) a w) : wpList P ops Q (⟨dst, .buildSlice t N parts, tt, pos, after, none⟩ :: rest) a w := h
/-- A literal slice. -/
theorem w_bsr [s : SlTy P t e n bytes z] {N : Nat} {parts : Array (Nat × Operand)} (l : List α) (hn : ∀ x, (enc x).length = n) (I : St w0 w L) (hx : (parts.toList.map fun p => (p.1, a.eval p.2)) = (l.zipIdx.map fun p => (p.2, Value.agg (enc p.1).toArray))) (hl : l.length = N) (hN : N ≤ 1000) (hs : N * n ≤ 16777216) (h0 : 0 < N * n)
    (k : ∀ g w', St w0 w' (OwnS e n enc (.slice (some ⟨g, 0, none⟩) N N) l :: L) → wpList P ops Q rest (a.put dst (.slice (some ⟨g, 0, none⟩) N N)) w') :
    wpList P ops Q (⟨dst, .buildSlice t N parts, tt, pos, after, none⟩ :: rest) a w := by
  have hinfo := s.info
  obtain ⟨i, hi, hz0, hsize, hby⟩ : ∃ i, P.info? e = some i ∧ i.zero = some z ∧ i.size = n ∧ i.bytes = bytes := by
    cases hq : P.info? e with
    | none => simp [hq] at hinfo
    | some i => simp only [hq, Option.map_some, Option.some.injEq, Prod.mk.injEq] at hinfo; exact ⟨i, rfl, hinfo.1, hinfo.2.1, hinfo.2.2⟩
  refine wpList_plain rfl fun K hK => ?_
  have hlit := Own.lit w.heap.size e n enc w (l.flatMap enc).toArray l (Nat.le_refl _) (by unfold maxLen; omega) hn (by simp)
  rw [hl] at hlit
  have hI : St w0 (w.alloc (.cells (l.flatMap enc).toArray e)) (OwnS e n enc (.slice (some ⟨w.heap.size, 0, none⟩) N N) l :: L) := I.mkOwn ((Fr.refl w).alloc _) hlit
  unfold Oper.wp execOp
  have hzero : (zeroValue e).run P w = .ok z w := by simp [zeroValue, typeInfo, hi, hz0]
  have hsz : (sizeOf e).run P w = .ok n w := by simp [sizeOf, typeInfo, hi, hsize]
  have hrun : (Instr.buildSlice t N (l.zipIdx.map fun p => (p.2, Value.agg (enc p.1).toArray)).toArray).run P w = .ok (.slice (some ⟨w.heap.size, 0, none⟩) N N) (w.alloc (.cells (l.flatMap enc).toArray e)) := by
    have hf := fill_rows hn N l 0 ((Array.range (N * n)).map (z.cells[· % z.cells.size]!)) (by simp) (by omega)
    rw [Nat.zero_mul, List.take_zero, List.nil_append, Nat.zero_add, hl, List.drop_eq_nil_of_le (by simp), List.append_nil] at hf
    unfold Instr.buildSlice
    have h2 : ¬ N * n > 2 ^ 24 := by omega
    have h3 : ¬ N * n = 0 := by omega
    simp only [run_underlying s.is, hsz, Sem.run_bind, Result.andThen_ok, if_neg h2, if_neg h3, hzero, Sem.run_pure, hf]
    simp [newRow, newObj, Sem.run]
  have hx2 : (parts.map fun p => (p.1, a.eval p.2)) = (l.zipIdx.map fun p => (p.2, Value.agg (enc p.1).toArray)).toArray := by rw [← hx, ← Array.toList_map, Array.toArray_toList]
  simp only [hx2, hrun, Sem.run_bind, Sem.run_pure, Result.andThen_ok]
  exact hK _ _ (k _ _ hI)
/-- An element of an array's value. -/
theorem gindex (h : wpList P ops Q (⟨dst, .index t x y, tt, pos, after, none⟩ :: rest) a w) : wpList P ops Q (⟨dst, .index t x y, tt, pos, after, none⟩ :: rest) a w := h
theorem w_index [o : OneTy P e] {N : Nat} {cs : Array Value} {k : Nat} {v : Value} (ht : P.underlying t = some (.array N e)) (hx : a.eval x = .agg cs) (hy : a.eval y = .int .i64 k) (hk : k < N) (hv : cs[k]? = some v)
    (K : wpList P ops Q rest (a.put dst v) w) : wpList P ops Q (⟨dst, .index t x y, tt, pos, after, none⟩ :: rest) a w := by
  refine wpList_plain rfl fun K' hK => ?_
  unfold Oper.wp execOp
  have hk2 : (0 : Int) ≤ (k : Int) ∧ (k : Int) < ((N : Nat) : Int) := ⟨by omega, by omega⟩
  have hr : (Instr.index t (.agg cs) (.int .i64 k)).run P w = .ok v w := by
    unfold Instr.index asIntOf part
    simp [run_underlying ht, hk2, sizeOf_of o.size, isAgg_one, hv, Sem.run_bind]
    intro h
    omega
  simp only [hx, hy, hr, Sem.run_bind, Sem.run_pure, Result.andThen_ok]
  exact hK _ _ K
end
end Go.Hf
