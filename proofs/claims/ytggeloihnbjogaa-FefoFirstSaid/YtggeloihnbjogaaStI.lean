
/- Copying into a slice of the call's own; a longer one made of its head. -/
import Derived.Test.YtggeloihnbjogaaStO
import Derived.Lib.AppendZerosOnto
import Derived.Lib.Overlaps
namespace Go.Hf
open Go.RowKit
section
variable {P : Program} {w0 w : World} {L L' R : List Asr} {α : Type} {e t : TypeId} {n bytes : Nat} {z : Value} {enc : α → List Value} {l l' : List α}
theorem flatMap_take (hn : ∀ x, (enc x).length = n) (l : List α) (i : Nat) : (l.flatMap enc).take (i * n) = (l.take i).flatMap enc := by
  by_cases h : i ≤ l.length
  · have h1 : l.flatMap enc = (l.take i).flatMap enc ++ (l.drop i).flatMap enc := by rw [← List.flatMap_append, List.take_append_drop]
    rw [h1, List.take_left' (by rw [flatMap_len hn, List.length_take, Nat.min_eq_left h])]
  · rw [List.take_of_length_le (by rw [flatMap_len hn]; exact Nat.mul_le_mul_right n (by omega)), List.take_of_length_le (by omega)]
theorem flatMap_drop (hn : ∀ x, (enc x).length = n) (l : List α) (i : Nat) : (l.flatMap enc).drop (i * n) = (l.drop i).flatMap enc := by
  by_cases h : i ≤ l.length
  · have h1 : l.flatMap enc = (l.take i).flatMap enc ++ (l.drop i).flatMap enc := by rw [← List.flatMap_append, List.take_append_drop]
    rw [h1, List.drop_left' (by rw [flatMap_len hn, List.length_take, Nat.min_eq_left h])]
  · rw [List.drop_eq_nil_of_le (by rw [flatMap_len hn]; exact Nat.mul_le_mul_right n (by omega)), List.drop_eq_nil_of_le (by omega)]
    rfl
theorem run_copy_own (w w' : World) (dT sT ty elem : TypeId) (d a : Addr) (dLen dCap sLen sCap k n : Nat) (cs : List Value) (hu : P.underlying dT = some (.slice elem)) (hi : (P.info? elem).map (·.size) = some n) (hk : Nat.min sLen dLen = k) (hc : cs.length = k * n)
    (hsrc : ∀ j v, cs[j]? = some v → w.cell? (a.add j) = some v) (hst : (storeCells d cs).run P w = .ok () w') :
    (Builtin.copy_ #[dT, sT] ty #[.slice (some d) dLen dCap, .slice (some a) sLen sCap]).run P w = .ok (goInt k) w' := by
  have hl := run_loadCells_list (P := P) w a cs hsrc
  rw [hc] at hl
  cases hq : P.info? elem with
  | none => simp [hq] at hi
  | some i =>
    have hi2 : i.size = n := by simpa [hq] using hi
    simp [Builtin.copy_, run_underlying hu, Builtin.lenOf, Builtin.firstCells, sizeOf, typeInfo, hq, hi2, hk, hl, hst]
/-- A slice of the call's own, written over from an element on. -/
theorem own_copy [s : SlTy P t e n bytes z] {g q c i k : Nat} (hn : ∀ x, (enc x).length = n) (h1 : ∀ x, ∀ u ∈ enc x, u.oneCell' = true) (I : St w0 w L) (m : Upd (OwnS e n enc (.slice (some ⟨g, 0, none⟩) q c) l) (OwnS e n enc (.slice (some ⟨g, 0, none⟩) k c) l') L L') (ls : List α) (a : Addr)
    (hsrc : ∀ j v, (ls.flatMap enc)[j]? = some v → w.cell? (a.add j) = some v) (dl dc sl sc : Nat) (hd : Nat.min sl dl = ls.length) (hi : i ≤ l.length) (hl' : l' = l.take i ++ ls ++ l.drop (i + ls.length)) (hk : l'.length = k) (hkc : k ≤ c) :
    ∃ w', (∀ sT ty, (Builtin.copy_ #[t, sT] ty #[.slice (some ⟨g, i * n, none⟩) dl dc, .slice (some a) sl sc]).run P w = .ok (goInt ls.length) w') ∧ St w0 w' L' := by
  subst hl'
  obtain ⟨R, hA, hB⟩ := m.at_
  have hq : q = l.length := by obtain ⟨_, _, h1, _⟩ := (I.own hA).reads hn; injection h1
  subst hq
  have hkl : k = max l.length (i + ls.length) := by
    rw [← hk, List.length_append, List.length_append, List.length_take, List.length_drop]; omega
  have hil : i + ls.length ≤ c := by omega
  have hin : (i + ls.length) * n ≤ c * n := Nat.mul_le_mul_right n hil
  obtain ⟨w', hr, hI⟩ := (I.take hA).over (P := P) (o := i * n) (vs := ls.flatMap enc) (l' := l.take i ++ ls ++ l.drop (i + ls.length)) (k := k) hn (by rw [flatMap_len hn, ← Nat.add_mul]; exact hin) (fun v hv => by obtain ⟨x, _, h3⟩ := List.mem_flatMap.1 hv; exact h1 x v h3) hk hkc (fun cur hc ht => by
    rw [List.flatMap_append, List.flatMap_append]
    have hti : cur.take (i * n) = (l.take i).flatMap enc := by
      rw [← flatMap_take hn l i, ← ht, List.take_take, Nat.min_eq_left (Nat.mul_le_mul_right n hi)]
    by_cases hle : l.length ≤ i + ls.length
    · have hk2 : k = i + ls.length := by omega
      rw [List.drop_eq_nil_of_le hle, List.flatMap_nil, List.append_nil, hti, List.take_left' (by
        rw [List.length_append, flatMap_len hn, flatMap_len hn, List.length_take, Nat.min_eq_left hi, ← Nat.add_mul, hk2])]
    · have hk2 : k = l.length := by omega
      rw [hk2, take_over ht (by rw [flatMap_len hn, ← Nat.add_mul]; exact Nat.mul_le_mul_right n (by omega)) (by rw [hc]; exact Nat.mul_le_mul_right n (by omega)), flatMap_take hn, flatMap_len hn, ← Nat.add_mul, flatMap_drop hn])
  have hinfo := s.info
  have hsz : (P.info? e).map (·.size) = some n := by
    cases hq : P.info? e with
    | none => simp [hq] at hinfo
    | some i => simp only [hq, Option.map_some, Option.some.injEq, Prod.mk.injEq] at hinfo; simp [hinfo.2.1]
  refine ⟨w', fun sT ty => run_copy_own w w' t sT ty e _ a dl dc sl sc ls.length n (ls.flatMap enc) s.is hsz hd (flatMap_len hn ls) hsrc hr, hI.give hB⟩
theorem zeroCells_rep {zc : Array Value} (q : Nat) : (Builtin.zeroCells zc q).toList = (List.replicate q zc.toList).flatten := by
  unfold Builtin.zeroCells
  rw [Array.toList_map, Array.toList_range]
  induction q with
  | zero => simp
  | succ q ih =>
    rw [Nat.add_mul, Nat.one_mul, List.range_add, List.map_append, ih, List.replicate_succ', List.flatten_append]
    congr 1
    simp only [List.flatten_cons, List.flatten_nil, List.append_nil]
    rw [List.map_map]
    refine List.ext_getElem (by simp) fun j h1 h2 => ?_
    simp at h1
    have : (q * zc.size + j) % zc.size = j := by rw [Nat.mul_comm, Nat.mul_add_mod, Nat.mod_eq_of_lt h1]
    simp [this, h1]
/-- A longer slice: the head of one, and zeros. -/
theorem own_longer [s : SlTy P t e n bytes z] {tn : TypeId} {g c i k : Nat} {zero : α} (hn : ∀ x, (enc x).length = n) (h0 : 0 < n) (hz : enc zero = z.cells.toList) (I : St w0 w L) (m : At (OwnS e n enc (.slice (some ⟨g, 0, none⟩) l.length c) l) L R) (hi : i ≤ l.length) (hk : 0 < k) (hroom : c < i + k) (hb : (i + k) * bytes ≤ 140737488355328) (hm : i + k ≤ maxLen) (htn : P.underlying tn = some (.int .i64)) :
    ∃ G w', (∀ ty, (Builtin.append_ #[t, tn] ty #[.slice (some ⟨g, 0, none⟩) i c, .int .i64 k]).run P w = .ok (.slice (some ⟨w.heap.size, 0, none⟩) (i + k) G) w') ∧ i + k ≤ G ∧ G ≤ maxLen ∧ St w0 w' (OwnS e n enc (.slice (some ⟨w.heap.size, 0, none⟩) (i + k) G) (l.take i ++ List.replicate k zero) :: L) := by
  have hinfo := s.info
  obtain ⟨i0, hi0, hz0, hsize, hby⟩ : ∃ i, P.info? e = some i ∧ i.zero = some z ∧ i.size = n ∧ i.bytes = bytes := by
    cases hq : P.info? e with
    | none => simp [hq] at hinfo
    | some i => simp only [hq, Option.map_some, Option.some.injEq, Prod.mk.injEq] at hinfo; exact ⟨i, rfl, hinfo.1, hinfo.2.1, hinfo.2.2⟩
  have hsl := I.slv m hn
  obtain ⟨A, q2, c2, e1, e2, e3, e4, e5, hs⟩ := hsl
  injection e1 with a1 a2 a3
  subst a1 a3
  have hraw := (hs.raw hn h0).2 _ rfl
  have hold : (Builtin.firstCells i0.size i (.slice (some ⟨g, 0, none⟩) i c)).run P w.drew = .ok ((l.take i).flatMap enc).toArray w.drew := by
    rw [hsize]
    have hlen : ((l.take i).flatMap enc).length = i * n := by rw [flatMap_len hn, List.length_take, Nat.min_eq_left hi]
    have := run_loadCells_list (P := P) w.drew ⟨g, 0, none⟩ ((l.take i).flatMap enc) (fun j v hj => by
      refine hraw j v ?_
      rw [← flatMap_take hn, List.getElem?_take] at hj
      split at hj
      · exact hj
      · cases hj)
    rw [hlen] at this
    exact this
  unfold maxLen at hm
  have h := fun ty => Go.Lib.run_append_grow_zeros w t tn ty e i0 z .i64 .i64 s.is htn hi0 hz0 (some ⟨g, 0, none⟩) i c _ hold k hk (by omega) hroom (by omega) (by rw [hby]; exact Nat.le_trans (Nat.mul_le_mul_right bytes (by omega : k ≤ i + k)) (by omega)) (by rw [hby]; exact growslice_fits hroom hb)
  have hG := grownCap_ge w (i + k) c e
  have hG2 := grownCap_le_maxLen w (i + k) c e (by unfold maxLen; omega)
  have hzs := s.zs
  have hlen : (l.take i ++ List.replicate k zero).length = i + k := by rw [List.length_append, List.length_take, List.length_replicate, Nat.min_eq_left hi]
  generalize grownCap w (i + k) c e = G at *
  obtain ⟨ROW, hROW⟩ : ∃ ROW : Array Value, ROW = ((l.take i).flatMap enc).toArray ++ Builtin.zeroCells z.cells k ++ Builtin.zeroCells z.cells (G - (i + k)) := ⟨_, rfl⟩
  rw [← hROW] at h
  have hsz : ROW.size = G * n := by
    rw [hROW, Array.size_append, Array.size_append, List.size_toArray, flatMap_len hn, List.length_take, Nat.min_eq_left hi]
    simp only [Builtin.zeroCells, Array.size_map, Array.size_range, hzs]
    rw [← Nat.add_mul, ← Nat.add_mul]
    congr 1
    omega
  have hrep : (List.replicate k z.cells.toList).flatten = (List.replicate k zero).flatMap enc := by
    rw [List.flatMap_def, List.map_replicate, hz]
  have htk : ROW.toList.take ((i + k) * n) = (l.take i ++ List.replicate k zero).flatMap enc := by
    rw [hROW, Array.toList_append, Array.toList_append, zeroCells_rep k, hrep, List.flatMap_append, List.take_left']
    rw [List.length_append, List.toList_toArray, flatMap_len hn, flatMap_len hn, List.length_take, Nat.min_eq_left hi, List.length_replicate, ← Nat.add_mul]
  have hO : Own w.heap.size e n enc (w.drew.alloc (.cells ROW e)) (.slice (some ⟨w.heap.size, 0, none⟩) (i + k) G) (l.take i ++ List.replicate k zero) :=
    ⟨flatMap_len hn _, .inr ⟨w.heap.size, G, ROW, by rw [hlen], Nat.le_refl _, by show (w.heap.push _)[w.heap.size]? = _; simp, by rw [hlen]; exact hG, hG2, hsz, by rw [hlen]; exact htk⟩⟩
  exact ⟨_, _, h, hG, hG2, I.mkOwn ((Fr.refl w).drew.alloc _) hO⟩
/-- The operation copy, its run known. -/
theorem wp_copyR {o : Oper} {a : Act} {K : Act → World → Prop} {Q : Exit → Act → World → Prop} (d x : Operand) (t t' : TypeId)
    (ho : o.op = .call { callee := .builtin .copy, args := #[d, x], argTypes := #[t, t'] }) (v u : Value) (hd : a.eval d = v) (hs : a.eval x = u) {v' : Value} {w' : World}
    (hr : (Builtin.copy_ #[t, t'] o.type #[v, u]).run P w = .ok v' w') (h : K (a.put o.dst v') w') : o.wp P a w K Q := by
  unfold Oper.wp execOp
  simp only [ho, resolve, invoke, builtin, Sem.run_bind, Sem.run_pure, Result.andThen_ok, List.map_toArray, List.map_cons, List.map_nil, hd, hs, hr]
  exact h
theorem wpList_copyR {ops : Array Oper} {rest : List Oper} {o : Oper} {a : Act} {Q : Exit → Act → World → Prop} (hgd : o.guard = none) (d x : Operand) (t t' : TypeId)
    (ho : o.op = .call { callee := .builtin .copy, args := #[d, x], argTypes := #[t, t'] }) (v u : Value) (hd : a.eval d = v) (hs : a.eval x = u) {v' : Value} {w' : World}
    (hr : (Builtin.copy_ #[t, t'] o.type #[v, u]).run P w = .ok v' w') (h : wpList P ops Q rest (a.put o.dst v') w') : wpList P ops Q (o :: rest) a w :=
  wpList_plain hgd fun _ hK => wp_copyR d x t t' ho v u hd hs hr (hK _ _ h)
theorem step_copyR {ops : Array Oper} {o : Oper} {a : Act} {K : Act → World → Prop} {Q : Exit → Act → World → Prop} {E : Prop}
    (hg : o.guard = none) (d x : Operand) (dT sT : TypeId) (hop : o.op = Op.call { callee := Callee.builtin Builtin.copy, args := #[d, x], argTypes := #[dT, sT] })
    (v u : Value) (hd : a.eval d = v) (hx : a.eval x = u) {v' : Value} {w' : World} (hr : (Builtin.copy_ #[dT, sT] o.type #[v, u]).run P w = .ok v' w') (hK : K (a.put o.dst v') w') :
    if Region.wanted o (yielded ops a.tmps) = true then Oper.wp P o a w K Q else E := by
  have hw : Region.wanted o (yielded ops a.tmps) = true := by simp [Region.wanted, hg]
  rw [if_pos hw]
  exact wp_copyR d x dT sT hop v u hd hx hr hK
/-- An append whose run is known. -/
theorem wpList_appendR {ops : Array Oper} {rest : List Oper} {o : Oper} {a : Act} {Q : Exit → Act → World → Prop} (hgd : o.guard = none) (d x : Operand) (t t' : TypeId)
    (ho : o.op = .call { callee := .builtin .append, args := #[d, x], argTypes := #[t, t'] }) (v u : Value) (hd : a.eval d = v) (hs : a.eval x = u) {v' : Value} {w' : World}
    (hr : (Builtin.append_ #[t, t'] o.type #[v, u]).run P w = .ok v' w') (h : wpList P ops Q rest (a.put o.dst v') w') : wpList P ops Q (o :: rest) a w :=
  wpList_plain hgd fun _ hK => by
    unfold Oper.wp execOp
    simp only [ho, resolve, invoke, builtin, Sem.run_bind, Sem.run_pure, Result.andThen_ok, List.map_toArray, List.map_cons, List.map_nil, hd, hs, hr]
    exact hK _ _ h
end
end Go.Hf
