/- Contracts of package order's reference. -/
import Derived.Test.YthgmnlkblomcaaaOrderB
import Derived.Laws.StructEq
namespace Go.Proofs.Ythgmnlkblomcaaa
open Go.RowKit Go.Hf

theorem eq_ord (x y : Ord) (wx : World) : (Op.equalIn 10000 61 (aggO x) (aggO y)).run Try.prog wx = .ok (x == y) wx := by
  have hu := Try.underlying61
  have h3 := Try.underlying3
  go_simp
  clear hu h3
  rcases x with ⟨a, b, c, d⟩
  rcases y with ⟨a', b', c', d'⟩
  (repeat' split) <;> simp_all

namespace Order
def refGet (l : List Ord) (id : Int) : Ord × Int := match l.find? (fun o => o.id == id) with | some o => (o, 0) | none => (zero, 5)
def refChange (l : List Ord) (id frm to_ : Int) : List Ord × Int :=
  if (refGet l id).2 ≠ 0 then (l, (refGet l id).2) else if (refGet l id).1.state ≠ frm then (l, 8) else (l.map fun x => if x.id = id then { x with state := to_ } else x, 0)
theorem find_at (l : List Ord) (id : Int) (k : Nat) (hk : k < l.length) (hp : ∀ i o, i < k → l[i]? = some o → (o.id == id) = false) (h : (l[k].id == id) = true) : refGet l id = (l[k], 0) := by
  have : l.find? (fun o => o.id == id) = some l[k] := by
    rw [List.find?_eq_some_iff_getElem]
    refine ⟨h, k, hk, rfl, fun j hj => ?_⟩
    have := hp j _ hj (List.getElem?_eq_getElem (by omega))
    simpa using this
  unfold refGet; rw [this]
theorem find_none (l : List Ord) (id : Int) (hp : ∀ i o, i < l.length → l[i]? = some o → (o.id == id) = false) : refGet l id = (zero, 5) := by
  have : l.find? (fun o => o.id == id) = none := by
    rw [List.find?_eq_none]
    intro o ho
    obtain ⟨i, hi, rfl⟩ := List.getElem_of_mem ho
    simp [hp i _ hi (List.getElem?_eq_getElem hi)]
  unfold refGet; rw [this]
theorem refGet_err (l : List Ord) (id : Int) : (refGet l id).2 = 0 ∨ refGet l id = (zero, 5) := by
  unfold refGet; split
  · exact .inl rfl
  · exact .inr rfl
end Order

set_option maxRecDepth 100000 in
set_option maxHeartbeats 2000000 in
theorem ref16_Order (v : Value) (l : List Ord) (id : Int) (w : World) (h : Orders w v l) :
    Calls Try.prog 43 #[v, .int .i64 id] w fun e w' => e = .returned (.tuple #[aggO (Order.refGet l id).1, .int .i64 (Order.refGet l id).2]) ∧ Fr w w' := by
  have hm := h.len_le
  unfold maxLen at hm
  obtain ⟨A, _, c, rfl, rfl, _, _, _, hs⟩ := h
  have HS := Lib.hid hs
  clear hs
  go_enter Try.func43, Try.ntmps43
  go_wp2_with fail
  go_loop [6] (fun i => ∃ k : Nat, i = .int .i64 k ∧ k ≤ l.length ∧ Hid (∀ i o, i < k → l[i]? = some o → (o.id == id) = false)) (fun i => l.length - (intOf i).toNat)
  case atStart => exact ⟨0, rfl, by omega, fun i o h => by omega⟩
  case round =>
    obtain ⟨k, rfl, hk, hu⟩ := hrel
    by_cases hlt : k < l.length
    · obtain ⟨b, o, rfl, hbl, hc0, hc1, hc2, hc3⟩ := atO HS.out k hlt
      have HF := Lib.hid (fun h => Order.find_at l id k hlt hu.out h)
      have HN := Lib.hid (show (l[k].id == id) = false → ∀ i o, i < k + 1 → l[i]? = some o → (o.id == id) = false from fun h i o hi ho => by
        by_cases e : i = k
        · subst e; rw [List.getElem?_eq_getElem hlt] at ho; obtain rfl := Option.some.inj ho; exact h
        · exact hu.out i o (by omega) ho)
      generalize l[k] = x at *
      by_cases hx : x.id = id
      · have HG := Lib.hid (HF.out (by simp [hx]))
        have hx' : (x.id == id) = true := by simp [hx]
        clear hx
        go_wp2_with fail
        exact bodyPost_ret (v := .tuple #[aggO x, .int .i64 0]) (by simp [results, Try.results43, go_sem, aggO]) rfl ⟨by rw [HG.out], (Fr.refl _).alloc _⟩
      · have hx' : (x.id == id) = false := by simp [hx]
        have HM := Lib.hid (HN.out hx')
        clear hx
        go_wp2_with fail
        go_round
        case rel => exact ⟨k + 1, by go_num, by omega, HM⟩
        case measure => simp [intOf]; omega
    · obtain rfl : k = l.length := by omega
      have HG := Lib.hid (Order.find_none l id hu.out)
      go_wp2_with fail
      exact bodyPost_ret (v := .tuple #[aggO Order.zero, .int .i64 5]) (by simp [results, Try.results43, go_sem, aggO, Order.zero]) rfl ⟨by rw [HG.out], (Fr.refl _).alloc _⟩

set_option maxRecDepth 100000 in
set_option maxHeartbeats 1000000 in
theorem ref16_Same (v1 v2 : Value) (l1 l2 : List Ord) (w : World) (h1 : Orders w v1 l1) (h2 : Orders w v2 l2) :
    Calls Try.prog 40 #[v1, v2] w fun e w' => e = .returned (.bool (l1 == l2)) ∧ Dr w w' := by
  have hm := h1.len_le
  have hm2 := h2.len_le
  unfold maxLen at hm hm2
  obtain ⟨A1, _, c1, rfl, rfl, _, _, _, hs1⟩ := h1
  obtain ⟨A2, _, c2, rfl, rfl, _, _, _, hs2⟩ := h2
  have H1 := Lib.hid hs1
  have H2 := Lib.hid hs2
  clear hs1 hs2
  by_cases hlen : l1.length = l2.length
  · have HL := Lib.hid hlen
    have hd : ((l1.length : Int) != (l2.length : Int)) = false := by simp [hlen]
    have hlt2 : ∀ k, k < l1.length → k < l2.length := fun k h => by omega
    have HT := Lib.hid hlt2
    clear hlen hlt2
    go_enter Try.func40, Try.ntmps40
    go_wp2_with fail
    go_loopw [5] (fun i wr => ∃ k : Nat, i = .int .i64 k ∧ k ≤ l1.length ∧ Hid (l1.take k = l2.take k) ∧ Dr w wr) (fun i _ => l1.length - (intOf i).toNat)
    case atStart => exact ⟨0, rfl, by omega, rfl, Dr.refl _⟩
    case round =>
      obtain ⟨k, rfl, hk, ht, hf⟩ := hrel
      by_cases hlt : k < l1.length
      · have hlt2 := HT.out k hlt
        obtain ⟨b1, o1, rfl, hb1, hc0, hc1, hc2, hc3⟩ := atO (H1.out.fr (flat_stays _) hf.fr) k hlt
        obtain ⟨b2, o2, rfl, hb2, hd0, hd1, hd2, hd3⟩ := atO (H2.out.fr (flat_stays _) hf.fr) k hlt2
        have HS := Lib.hid (fun h => take_eq_step l1 l2 k hlt hlt2 ht.out h)
        have HN := Lib.hid (fun h => beq_false_of_get l1 l2 k hlt hlt2 h)
        generalize l1[k] = x at *
        generalize l2[k] = y at *
        have hi1 : (k : Int) < (l1.length : Int) := by omega
        have hi2 : (k : Int) < (l2.length : Int) := by omega
        have he := eq_ord x y
        cases hxy : (x == y) with
        | true =>
          rw [hxy] at he
          have HE := Lib.hid (HS.out (by simpa using hxy))
          clear hxy
          go_wp2_with fail
          go_quiet (fail)
          go_wp2_with fail
          go_roundw
          case rel => exact ⟨k + 1, by go_num, by omega, HE, hf.drewN _⟩
          case measure => simp [intOf]; omega
        | false =>
          rw [hxy] at he
          have HE := Lib.hid (HN.out (by simpa using hxy))
          clear hxy
          go_wp2_with fail
          go_quiet (fail)
          go_wp2_with fail
          go_ret
          exact ⟨by rw [HE.out]; rfl, hf.drewN _⟩
      · obtain rfl : k = l1.length := by omega
        have HE := Lib.hid (beq_of_take l1 l2 HL.out ht.out)
        go_wp2_with fail
        go_ret
        exact ⟨by rw [HE.out]; rfl, hf⟩
  · rw [beq_false_of_len _ _ hlen]
    have hd : ((l1.length : Int) != (l2.length : Int)) = true := by simp; omega
    go_enter Try.func40, Try.ntmps40
    go_wp2_with fail
    go_ret
    exact ⟨rfl, Dr.refl _⟩

theorem not_wanted (p u : Int) (h : Order.wanted p u = false) : p < 1 ∨ ¬ p < 1 ∧ 16 < p ∨ ¬ p < 1 ∧ ¬ 16 < p ∧ u < 1 ∨ ¬ p < 1 ∧ ¬ 16 < p ∧ ¬ u < 1 ∧ 1048576 < u := by
  unfold Order.wanted at h; simp at h; omega

set_option maxRecDepth 100000 in
set_option maxHeartbeats 2000000 in
theorem ref16_Want (B : Nat) (v : Value) (l : List Ord) (p u : Int) (w : World) (h : Own B 61 4 encO w v l) (hB : B ≤ w.heap.size) (hl : l.length ≤ 1000) :
    Calls Try.prog 39 #[v, .int .i64 p, .int .i64 u] w fun e w' => ∃ v', e = .returned (.tuple #[v', .int .i64 (Order.want l p u).2.1, .int .i64 (Order.want l p u).2.2]) ∧ Own B 61 4 encO w' v' (Order.want l p u).1 ∧ Fr w w' ∧ (v' = v ∨ ∀ k, v'.ownBlock = some k → w.heap.size ≤ k) := by
  have HO := Lib.hid h
  have HV := Lib.hid (h.slv encO_len)
  obtain ⟨A, _, c, rfl, rfl, hlc, hcm, hA, hs⟩ := h.slv encO_len
  have HS := Lib.hid hs
  have HA := Lib.hid hA
  clear h hs hA hcm
  unfold Order.want
  by_cases hw : Order.wanted p u = false
  · rw [if_pos hw]
    rcases not_wanted p u hw with h | ⟨h1, h⟩ | ⟨h1, h2, h⟩ | ⟨h1, h2, h3, h⟩
    all_goals
      clear hw
      go_enter Try.func39, Try.ntmps39
      go_wp2_with fail
      go_ret3
      exact ⟨_, rfl, HO.out, Fr.refl _, .inl rfl⟩
  · rw [if_neg hw]
    have hw' : ¬ p < 1 ∧ ¬ 16 < p ∧ ¬ u < 1 ∧ ¬ 1048576 < u := by
      have : Order.wanted p u = true := by simpa using hw
      unfold Order.wanted at this; simp at this; omega
    obtain ⟨w1, w2, w3, w4⟩ := hw'
    clear hw
    by_cases h64 : 64 ≤ l.length
    · rw [if_pos h64]
      go_enter Try.func39, Try.ntmps39
      go_wp2_with fail
      go_ret3
      exact ⟨_, rfl, HO.out, Fr.refl _, .inl rfl⟩
    · rw [if_neg h64]
      go_enter Try.func39, Try.ntmps39
      have HF := Fr.refl w
      go_wp2_with (first | ((with_reducible refine gate (.call { callee := .builtin .append, args := #[.tmp 32, .tmp 33], argTypes := #[48, 48] }) rfl ?_); go_must (refine wpList_app rfl (.tmp 32) (.tmp 33) 48 rfl (w.heap.size) 61 (.agg #[.int .i64 0, .int .i64 0, .int .i64 0, .int .i64 0]) 4 32 Try.underlying48 (by kernel_rfl) rfl (by decide) encO_len encO_one (l2 := l) rfl (Own.lit _ _ _ _ w #[] [] (Nat.le_refl _) (Nat.zero_le _) encO_len rfl) rfl (hlc) ((HS.out.fr (flat_stays _) ((Fr.refl _).alloc _)).raw encO_len (by decide)) (HA.out) (by first | omega | (simp <;> omega)) (by unfold maxLen; first | omega | (simp <;> omega)) (by first | omega | (simp <;> omega)) ?_; intro v2 w2 ho hg hnil hw; replace HF := Lib.hid (Fr.grown ((Fr.refl w).alloc _) hg (fun k hk => Nat.le_of_eq (Option.some.inj hk))); rw [List.nil_append] at ho; have HO2 := Lib.hid ho; have hsz := HF.out.size; clear ho hg hnil hw)) | ((with_reducible refine gate (.call { callee := .builtin .append, args := #[.tmp 34, .tmp 39], argTypes := #[48, 48] }) rfl ?_); go_must (refine wpList_app rfl (.tmp 34) (.tmp 39) 48 rfl (w.heap.size) 61 (.agg #[.int .i64 0, .int .i64 0, .int .i64 0, .int .i64 0]) 4 32 Try.underlying48 (by kernel_rfl) rfl (by decide) encO_len encO_one (l2 := [⟨(l.length : Int) + 1, p, u, 0⟩]) rfl (HO2.out.fr ((Fr.refl _).alloc _)) rfl (Nat.le_refl _) (Raw.lit _ _ _ _ rfl) (fun h => (by cases h)) (by first | omega | (simp <;> omega)) (by unfold maxLen; first | omega | (simp <;> omega)) (by first | omega | (simp <;> omega)) ?_; intro v2 w2 ho hg hnil hw; replace HF := Lib.hid (Fr.grown (HF.out.alloc _) hg (fun k hk => (HO2.out.lt k hk).1)); have HO3 := Lib.hid ho; clear ho hg hnil hw)))
      go_ret3
      exact ⟨v2, rfl, HO3.out.lower hB, HF.out, .inr fun k hk => (HO3.out.lt k hk).1⟩

theorem mapped_step {l : List Ord} (f : Ord → Ord) (k : Nat) (hk : k < l.length) : (l.take (k + 1)).map f = (l.take k).map f ++ [f l[k]] := by
  rw [List.take_succ_eq_append_getElem hk, List.map_append]; rfl

set_option maxRecDepth 100000 in
set_option maxHeartbeats 2000000 in
theorem ref16_Change (B : Nat) (v : Value) (l : List Ord) (id frm to_ : Int) (w : World) (h : Own B 61 4 encO w v l) (hB : B ≤ w.heap.size) (hl : l.length ≤ 1000) :
    Calls Try.prog 35 #[v, .int .i64 id, .int .i64 frm, .int .i64 to_] w fun e w' => ∃ v', e = .returned (.tuple #[v', .int .i64 (Order.refChange l id frm to_).2]) ∧ Own B 61 4 encO w' v' (Order.refChange l id frm to_).1 ∧ Fr w w' ∧ (v' = v ∨ ∀ k, v'.ownBlock = some k → w.heap.size ≤ k) := by
  have HO := Lib.hid h
  have HV := Lib.hid (h.slv encO_len)
  obtain ⟨A, _, c, rfl, rfl, hlc, hcm, hA, hs⟩ := h.slv encO_len
  have HS := Lib.hid hs
  have HA := Lib.hid hA
  clear h hs hA hcm
  by_cases he : (Order.refGet l id).2 = 0
  · have HE := Lib.hid he
    by_cases hst : (Order.refGet l id).1.state = frm
    · have HC : Hid (Order.refChange l id frm to_ = (l.map fun x => if x.id = id then { x with state := to_ } else x, 0)) := by
        unfold Hid Order.refChange; rw [if_neg (by simp [he]), if_neg (by simp [hst])]
      rw [HC.out]
      generalize hG : Order.refGet l id = y at *
      have HG := Lib.hid hG
      obtain ⟨y1, y2⟩ := y
      simp only at he hst
      subst he hst
      clear hG HE
      go_enter Try.func35, Try.ntmps35
      go_wp2_with (go_at_call 43; go_must (refine (ref16_Order _ l _ _ HV.out).mono ?_; rintro _ w1 ⟨rfl, hf⟩; rw [HG.out]; simp only [aggO]; replace hf := Lib.hid (hf.alloc (.cells #[.int .i64 y1.id, .int .i64 y1.product, .int .i64 y1.units, .int .i64 y1.state] 61))))
      go_loopw [12, 13] (fun o i wr => ∃ k : Nat, i = .int .i64 k ∧ k ≤ l.length ∧ Own w.heap.size 61 4 encO wr o ((l.take k).map fun x => if x.id = id then { x with state := to_ } else x) ∧ Fr w wr) (fun _ i _ => l.length - (intOf i).toNat)
      case atStart => exact ⟨0, rfl, by omega, Own.nil _ _ _ _ _, hf.out⟩
      case round =>
        clear hf
        obtain ⟨k, rfl, hk, ho, hf⟩ := hrel
        by_cases hlt : k < l.length
        · obtain ⟨b, o, rfl, hbl, hc0, hc1, hc2, hc3⟩ := atO (HS.out.fr (flat_stays _) hf) k hlt
          have HM := Lib.hid (mapped_step (fun x => if x.id = id then { x with state := to_ } else x) k hlt)
          have HO1 := Lib.hid ho
          have hszf := hf.size
          have hlen : ((l.take k).map fun x => if x.id = id then { x with state := to_ } else x).length ≤ 1000 := by simp; omega
          generalize l[k] = x at *
          generalize ((l.take k).map fun x => if x.id = id then { x with state := to_ } else x) = T at *
          clear ho
          by_cases hx : x.id = id
          · have hx' : (x.id == id) = true := by simp [hx]
            have HX := Lib.hid hx
            clear hx
            go_wp2_with ((with_reducible refine gate (.call { callee := .builtin .append, args := #[.tmp 46, .tmp 48], argTypes := #[48, 48] }) rfl ?_); go_must (refine wpList_app rfl (.tmp 46) (.tmp 48) 48 rfl (w.heap.size) 61 (.agg #[.int .i64 0, .int .i64 0, .int .i64 0, .int .i64 0]) 4 32 Try.underlying48 (by kernel_rfl) rfl (by decide) encO_len encO_one (l2 := [{ x with state := to_ }]) rfl (HO1.out.fr (((Fr.refl _).alloc _).alloc _)) rfl (Nat.le_refl _) (Raw.lit _ _ _ _ rfl) (fun h => (by cases h)) (by first | omega | (simp <;> omega)) (by unfold maxLen; first | omega | (simp <;> omega)) (by first | omega | (simp <;> omega)) ?_; intro v2 w2 ho hg hnil hw; replace hf := Lib.hid (Fr.grown ((hf.alloc _).alloc _) hg (fun k hk => (HO1.out.lt k hk).1)); have HO2 := Lib.hid ho; clear ho hg hnil hw))
            go_roundw
            case rel => exact ⟨k + 1, by go_num, by omega, by rw [HM.out, if_pos HX.out]; exact HO2.out, hf.out⟩
            case measure => simp [intOf]; omega
          · have hx' : (x.id == id) = false := by simp [hx]
            have HX := Lib.hid hx
            clear hx
            go_wp2_with ((with_reducible refine gate (.call { callee := .builtin .append, args := #[.tmp 46, .tmp 48], argTypes := #[48, 48] }) rfl ?_); go_must (refine wpList_app rfl (.tmp 46) (.tmp 48) 48 rfl (w.heap.size) 61 (.agg #[.int .i64 0, .int .i64 0, .int .i64 0, .int .i64 0]) 4 32 Try.underlying48 (by kernel_rfl) rfl (by decide) encO_len encO_one (l2 := [x]) rfl (HO1.out.fr (((Fr.refl _).alloc _).alloc _)) rfl (Nat.le_refl _) (Raw.lit _ _ _ _ rfl) (fun h => (by cases h)) (by first | omega | (simp <;> omega)) (by unfold maxLen; first | omega | (simp <;> omega)) (by first | omega | (simp <;> omega)) ?_; intro v2 w2 ho hg hnil hw; replace hf := Lib.hid (Fr.grown ((hf.alloc _).alloc _) hg (fun k hk => (HO1.out.lt k hk).1)); have HO2 := Lib.hid ho; clear ho hg hnil hw))
            go_roundw
            case rel => exact ⟨k + 1, by go_num, by omega, by rw [HM.out, if_neg HX.out]; exact HO2.out, hf.out⟩
            case measure => simp [intOf]; omega
        · obtain rfl : k = l.length := by omega
          have HO1 := Lib.hid ho
          rw [List.take_length] at HO1
          clear ho
          go_wp2_with fail
          go_ret2
          exact ⟨_, rfl, HO1.out.lower hB, hf, .inr fun k hk => (HO1.out.lt k hk).1⟩
    · have HC : Hid (Order.refChange l id frm to_ = (l, 8)) := by
        unfold Hid Order.refChange; rw [if_neg (by simp [he]), if_pos (by simpa using hst)]
      rw [HC.out]
      generalize hG : Order.refGet l id = y at *
      have HG := Lib.hid hG
      obtain ⟨y1, y2⟩ := y
      simp only at he hst
      have hst' : (y1.state != frm) = true := by simpa using hst
      subst he
      clear hG HE hst
      go_enter Try.func35, Try.ntmps35
      go_wp2_with (go_at_call 43; go_must (refine (ref16_Order _ l _ _ HV.out).mono ?_; rintro _ w1 ⟨rfl, hf⟩; rw [HG.out]; simp only [aggO]))
      go_ret2
      exact ⟨_, rfl, HO.out.fr (hf.alloc _), hf.alloc _, .inl rfl⟩
  · have hG : Order.refGet l id = (Order.zero, 5) := (Order.refGet_err l id).resolve_left he
    have HG := Lib.hid hG
    have HC : Hid (Order.refChange l id frm to_ = (l, 5)) := by unfold Hid Order.refChange; rw [hG]; simp
    rw [HC.out]
    clear he hG
    go_enter Try.func35, Try.ntmps35
    go_wp2_with (go_at_call 43; go_must (refine (ref16_Order _ l _ _ HV.out).mono ?_; rintro _ w1 ⟨rfl, hf⟩; rw [HG.out]; simp only [aggO, Order.zero]))
    go_ret2
    exact ⟨_, rfl, HO.out.fr (hf.alloc _), hf.alloc _, .inl rfl⟩
end Go.Proofs.Ythgmnlkblomcaaa
