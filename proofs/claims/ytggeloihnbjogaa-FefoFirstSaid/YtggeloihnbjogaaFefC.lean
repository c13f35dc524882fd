
/- Lots (layer 15): contracts of the library's IndexFunc, DeleteFunc, ContainsFunc at lots. -/
import Derived.Test.YtggeloihnbjogaaFefB
namespace Go.Proofs.Ytggeloihnbjogaa
open Go.RowKit Go.Hf
def Fef.other (p : Int) (x : Lt) : Bool := x.prod != p
def Fef.bad (x : Lt) : Bool := decide (x.units < 1) || decide (1048576 < x.units)
abbrev otherF (g : Nat) : Value := .func (.func 63) #[] #[.pointer (some ⟨g, 0, none⟩)]
abbrev badF : Value := .func (.func 65) #[] #[]
set_option maxRecDepth 100000 in
theorem fefo_pick1 (x : Lt) (p : Int) (g : Nat) (w : World) (hc : w.cell? ⟨g, 0, none⟩ = some (.int .i64 p)) :
    Calls Try.prog 63 #[aggT x, .pointer (some ⟨g, 0, none⟩)] w fun e w' => e = .returned (.bool (Fef.other p x)) ∧ Fr w w' := by
  have I := St.refl w
  go_enter Try.func63, Try.ntmps63
  try dsimp only [List.append]
  go_wp2_with (first | ((with_reducible refine gguard ?_); (first | refine w_guardT (by rfl) (fun hb => ?_) (fun hb => ?_) | refine w_guardF (by rfl) (fun hb => ?_) (fun hb => ?_)) <;> first | (cases hb; done) | cases hb | ((try rw [hb]) <;> (try simp at hb) <;> go_prune <;> (try (with_reducible replace hb := eqPair hb)))) | (((with_reducible refine gbox ?_); first | refine w_boxA I (by rfl) ?_ | refine w_box1 I (by (conv => lhs; whnf) <;> rfl) (by rfl) ?_); clear I; intro g w I) | ((with_reducible refine galloc ?_); refine w_alloc I ?_; clear I; intro g w I) | ((with_reducible refine gload ?_); first | refine w_loadB I (by rfl) (by first | (with_reducible repeat (first | exact .here | apply At.there)); done | repeat (first | exact .here | apply At.there)) (by rfl) ?_ | refine w_loadBR I (by rfl) (by first | (with_reducible repeat (first | exact .here | apply At.there)); done | repeat (first | exact .here | apply At.there)) (by rfl) ?_ | refine w_load0 I (by rfl) (by assumption) ?_) | ((with_reducible refine gstore ?_); (first | refine w_storeB I (by rfl) (by (conv => lhs; whnf) <;> rfl) (by first | (with_reducible repeat (first | exact .here | apply Upd.there)); done | repeat (first | exact .here | apply Upd.there)) (by rfl) (by rfl) (by simp only [List.set_cons_zero, List.set_cons_succ] <;> rfl) ?_ | refine w_storeBR I (by rfl) (by rfl) (by first | (with_reducible repeat (first | exact .here | apply Upd.there)); done | repeat (first | exact .here | apply Upd.there)) (by rfl) (by rfl) (by rfl) ?_); clear I; intro w I))
  go_ret
  exact ⟨rfl, I.fr⟩
set_option maxRecDepth 100000 in
theorem fefo_pick2 (x : Lt) (w : World) :
    Calls Try.prog 65 #[aggT x] w fun e w' => e = .returned (.bool (Fef.bad x)) ∧ Fr w w' := by
  have I := St.refl w
  cases d1 : decide (x.units < 1) with
  | true =>
    have HE : Hid (Fef.bad x = true) := Lib.hid (by unfold Fef.bad; rw [d1]; rfl)
    rw [HE.out]
    go_enter Try.func65, Try.ntmps65
    try dsimp only [List.append]
    go_upto_region 1 with (first | ((with_reducible refine gguard ?_); (first | refine w_guardT (by rfl) (fun hb => ?_) (fun hb => ?_) | refine w_guardF (by rfl) (fun hb => ?_) (fun hb => ?_)) <;> first | (cases hb; done) | cases hb | ((try rw [hb]) <;> (try simp at hb) <;> go_prune <;> (try (with_reducible replace hb := eqPair hb)))) | (((with_reducible refine gbox ?_); first | refine w_boxA I (by rfl) ?_ | refine w_box1 I (by (conv => lhs; whnf) <;> rfl) (by rfl) ?_); clear I; intro g w I) | ((with_reducible refine galloc ?_); refine w_alloc I ?_; clear I; intro g w I) | ((with_reducible refine gload ?_); first | refine w_loadB I (by rfl) (by first | (with_reducible repeat (first | exact .here | apply At.there)); done | repeat (first | exact .here | apply At.there)) (by rfl) ?_ | refine w_loadBR I (by rfl) (by first | (with_reducible repeat (first | exact .here | apply At.there)); done | repeat (first | exact .here | apply At.there)) (by rfl) ?_ | refine w_load0 I (by rfl) (by assumption) ?_) | ((with_reducible refine gstore ?_); (first | refine w_storeB I (by rfl) (by (conv => lhs; whnf) <;> rfl) (by first | (with_reducible repeat (first | exact .here | apply Upd.there)); done | repeat (first | exact .here | apply Upd.there)) (by rfl) (by rfl) (by simp only [List.set_cons_zero, List.set_cons_succ] <;> rfl) ?_ | refine w_storeBR I (by rfl) (by rfl) (by first | (with_reducible repeat (first | exact .here | apply Upd.there)); done | repeat (first | exact .here | apply Upd.there)) (by rfl) (by rfl) (by rfl) ?_); clear I; intro w I))
    have F := I.facts
    dsimp only [AllF, Asr.facts, Blk, OwnS] at F
    go_wp2_with fail
    go_ret
    exact ⟨rfl, I.fr⟩
  | false =>
    obtain ⟨e, he⟩ : ∃ e, decide (1048576 < x.units) = e := ⟨_, rfl⟩
    have HE : Hid (Fef.bad x = e) := Lib.hid (by unfold Fef.bad; rw [d1, he]; rfl)
    rw [HE.out]
    go_enter Try.func65, Try.ntmps65
    try dsimp only [List.append]
    go_upto_region 1 with (first | ((with_reducible refine gguard ?_); (first | refine w_guardT (by rfl) (fun hb => ?_) (fun hb => ?_) | refine w_guardF (by rfl) (fun hb => ?_) (fun hb => ?_)) <;> first | (cases hb; done) | cases hb | ((try rw [hb]) <;> (try simp at hb) <;> go_prune <;> (try (with_reducible replace hb := eqPair hb)))) | (((with_reducible refine gbox ?_); first | refine w_boxA I (by rfl) ?_ | refine w_box1 I (by (conv => lhs; whnf) <;> rfl) (by rfl) ?_); clear I; intro g w I) | ((with_reducible refine galloc ?_); refine w_alloc I ?_; clear I; intro g w I) | ((with_reducible refine gload ?_); first | refine w_loadB I (by rfl) (by first | (with_reducible repeat (first | exact .here | apply At.there)); done | repeat (first | exact .here | apply At.there)) (by rfl) ?_ | refine w_loadBR I (by rfl) (by first | (with_reducible repeat (first | exact .here | apply At.there)); done | repeat (first | exact .here | apply At.there)) (by rfl) ?_ | refine w_load0 I (by rfl) (by assumption) ?_) | ((with_reducible refine gstore ?_); (first | refine w_storeB I (by rfl) (by (conv => lhs; whnf) <;> rfl) (by first | (with_reducible repeat (first | exact .here | apply Upd.there)); done | repeat (first | exact .here | apply Upd.there)) (by rfl) (by rfl) (by simp only [List.set_cons_zero, List.set_cons_succ] <;> rfl) ?_ | refine w_storeBR I (by rfl) (by rfl) (by first | (with_reducible repeat (first | exact .here | apply Upd.there)); done | repeat (first | exact .here | apply Upd.there)) (by rfl) (by rfl) (by rfl) ?_); clear I; intro w I))
    have F := I.facts
    dsimp only [AllF, Asr.facts, Blk, OwnS] at F
    go_wp2_with fail
    go_ret
    exact ⟨rfl, I.fr⟩
set_option maxRecDepth 100000 in
set_option maxHeartbeats 1000000 in
theorem lots_IndexFunc1 (v : Value) (l : List Lt) (p : Int) (g : Nat) (w : World) (h : Lots w v l) (hc : w.cell? ⟨g, 0, none⟩ = some (.int .i64 p)) :
    Calls Try.prog 103 #[v, otherF g] w fun e w' => ∃ r : Int, e = .returned (.int .i64 r) ∧ Fr w w' ∧ ((r = -1 ∧ ∀ x ∈ l, Fef.other p x = false) ∨ ∃ i : Nat, r = i ∧ i < l.length ∧ (l.take i).filter (fun x => !Fef.other p x) = l.take i ∧ ∀ hi : i < l.length, Fef.other p l[i] = true) := by
  have hm := h.len_le
  unfold maxLen at hm
  obtain ⟨A, _, c, rfl, rfl, _, _, _, hs⟩ := h
  have HS := Lib.hid hs
  have HU := Lib.hid (fun x wx (hf : Fr w wx) => fefo_pick1 x p g wx (hf.cell hc))
  clear hs hc
  go_enter Try.func103, Try.ntmps103
  go_wp2_with fail
  go_loopw [8] (fun i wr => ∃ k : Nat, i = .int .i64 k ∧ k ≤ l.length ∧ Hid (∀ x ∈ l.take k, Fef.other p x = false) ∧ Fr w wr) (fun i _ => l.length - (intOf i).toNat)
  case atStart => exact ⟨0, rfl, by omega, by simp [Hid], Fr.refl _⟩
  case round =>
    obtain ⟨k, rfl, hk, hT, hf⟩ := hrel
    rename World => wr
    by_cases hlt : k < l.length
    · obtain ⟨b, o, rfl, cs, -, hcs, hxc⟩ := (HS.out.fr (flat_stays _) hf).at_ k hlt
      have hkq : (k : Int) < (l.length : Int) := by omega
      cases hp : Fef.other p l[k] with
      | true =>
        have HP : Hid (∀ hi : k < l.length, Fef.other p l[k] = true) := Lib.hid (fun _ => hp)
        have HF : Hid ((l.take k).filter (fun x => !Fef.other p x) = l.take k) := Lib.hid (by rw [List.filter_eq_self]; intro x hx; rw [hT.out x hx]; rfl)
        have HU2 := Lib.hid (HU.out l[k])
        have HP2 := Lib.hid hp
        clear hp
        generalize l[k] = x at hcs HU2 HP2
        subst hcs
        have HR := Lib.hid hxc
        clear hxc
        go_wp2_with (first | ((with_reducible refine gload (ty := 59) ?_); refine w_loadR (n := 8) (cs := encT x) (by rfl) rfl (fun j u hj => by rw [addr_add]; exact HR.out j u hj) ?_) | (go_at_call 63; go_must (refine (HU2.out _ hf).mono ?_; rintro _ w1 ⟨rfl, hf2⟩; rw [HP2.out])))
        go_ret
        exact ⟨_, rfl, hf.trans hf2, .inr ⟨k, rfl, hlt, HF.out, HP.out⟩⟩
      | false =>
        have HF : Hid (∀ x ∈ l.take (k + 1), Fef.other p x = false) := Lib.hid (by
          intro x hx
          rw [List.take_succ_eq_append_getElem hlt, List.mem_append] at hx
          rcases hx with hx | hx
          · exact hT.out x hx
          · simp at hx; subst hx; exact hp)
        have HU2 := Lib.hid (HU.out l[k])
        have HP2 := Lib.hid hp
        clear hp
        generalize l[k] = x at hcs HU2 HP2
        subst hcs
        have HR := Lib.hid hxc
        clear hxc
        go_wp2_with (first | ((with_reducible refine gload (ty := 59) ?_); refine w_loadR (n := 8) (cs := encT x) (by rfl) rfl (fun j u hj => by rw [addr_add]; exact HR.out j u hj) ?_) | (go_at_call 63; go_must (refine (HU2.out _ hf).mono ?_; rintro _ w1 ⟨rfl, hf2⟩; rw [HP2.out])))
        go_roundw
        case rel => exact ⟨k + 1, by go_num, by omega, HF, hf.trans hf2⟩
        case measure => simp [intOf]; omega
    · obtain rfl : k = l.length := by omega
      have hkq : ¬ (l.length : Int) < (l.length : Int) := by omega
      rw [List.take_length] at hT
      go_wp2_with fail
      go_ret
      exact ⟨_, rfl, hf, .inl ⟨rfl, hT.out⟩⟩
set_option maxRecDepth 100000 in
set_option maxHeartbeats 1000000 in
theorem lots_IndexFunc2 (v : Value) (l : List Lt) (w : World) (h : Lots w v l) :
    Calls Try.prog 103 #[v, badF] w fun e w' => ∃ r : Int, e = .returned (.int .i64 r) ∧ Fr w w' ∧ ((r = -1 ∧ ∀ x ∈ l, Fef.bad x = false) ∨ ∃ i : Nat, r = i ∧ i < l.length ∧ (l.take i).filter (fun x => !Fef.bad x) = l.take i ∧ ∀ hi : i < l.length, Fef.bad l[i] = true) := by
  have hm := h.len_le
  unfold maxLen at hm
  obtain ⟨A, _, c, rfl, rfl, _, _, _, hs⟩ := h
  have HS := Lib.hid hs
  have HU := Lib.hid (fun x wx (_ : Fr w wx) => fefo_pick2 x wx)
  clear hs
  go_enter Try.func103, Try.ntmps103
  go_wp2_with fail
  go_loopw [8] (fun i wr => ∃ k : Nat, i = .int .i64 k ∧ k ≤ l.length ∧ Hid (∀ x ∈ l.take k, Fef.bad x = false) ∧ Fr w wr) (fun i _ => l.length - (intOf i).toNat)
  case atStart => exact ⟨0, rfl, by omega, by simp [Hid], Fr.refl _⟩
  case round =>
    obtain ⟨k, rfl, hk, hT, hf⟩ := hrel
    rename World => wr
    by_cases hlt : k < l.length
    · obtain ⟨b, o, rfl, cs, -, hcs, hxc⟩ := (HS.out.fr (flat_stays _) hf).at_ k hlt
      have hkq : (k : Int) < (l.length : Int) := by omega
      cases hp : Fef.bad l[k] with
      | true =>
        have HP : Hid (∀ hi : k < l.length, Fef.bad l[k] = true) := Lib.hid (fun _ => hp)
        have HF : Hid ((l.take k).filter (fun x => !Fef.bad x) = l.take k) := Lib.hid (by rw [List.filter_eq_self]; intro x hx; rw [hT.out x hx]; rfl)
        have HU2 := Lib.hid (HU.out l[k])
        have HP2 := Lib.hid hp
        clear hp
        generalize l[k] = x at hcs HU2 HP2
        subst hcs
        have HR := Lib.hid hxc
        clear hxc
        go_wp2_with (first | ((with_reducible refine gload (ty := 59) ?_); refine w_loadR (n := 8) (cs := encT x) (by rfl) rfl (fun j u hj => by rw [addr_add]; exact HR.out j u hj) ?_) | (go_at_call 65; go_must (refine (HU2.out _ hf).mono ?_; rintro _ w1 ⟨rfl, hf2⟩; rw [HP2.out])))
        go_ret
        exact ⟨_, rfl, hf.trans hf2, .inr ⟨k, rfl, hlt, HF.out, HP.out⟩⟩
      | false =>
        have HF : Hid (∀ x ∈ l.take (k + 1), Fef.bad x = false) := Lib.hid (by
          intro x hx
          rw [List.take_succ_eq_append_getElem hlt, List.mem_append] at hx
          rcases hx with hx | hx
          · exact hT.out x hx
          · simp at hx; subst hx; exact hp)
        have HU2 := Lib.hid (HU.out l[k])
        have HP2 := Lib.hid hp
        clear hp
        generalize l[k] = x at hcs HU2 HP2
        subst hcs
        have HR := Lib.hid hxc
        clear hxc
        go_wp2_with (first | ((with_reducible refine gload (ty := 59) ?_); refine w_loadR (n := 8) (cs := encT x) (by rfl) rfl (fun j u hj => by rw [addr_add]; exact HR.out j u hj) ?_) | (go_at_call 65; go_must (refine (HU2.out _ hf).mono ?_; rintro _ w1 ⟨rfl, hf2⟩; rw [HP2.out])))
        go_roundw
        case rel => exact ⟨k + 1, by go_num, by omega, HF, hf.trans hf2⟩
        case measure => simp [intOf]; omega
    · obtain rfl : k = l.length := by omega
      have hkq : ¬ (l.length : Int) < (l.length : Int) := by omega
      rw [List.take_length] at hT
      go_wp2_with fail
      go_ret
      exact ⟨_, rfl, hf, .inl ⟨rfl, hT.out⟩⟩
/-! Deleting: what stands in the first i places behind j rounds. -/
structure FDel (α : Type) (q : α → Bool) (l L : List α) (i j : Nat) : Prop where
  len : L.length = l.length
  take : L.take i = (l.take j).filter q
  drop : L.drop j = l.drop j
  lt : i < j
theorem FDel.get {α : Type} {q : α → Bool} {l L : List α} {i j : Nat} (h : FDel α q l L i j) (hj : j < L.length) (hj2 : j < l.length) : L[j] = l[j] := by
  have := h.drop
  rw [List.drop_eq_getElem_cons hj, List.drop_eq_getElem_cons hj2] at this
  injection this
theorem FDel.gone {α : Type} {q : α → Bool} {l L : List α} {i j : Nat} (h : FDel α q l L i j) (hj : j < L.length) (hq : q L[j] = false) : FDel α q l L i (j + 1) := by
  have hj2 : j < l.length := by rw [← h.len]; exact hj
  have he := h.get hj hj2
  refine ⟨h.len, ?_, ?_, by have := h.lt; omega⟩
  · rw [h.take, List.take_succ_eq_append_getElem hj2, List.filter_append, List.filter_cons_of_neg (by rw [← he, hq]; simp)]
    simp
  · have := congrArg (List.drop 1) h.drop
    simpa [List.drop_drop] using this
theorem FDel.kept {α : Type} {q : α → Bool} {l L : List α} {i j : Nat} (h : FDel α q l L i j) (hj : j < L.length) (hq : q L[j] = true) : FDel α q l (L.set i L[j]) (i + 1) (j + 1) := by
  have hj2 : j < l.length := by rw [← h.len]; exact hj
  have he := h.get hj hj2
  have hl := h.lt
  refine ⟨by rw [List.length_set, h.len], ?_, ?_, by omega⟩
  · rw [List.take_succ_eq_append_getElem (by rw [List.length_set]; omega), List.getElem_set_self, List.take_set_of_le (Nat.le_refl _), h.take, List.take_succ_eq_append_getElem hj2, List.filter_append, List.filter_cons_of_pos (by rw [← he, hq]), he]
    rfl
  · rw [List.drop_set_of_lt (by omega)]
    have := congrArg (List.drop 1) h.drop
    simpa [List.drop_drop] using this
theorem FDel.start {α : Type} {q : α → Bool} {l : List α} {i : Nat} (hi : i < l.length) (h1 : (l.take i).filter q = l.take i) (h2 : q l[i] = false) : FDel α q l l i (i + 1) := by
  refine ⟨rfl, ?_, rfl, by omega⟩
  rw [List.take_succ_eq_append_getElem hi, List.filter_append, h1, List.filter_cons_of_neg (by rw [h2]; simp)]
  simp
theorem FDel.done {α : Type} {q : α → Bool} {l L : List α} {i j : Nat} (h : FDel α q l L i j) (hj : j = l.length) : L.take i = l.filter q := by
  subst hj
  rw [h.take, List.take_length]

set_option maxRecDepth 100000 in
set_option maxHeartbeats 2000000 in
theorem lots_DeleteFunc (g n c gm : Nat) (tb : TypeId) (l : List Lt) (m : Int) (w0 w : World) (L R R2 : List Asr) (I : St w0 w L) (hA : At (OwnS 59 8 encT (.slice (some ⟨g, 0, none⟩) n c) l) L R) (hB : At (Blk gm [.int .i64 m] tb) R R2) :
    Calls Try.prog 62 #[.slice (some ⟨g, 0, none⟩) n c, otherF gm] w fun e w' => ∃ k, e = .returned (.slice (some ⟨g, 0, none⟩) k c) ∧ k ≤ n ∧ k = (l.filter fun x => !Fef.other m x).length ∧ St w0 w' (OwnS 59 8 encT (.slice (some ⟨g, 0, none⟩) k c) (l.filter fun x => !Fef.other m x) :: R) := by
  obtain ⟨A', c', e, hnc, hcm, _⟩ := (I.own hA).reads encT_len
  injection e with e0 e1 e2
  subst e0 e1 e2
  unfold maxLen at hcm
  replace I := I.take hA
  clear hA
  have hIF := lots_IndexFunc1 _ l m gm w (I.slv .here encT_len) (I.cell (.there hB) rfl)
  by_cases hex : ∀ x ∈ l, Fef.other m x = false
  · have HI : Hid (Calls Try.prog 103 #[.slice (some ⟨g, 0, none⟩) l.length c, otherF gm] w fun e w' => e = .returned (.int .i64 (-1)) ∧ Fr w w') := Lib.hid (hIF.mono (by
      rintro _ w1 ⟨r, rfl, hf, hr⟩
      rcases hr with ⟨rfl, _⟩ | ⟨i, _, hi, _, h2⟩
      · exact ⟨rfl, hf⟩
      · have := hex _ (List.getElem_mem hi); rw [h2 hi] at this; cases this))
    have hfl : (l.filter fun x => !Fef.other m x) = l := by rw [List.filter_eq_self]; intro x hx; rw [hex x hx]; rfl
    rw [hfl]
    clear hex hIF hfl
    go_enter Try.func62, Try.ntmps62
    go_wp2_with (first | (first | ((with_reducible refine gguard ?_); (first | refine w_guardT (by rfl) (fun hb => ?_) (fun hb => ?_) | refine w_guardF (by rfl) (fun hb => ?_) (fun hb => ?_)) <;> first | (cases hb; done) | cases hb | ((try rw [hb]) <;> (try simp at hb) <;> go_prune <;> (try (with_reducible replace hb := eqPair hb)))) | (((with_reducible refine gbox ?_); first | refine w_boxA I (by rfl) ?_ | refine w_box1 I (by (conv => lhs; whnf) <;> rfl) (by rfl) ?_); clear I; intro g w I) | ((with_reducible refine galloc ?_); refine w_alloc I ?_; clear I; intro g w I) | ((with_reducible refine gload ?_); first | refine w_loadB I (by rfl) (by first | (with_reducible repeat (first | exact .here | apply At.there)); done | repeat (first | exact .here | apply At.there)) (by rfl) ?_ | refine w_loadBR I (by rfl) (by first | (with_reducible repeat (first | exact .here | apply At.there)); done | repeat (first | exact .here | apply At.there)) (by rfl) ?_ | refine w_load0 I (by rfl) (by assumption) ?_) | ((with_reducible refine gstore ?_); (first | refine w_storeB I (by rfl) (by (conv => lhs; whnf) <;> rfl) (by first | (with_reducible repeat (first | exact .here | apply Upd.there)); done | repeat (first | exact .here | apply Upd.there)) (by rfl) (by rfl) (by simp only [List.set_cons_zero, List.set_cons_succ] <;> rfl) ?_ | refine w_storeBR I (by rfl) (by rfl) (by first | (with_reducible repeat (first | exact .here | apply Upd.there)); done | repeat (first | exact .here | apply Upd.there)) (by rfl) (by rfl) (by rfl) ?_); clear I; intro w I)) | (go_at_call 103; go_must (refine (HI.out).mono ?_; rintro _ w1 ⟨rfl, hf⟩; replace I := I.still hf; clear hf)))
    go_ret
    exact ⟨_, rfl, Nat.le_refl _, rfl, I⟩
  · have HI : Hid (Calls Try.prog 103 #[.slice (some ⟨g, 0, none⟩) l.length c, otherF gm] w fun e w' => ∃ i : Nat, e = .returned (.int .i64 i) ∧ Fr w w' ∧ i < l.length ∧ Hid (FDel Lt (fun x => !Fef.other m x) l l i (i + 1))) := Lib.hid (hIF.mono (by
      rintro _ w1 ⟨r, rfl, hf, hr⟩
      rcases hr with ⟨rfl, h⟩ | ⟨i, rfl, hi, h1, h2⟩
      · exact absurd h hex
      · exact ⟨i, rfl, hf, hi, FDel.start hi h1 (by rw [h2 hi]; rfl)⟩))
    clear hex hIF
    go_enter Try.func62, Try.ntmps62
    go_wp2_with (first | (first | ((with_reducible refine gguard ?_); (first | refine w_guardT (by rfl) (fun hb => ?_) (fun hb => ?_) | refine w_guardF (by rfl) (fun hb => ?_) (fun hb => ?_)) <;> first | (cases hb; done) | cases hb | ((try rw [hb]) <;> (try simp at hb) <;> go_prune <;> (try (with_reducible replace hb := eqPair hb)))) | (((with_reducible refine gbox ?_); first | refine w_boxA I (by rfl) ?_ | refine w_box1 I (by (conv => lhs; whnf) <;> rfl) (by rfl) ?_); clear I; intro g w I) | ((with_reducible refine galloc ?_); refine w_alloc I ?_; clear I; intro g w I) | ((with_reducible refine gload ?_); first | refine w_loadB I (by rfl) (by first | (with_reducible repeat (first | exact .here | apply At.there)); done | repeat (first | exact .here | apply At.there)) (by rfl) ?_ | refine w_loadBR I (by rfl) (by first | (with_reducible repeat (first | exact .here | apply At.there)); done | repeat (first | exact .here | apply At.there)) (by rfl) ?_ | refine w_load0 I (by rfl) (by assumption) ?_) | ((with_reducible refine gstore ?_); (first | refine w_storeB I (by rfl) (by (conv => lhs; whnf) <;> rfl) (by first | (with_reducible repeat (first | exact .here | apply Upd.there)); done | repeat (first | exact .here | apply Upd.there)) (by rfl) (by rfl) (by simp only [List.set_cons_zero, List.set_cons_succ] <;> rfl) ?_ | refine w_storeBR I (by rfl) (by rfl) (by first | (with_reducible repeat (first | exact .here | apply Upd.there)); done | repeat (first | exact .here | apply Upd.there)) (by rfl) (by rfl) (by rfl) ?_); clear I; intro w I)) | (go_at_call 103; go_must (refine (HI.out).mono ?_; rintro _ w1 ⟨i0, rfl, hf, hi0, HD⟩; replace I := I.still hf; clear hf; have hi0q : (i0 : Int) < (l.length : Int) := (by omega); have qi0 := IntWalk.i64_in ((i0 : Int) + 1) (by omega); have hbi : ((i0 : Int) == -1) = false := beq_eq_false_iff_ne.2 (by omega))))
    have hn2 : i0 + 1 ≤ l.length := by omega
    go_loopw [5, 6] (fun iv jv wr => ∃ (i j : Nat) (K : List Lt), iv = .int .i64 i ∧ jv = .int .i64 j ∧ j ≤ l.length ∧ Hid (FDel Lt (fun x => !Fef.other m x) l K i j) ∧ St w0 wr (OwnS 59 8 encT (.slice (some ⟨g, 0, none⟩) l.length c) K :: R)) (fun _ jv _ => l.length - (intOf jv).toNat)
    case atStart => exact ⟨i0, i0 + 1, l, rfl, rfl, hn2, HD, I⟩
    case round =>
      clear I HD HI
      obtain ⟨i, j, K, rfl, rfl, hj, HD, I⟩ := hrel
      rename World => wr
      have hKl := HD.out.len
      have hij := HD.out.lt
      by_cases hlt : j < l.length
      · have hxc := (I.own (v := .slice (some ⟨g, 0, none⟩) l.length c) (l := K) .here).cell encT_len j (by omega)
        have hU := fefo_pick1 (K[j]'(by omega)) m gm
        have hjq : (j : Int) < (l.length : Int) := by omega
        have qj := IntWalk.i64_in ((j : Int) + 1) (by omega)
        have HD1 : Hid (∀ h : j < K.length, Fef.other m K[j] = true → FDel Lt (fun x => !Fef.other m x) l K i (j + 1)) := Lib.hid (fun h hq => HD.out.gone h (by rw [hq]; rfl))
        have HD2 : Hid (∀ h : j < K.length, Fef.other m K[j] = false → FDel Lt (fun x => !Fef.other m x) l (K.set i K[j]) (i + 1) (j + 1)) := Lib.hid (fun h hq => HD.out.kept h (by rw [hq]; rfl))
        have hjK : j < K.length := by omega
        have HD1 := Lib.hid (HD1.out hjK)
        have HD2 := Lib.hid (HD2.out hjK)
        clear HD
        generalize K[j] = x at hxc hU HD1 HD2
        have HR := Lib.hid hxc
        clear hxc
        have HU := Lib.hid hU
        clear hU
        cases hp : Fef.other m x with
        | true =>
          have HP := Lib.hid hp
          have HE := Lib.hid (HD1.out hp)
          clear hp HD1 HD2
          go_wp2_with (first | (first | ((with_reducible refine gguard ?_); (first | refine w_guardT (by rfl) (fun hb => ?_) (fun hb => ?_) | refine w_guardF (by rfl) (fun hb => ?_) (fun hb => ?_)) <;> first | (cases hb; done) | cases hb | ((try rw [hb]) <;> (try simp at hb) <;> go_prune <;> (try (with_reducible replace hb := eqPair hb)))) | (((with_reducible refine gbox ?_); first | refine w_boxA I (by rfl) ?_ | refine w_box1 I (by (conv => lhs; whnf) <;> rfl) (by rfl) ?_); clear I; intro g w I) | ((with_reducible refine galloc ?_); refine w_alloc I ?_; clear I; intro g w I) | ((with_reducible refine gload ?_); first | refine w_loadB I (by rfl) (by first | (with_reducible repeat (first | exact .here | apply At.there)); done | repeat (first | exact .here | apply At.there)) (by rfl) ?_ | refine w_loadBR I (by rfl) (by first | (with_reducible repeat (first | exact .here | apply At.there)); done | repeat (first | exact .here | apply At.there)) (by rfl) ?_ | refine w_load0 I (by rfl) (by assumption) ?_) | ((with_reducible refine gstore ?_); (first | refine w_storeB I (by rfl) (by (conv => lhs; whnf) <;> rfl) (by first | (with_reducible repeat (first | exact .here | apply Upd.there)); done | repeat (first | exact .here | apply Upd.there)) (by rfl) (by rfl) (by simp only [List.set_cons_zero, List.set_cons_succ] <;> rfl) ?_ | refine w_storeBR I (by rfl) (by rfl) (by first | (with_reducible repeat (first | exact .here | apply Upd.there)); done | repeat (first | exact .here | apply Upd.there)) (by rfl) (by rfl) (by rfl) ?_); clear I; intro w I)) | ((with_reducible refine gload (ty := 59) ?_); refine w_loadR (n := 8) (cs := encT x) (by rfl) rfl (fun j u hj => by rw [addr_add]; exact HR.out j u hj) ?_) | (go_at_call 63; go_must (refine (HU.out _ (I.cell (.there (.there hB)) rfl)).mono ?_; rintro _ w1 ⟨rfl, hf⟩; rw [HP.out]; replace I := I.still hf; clear hf)))
          go_roundw
          case rel => exact ⟨i, j + 1, K, rfl, by go_num, by omega, HE, I.drop1⟩
          case measure => simp [intOf]; omega
        | false =>
          have HP := Lib.hid hp
          have HE := Lib.hid (HD2.out hp)
          have hiK : i < K.length := by omega
          have hiq : (i : Int) < (l.length : Int) := by omega
          have qi := IntWalk.i64_in ((i : Int) + 1) (by omega)
          clear hp HD1 HD2
          go_wp2_with (first | ((with_reducible refine gstore ?_); refine w_storeOR encT_len encT_one I (by rfl) (b := x) (by rfl) (.there .here) (i := i) (l' := K.set i x) (by first | rfl | omega) hiK rfl ?_; clear I; intro w I) | (first | ((with_reducible refine gguard ?_); (first | refine w_guardT (by rfl) (fun hb => ?_) (fun hb => ?_) | refine w_guardF (by rfl) (fun hb => ?_) (fun hb => ?_)) <;> first | (cases hb; done) | cases hb | ((try rw [hb]) <;> (try simp at hb) <;> go_prune <;> (try (with_reducible replace hb := eqPair hb)))) | (((with_reducible refine gbox ?_); first | refine w_boxA I (by rfl) ?_ | refine w_box1 I (by (conv => lhs; whnf) <;> rfl) (by rfl) ?_); clear I; intro g w I) | ((with_reducible refine galloc ?_); refine w_alloc I ?_; clear I; intro g w I) | ((with_reducible refine gload ?_); first | refine w_loadB I (by rfl) (by first | (with_reducible repeat (first | exact .here | apply At.there)); done | repeat (first | exact .here | apply At.there)) (by rfl) ?_ | refine w_loadBR I (by rfl) (by first | (with_reducible repeat (first | exact .here | apply At.there)); done | repeat (first | exact .here | apply At.there)) (by rfl) ?_ | refine w_load0 I (by rfl) (by assumption) ?_) | ((with_reducible refine gstore ?_); (first | refine w_storeB I (by rfl) (by (conv => lhs; whnf) <;> rfl) (by first | (with_reducible repeat (first | exact .here | apply Upd.there)); done | repeat (first | exact .here | apply Upd.there)) (by rfl) (by rfl) (by simp only [List.set_cons_zero, List.set_cons_succ] <;> rfl) ?_ | refine w_storeBR I (by rfl) (by rfl) (by first | (with_reducible repeat (first | exact .here | apply Upd.there)); done | repeat (first | exact .here | apply Upd.there)) (by rfl) (by rfl) (by rfl) ?_); clear I; intro w I)) | ((with_reducible refine gload (ty := 59) ?_); refine w_loadR (n := 8) (cs := encT x) (by rfl) rfl (fun j u hj => by rw [addr_add]; exact HR.out j u hj) ?_) | (go_at_call 63; go_must (refine (HU.out _ (I.cell (.there (.there hB)) rfl)).mono ?_; rintro _ w1 ⟨rfl, hf⟩; rw [HP.out]; replace I := I.still hf; clear hf)))
          go_roundw
          case rel => exact ⟨i + 1, j + 1, K.set i x, by go_num, by go_num, by omega, HE, I.drop1⟩
          case measure => simp [intOf]; omega
      · have hjl : j = l.length := by omega
        have HE := Lib.hid (HD.out.done hjl)
        have hic : ¬ ((c : Int) = (i : Int)) := by omega
        have hiq : (i : Int) ≤ (l.length : Int) := by omega
        have hiq2 : (i : Int) ≤ (c : Int) := by omega
        clear HD
        go_wp2_with (first | ((with_reducible refine gclear ?_); refine w_clear encT_len (by decide) I (by rfl) .here (k := i) (by first | rfl | omega) (by omega) (by omega) ?_; clear I; intro w I) | (first | ((with_reducible refine gguard ?_); (first | refine w_guardT (by rfl) (fun hb => ?_) (fun hb => ?_) | refine w_guardF (by rfl) (fun hb => ?_) (fun hb => ?_)) <;> first | (cases hb; done) | cases hb | ((try rw [hb]) <;> (try simp at hb) <;> go_prune <;> (try (with_reducible replace hb := eqPair hb)))) | (((with_reducible refine gbox ?_); first | refine w_boxA I (by rfl) ?_ | refine w_box1 I (by (conv => lhs; whnf) <;> rfl) (by rfl) ?_); clear I; intro g w I) | ((with_reducible refine galloc ?_); refine w_alloc I ?_; clear I; intro g w I) | ((with_reducible refine gload ?_); first | refine w_loadB I (by rfl) (by first | (with_reducible repeat (first | exact .here | apply At.there)); done | repeat (first | exact .here | apply At.there)) (by rfl) ?_ | refine w_loadBR I (by rfl) (by first | (with_reducible repeat (first | exact .here | apply At.there)); done | repeat (first | exact .here | apply At.there)) (by rfl) ?_ | refine w_load0 I (by rfl) (by assumption) ?_) | ((with_reducible refine gstore ?_); (first | refine w_storeB I (by rfl) (by (conv => lhs; whnf) <;> rfl) (by first | (with_reducible repeat (first | exact .here | apply Upd.there)); done | repeat (first | exact .here | apply Upd.there)) (by rfl) (by rfl) (by simp only [List.set_cons_zero, List.set_cons_succ] <;> rfl) ?_ | refine w_storeBR I (by rfl) (by rfl) (by first | (with_reducible repeat (first | exact .here | apply Upd.there)); done | repeat (first | exact .here | apply Upd.there)) (by rfl) (by rfl) (by rfl) ?_); clear I; intro w I)))
        rw [HE.out] at I
        go_ret
        exact ⟨i, rfl, by omega, by rw [← HE.out, List.length_take]; omega, I⟩
/-- Of a slice of the call's own, whatever its length. -/
theorem lots_DeleteFuncAny (v : Value) (gm : Nat) (tb : TypeId) (l : List Lt) (m : Int) (w0 w : World) (L R R2 : List Asr) (I : St w0 w L) (hA : At (OwnS 59 8 encT v l) L R) (hB : At (Blk gm [.int .i64 m] tb) R R2) :
    Calls Try.prog 62 #[v, otherF gm] w fun e w' => ∃ A k c, e = .returned (.slice A k c) ∧ k = (l.filter fun x => !Fef.other m x).length ∧ k ≤ c ∧ c ≤ maxLen ∧ ((l.filter fun x => !Fef.other m x) ≠ [] → ∃ g, A = some ⟨g, 0, none⟩) ∧ St w0 w' (OwnS 59 8 encT (.slice A k c) (l.filter fun x => !Fef.other m x) :: R) := by
  cases l with
  | nil =>
    obtain ⟨A, c, rfl, hc, hcm, _⟩ := (I.own hA).reads encT_len
    have hIF := lots_IndexFunc1 _ [] m gm w ((I.own hA).slv encT_len) ((I.take hA).cell (.there hB) rfl)
    have HI : Hid (Calls Try.prog 103 #[.slice A 0 c, otherF gm] w fun e w' => e = .returned (.int .i64 (-1)) ∧ Fr w w') := Lib.hid (hIF.mono (by
      rintro _ w1 ⟨r, rfl, hf, hr⟩
      rcases hr with ⟨rfl, _⟩ | ⟨i, _, hi, _, h2⟩
      · exact ⟨rfl, hf⟩
      · simp at hi))
    replace I := I.take hA
    clear hIF hA
    go_enter Try.func62, Try.ntmps62
    go_wp2_with (first | (first | ((with_reducible refine gguard ?_); (first | refine w_guardT (by rfl) (fun hb => ?_) (fun hb => ?_) | refine w_guardF (by rfl) (fun hb => ?_) (fun hb => ?_)) <;> first | (cases hb; done) | cases hb | ((try rw [hb]) <;> (try simp at hb) <;> go_prune <;> (try (with_reducible replace hb := eqPair hb)))) | (((with_reducible refine gbox ?_); first | refine w_boxA I (by rfl) ?_ | refine w_box1 I (by (conv => lhs; whnf) <;> rfl) (by rfl) ?_); clear I; intro g w I) | ((with_reducible refine galloc ?_); refine w_alloc I ?_; clear I; intro g w I) | ((with_reducible refine gload ?_); first | refine w_loadB I (by rfl) (by first | (with_reducible repeat (first | exact .here | apply At.there)); done | repeat (first | exact .here | apply At.there)) (by rfl) ?_ | refine w_loadBR I (by rfl) (by first | (with_reducible repeat (first | exact .here | apply At.there)); done | repeat (first | exact .here | apply At.there)) (by rfl) ?_ | refine w_load0 I (by rfl) (by assumption) ?_) | ((with_reducible refine gstore ?_); (first | refine w_storeB I (by rfl) (by (conv => lhs; whnf) <;> rfl) (by first | (with_reducible repeat (first | exact .here | apply Upd.there)); done | repeat (first | exact .here | apply Upd.there)) (by rfl) (by rfl) (by simp only [List.set_cons_zero, List.set_cons_succ] <;> rfl) ?_ | refine w_storeBR I (by rfl) (by rfl) (by first | (with_reducible repeat (first | exact .here | apply Upd.there)); done | repeat (first | exact .here | apply Upd.there)) (by rfl) (by rfl) (by rfl) ?_); clear I; intro w I)) | (go_at_call 103; go_must (refine (HI.out).mono ?_; rintro _ w1 ⟨rfl, hf⟩; replace I := I.still hf; clear hf)))
    go_ret
    exact ⟨_, _, _, rfl, rfl, hc, hcm, fun h => absurd rfl h, I⟩
  | cons x l =>
    obtain ⟨g, c, rfl, _, _, hc⟩ := (I.own hA).base_of (by simp)
    obtain ⟨_, _, e, _, hm, _⟩ := (I.own hA).reads encT_len
    injection e with _ _ e
    subst e
    refine (lots_DeleteFunc g _ c gm tb _ m w0 w L R R2 I hA hB).mono ?_
    rintro _ w1 ⟨k, rfl, hk, hk2, S⟩
    exact ⟨_, k, c, rfl, hk2, by omega, hm, fun _ => ⟨g, rfl⟩, S⟩

set_option maxRecDepth 100000 in
theorem lots_ContainsFunc (v : Value) (l : List Lt) (w : World) (h : Lots w v l) :
    Calls Try.prog 64 #[v, badF] w fun e w' => e = .returned (.bool (l.any Fef.bad)) ∧ Fr w w' := by
  have HI := Lib.hid (lots_IndexFunc2 v l w h)
  have hm := h.len_le
  unfold maxLen at hm
  clear h
  by_cases hb : ∃ x ∈ l, Fef.bad x = true
  · have HE : Hid (l.any Fef.bad = true) := Lib.hid (List.any_eq_true.2 hb)
    have HI2 : Hid (Calls Try.prog 103 #[v, badF] w fun e w' => ∃ i : Nat, e = .returned (.int .i64 i) ∧ Fr w w') := Lib.hid (HI.out.mono (by
      rintro _ w1 ⟨r, rfl, hf, hr⟩
      rcases hr with ⟨rfl, h⟩ | ⟨i, rfl, _⟩
      · obtain ⟨x, hx, hbx⟩ := hb; rw [h x hx] at hbx; cases hbx
      · exact ⟨i, rfl, hf⟩))
    rw [HE.out]
    clear hb HI
    go_enter Try.func64, Try.ntmps64
    go_wp2_with (first | (go_at_call 103; go_must (refine (HI2.out).mono ?_; rintro _ w1 ⟨i, rfl, hf⟩; have hi0 : (0 : Int) ≤ (i : Int) := by omega)))
    go_ret
    exact ⟨by simp, hf⟩
  · have HE : Hid (l.any Fef.bad = false) := Lib.hid (by rw [List.any_eq_false]; exact fun x hx h => hb ⟨x, hx, h⟩)
    have HI2 : Hid (Calls Try.prog 103 #[v, badF] w fun e w' => e = .returned (.int .i64 (-1)) ∧ Fr w w') := Lib.hid (HI.out.mono (by
      rintro _ w1 ⟨r, rfl, hf, hr⟩
      rcases hr with ⟨rfl, _⟩ | ⟨i, rfl, hi, _, h2⟩
      · exact ⟨rfl, hf⟩
      · exact absurd ⟨_, List.getElem_mem hi, h2 hi⟩ hb))
    rw [HE.out]
    clear hb HI
    go_enter Try.func64, Try.ntmps64
    go_wp2_with (first | (go_at_call 103; go_must (refine (HI2.out).mono ?_; rintro _ w1 ⟨rfl, hf⟩)))
    go_ret
    exact ⟨rfl, hf⟩
end Go.Proofs.Ytggeloihnbjogaa
