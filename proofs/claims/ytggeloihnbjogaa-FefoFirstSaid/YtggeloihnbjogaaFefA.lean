
/- Lots (layer 15): the order: the program's, the reference's. -/
import Derived.Test.YtggeloihnbjogaaSrtH
namespace Go.Proofs.Ytggeloihnbjogaa
open Go.RowKit Go.Hf
def encO (b : Bool) : List Value := [.bool b]
theorem encO_len (x : Bool) : (encO x).length = 1 := rfl
theorem encO_one (x : Bool) : ∀ u ∈ encO x, u.oneCell' = true := by intro u hu; simp [encO] at hu; subst hu; rfl
namespace Fef
def bi : Option Nat → Int
  | none => -1
  | some b => b
/-- The first one of those up to j that are not taken. -/
def First (l : List Lt) (T : List Bool) (j : Nat) : Option Nat → Prop
  | none => ∀ i, i < l.length → i < j → T[i]? = some true
  | some b => b < j ∧ T[b]? = some false ∧ ∃ x, l[b]? = some x ∧ ∀ i y, l[i]? = some y → i < j → T[i]? = some false → i ≠ b → lt x y
variable {l : List Lt} {T : List Bool} {j : Nat}
theorem first_skip {β : Option Nat} (h : First l T j β) (hT : T[j]? = some true) : First l T (j + 1) β := by
  cases β with
  | none =>
    intro i hi hij
    by_cases e : i = j
    · subst e; exact hT
    · exact h i hi (by omega)
  | some b =>
    obtain ⟨h1, h2, x, h3, h4⟩ := h
    refine ⟨by omega, h2, x, h3, fun i y hy hij ht hib => ?_⟩
    by_cases e : i = j
    · subst e; rw [hT] at ht; cases ht
    · exact h4 i y hy (by omega) ht hib
theorem first_new (h : First l T j none) (hl : T.length = l.length) {x : Lt} (hx : l[j]? = some x) (hT : T[j]? = some false) : First l T (j + 1) (some j) := by
  refine ⟨by omega, hT, x, hx, fun i y hy hij ht hib => ?_⟩
  have := h i (List.getElem?_eq_some_iff.1 hy).1 (by omega)
  rw [this] at ht
  cases ht
theorem first_less (hg : Tagged l) {b : Nat} (h : First l T j (some b)) {x y : Lt} (hx : l[j]? = some x) (hy : l[b]? = some y) (hT : T[j]? = some false) (hn : neg x y = true) : First l T (j + 1) (some j) := by
  obtain ⟨h1, h2, y', h3, h4⟩ := h
  rw [hy] at h3
  obtain rfl := Option.some.inj h3
  obtain ⟨hj, hxe⟩ := List.getElem?_eq_some_iff.1 hx
  obtain ⟨hb, hye⟩ := List.getElem?_eq_some_iff.1 hy
  have hxy : lt x y := (ord.neg_iff (by rw [← hxe, ← hye, hg j hj, hg b hb]; exact h1)).1 hn
  refine ⟨by omega, hT, x, hx, fun i z hz hij ht hib => ?_⟩
  by_cases e : i = b
  · subst e; rw [hy] at hz; obtain rfl := Option.some.inj hz; exact hxy
  · exact ord.trans hxy (h4 i z hz (by omega) ht e)
theorem first_keep (hg : Tagged l) {b : Nat} (h : First l T j (some b)) {x y : Lt} (hx : l[j]? = some x) (hy : l[b]? = some y) (hn : neg x y = false) : First l T (j + 1) (some b) := by
  obtain ⟨h1, h2, y', h3, h4⟩ := h
  rw [hy] at h3
  obtain rfl := Option.some.inj h3
  obtain ⟨hj, hxe⟩ := List.getElem?_eq_some_iff.1 hx
  obtain ⟨hb, hye⟩ := List.getElem?_eq_some_iff.1 hy
  refine ⟨by omega, h2, y, hy, fun i z hz hij ht hib => ?_⟩
  by_cases e : i = j
  · subst e; rw [hx] at hz; obtain rfl := Option.some.inj hz
    exact ord.no (by rw [← hxe, ← hye, hg _ hj, hg b hb]; exact h1) hn
  · exact h4 i z hz (by omega) ht hib
/-- What is taken: those that are not asked for, and the first k. -/
def Taken (l M : List Lt) (q : Lt → Bool) (k : Nat) (T : List Bool) : Prop := T.length = l.length ∧ ∀ i x, l[i]? = some x → T[i]? = some (!q x || ((M.take k).map Lt.tag).contains i)
variable {M : List Lt} {q : Lt → Bool} {k : Nat}
theorem sorted_get (hs : M.Pairwise lt) {i j : Nat} (hij : i < j) (hj : j < M.length) : lt (M[i]'(by omega)) M[j] := List.pairwise_iff_getElem.1 hs i j (by omega) hj hij
theorem lt_tag (hg : Tagged l) {x y : Lt} (hx : x ∈ l) (hy : y ∈ l) (h : lt x y) : x.tag ≠ y.tag := fun e => by
  obtain rfl := hg.inj hx hy e
  exact lt_asymm h h
theorem in_l (hp : M.Perm (l.filter q)) {x : Lt} (hx : x ∈ M) : x ∈ l ∧ q x = true := List.mem_filter.1 (hp.mem_iff.1 hx)
theorem first_is (hg : Tagged l) (hp : M.Perm (l.filter q)) (hs : M.Pairwise lt) (hT : Taken l M q k T) {β : Option Nat} (h : First l T l.length β) (hk : k < M.length) : ∃ b, β = some b ∧ l[b]? = some M[k] := by
  have hm := in_l hp (List.getElem_mem hk)
  obtain ⟨i, hi, hie⟩ := List.mem_iff_getElem.1 hm.1
  have hi? : l[i]? = some M[k] := by rw [List.getElem?_eq_getElem hi, hie]
  have hti : M[k].tag = i := by rw [← hie]; exact hg i hi
  have hTi : T[i]? = some false := by
    rw [hT.2 i _ hi?, hm.2]
    congr 1
    rw [Bool.not_true, Bool.false_or, Bool.eq_false_iff]
    intro hc
    rw [List.contains_iff_mem] at hc
    obtain ⟨z, hz, hzt⟩ := List.mem_map.1 hc
    obtain ⟨j, hj, rfl⟩ := List.mem_iff_getElem.1 hz
    rw [List.length_take] at hj
    rw [List.getElem_take] at hzt
    exact lt_tag hg (in_l hp (List.getElem_mem _)).1 hm.1 (sorted_get hs (show j < k by omega) hk) (hzt.trans hti.symm)
  cases β with
  | none => rw [h i hi hi] at hTi; cases hTi
  | some b =>
    obtain ⟨h1, h2, x, h3, h4⟩ := h
    refine ⟨b, rfl, ?_⟩
    by_cases e : i = b
    · subst e; exact hi?
    · exfalso
      have hlt := h4 i _ hi? hi hTi e
      obtain ⟨hb, hbe⟩ := List.getElem?_eq_some_iff.1 h3
      have hb2 := hT.2 b x h3
      rw [h2] at hb2
      have hb3 := (Option.some.inj hb2).symm
      rw [Bool.or_eq_false_iff] at hb3
      have hqx : q x = true := by simpa using hb3.1
      have hxm : x ∈ M := hp.mem_iff.2 (List.mem_filter.2 ⟨by rw [← hbe]; exact List.getElem_mem _, hqx⟩)
      obtain ⟨n, hn, hne⟩ := List.mem_iff_getElem.1 hxm
      have hnk : ¬ n < k := fun hnk => by
        have hc := hb3.2
        rw [Bool.eq_false_iff] at hc
        apply hc
        rw [List.contains_iff_mem]
        refine List.mem_map.2 ⟨M[n], ?_, by rw [hne, ← hbe]; exact hg b hb⟩
        rw [List.mem_iff_getElem]
        exact ⟨n, by rw [List.length_take]; omega, List.getElem_take⟩
      rw [← hne] at hlt
      by_cases e2 : n = k
      · subst e2; exact lt_asymm hlt hlt
      · exact lt_asymm hlt (sorted_get hs (show k < n by omega) hn)
theorem first_no (hp : M.Perm (l.filter q)) (hg : Tagged l) (hT : Taken l M q k T) {β : Option Nat} (h : First l T l.length β) (hk : M.length ≤ k) : β = none := by
  cases β with
  | none => rfl
  | some b =>
    exfalso
    obtain ⟨h1, h2, x, h3, h4⟩ := h
    obtain ⟨hb, hbe⟩ := List.getElem?_eq_some_iff.1 h3
    have hb2 := hT.2 b x h3
    rw [h2] at hb2
    have hb3 := (Option.some.inj hb2).symm
    rw [Bool.or_eq_false_iff, List.take_of_length_le hk] at hb3
    have hqx : q x = true := by simpa using hb3.1
    have hxm : x ∈ M := hp.mem_iff.2 (List.mem_filter.2 ⟨by rw [← hbe]; exact List.getElem_mem _, hqx⟩)
    have hc := hb3.2
    rw [Bool.eq_false_iff] at hc
    apply hc
    rw [List.contains_iff_mem]
    exact List.mem_map.2 ⟨x, hxm, by rw [← hbe]; exact hg b hb⟩
theorem taken_next (hg : Tagged l) (hp : M.Perm (l.filter q)) (hT : Taken l M q k T) (hk : k < M.length) {b : Nat} (hb : l[b]? = some M[k]) : Taken l M q (k + 1) (T.set b true) := by
  obtain ⟨hbl, hbe⟩ := List.getElem?_eq_some_iff.1 hb
  refine ⟨by rw [List.length_set]; exact hT.1, fun i x hx => ?_⟩
  obtain ⟨hi, hie⟩ := List.getElem?_eq_some_iff.1 hx
  have hkt : M[k].tag = b := by rw [← hbe]; exact hg b hbl
  rw [List.take_succ_eq_append_getElem hk, List.map_append, List.contains_eq_any_beq, List.any_append]
  by_cases e : i = b
  · subst e
    rw [List.getElem?_set_self (by rw [hT.1]; exact hi)]
    simp [hkt]
  · rw [List.getElem?_set_ne (fun h => e h.symm), hT.2 i x hx, List.contains_eq_any_beq]
    have : ((i == M[k].tag) : Bool) = false := by rw [hkt]; simpa using e
    simp [this]
theorem taken_start (hl : M.take 0 = []) : Taken l M (fun _ => true) 0 (List.replicate l.length false) := by
  refine ⟨List.length_replicate, fun i x hx => ?_⟩
  rw [hl, List.getElem?_replicate, if_pos (List.getElem?_eq_some_iff.1 hx).1]
  rfl
end Fef
set_option maxRecDepth 100000 in
set_option maxHeartbeats 2000000 in
theorem fefo_Order (v : Value) (l : List Lt) (hl : l.length ≤ 1000) (ht : Fef.Tagged l) (w : World) (h : Lots w v l) :
    Calls Try.prog 25 #[v] w fun e w' => ∃ (v' : Value) (M : List Lt), e = .returned v' ∧ Hid (M.Perm l ∧ M.Pairwise Fef.lt) ∧ St w w' [OwnS 3 1 encI v' (M.map Lt.id)] := by
  have HV := Lib.hid h
  clear h
  have I := St.refl w
  go_enter Try.func25, Try.ntmps25
  try dsimp only [List.append]
  go_wp2_with (first | (first | ((with_reducible refine gguard ?_); (first | refine w_guardT (by rfl) (fun hb => ?_) (fun hb => ?_) | refine w_guardF (by rfl) (fun hb => ?_) (fun hb => ?_)) <;> first | (cases hb; done) | cases hb | ((try rw [hb]) <;> (try simp at hb) <;> go_prune <;> (try (with_reducible replace hb := eqPair hb)))) | (((with_reducible refine gbox ?_); first | refine w_boxA I (by rfl) ?_ | refine w_box1 I (by (conv => lhs; whnf) <;> rfl) (by rfl) ?_); clear I; intro g w I) | ((with_reducible refine galloc ?_); refine w_alloc I ?_; clear I; intro g w I) | ((with_reducible refine gload ?_); first | refine w_loadB I (by rfl) (by first | (with_reducible repeat (first | exact .here | apply At.there)); done | repeat (first | exact .here | apply At.there)) (by rfl) ?_ | refine w_loadBR I (by rfl) (by first | (with_reducible repeat (first | exact .here | apply At.there)); done | repeat (first | exact .here | apply At.there)) (by rfl) ?_ | refine w_load0 I (by rfl) (by assumption) ?_) | ((with_reducible refine gstore ?_); (first | refine w_storeB I (by rfl) (by (conv => lhs; whnf) <;> rfl) (by first | (with_reducible repeat (first | exact .here | apply Upd.there)); done | repeat (first | exact .here | apply Upd.there)) (by rfl) (by rfl) (by simp only [List.set_cons_zero, List.set_cons_succ] <;> rfl) ?_ | refine w_storeBR I (by rfl) (by rfl) (by first | (with_reducible repeat (first | exact .here | apply Upd.there)); done | repeat (first | exact .here | apply Upd.there)) (by rfl) (by rfl) (by rfl) ?_); clear I; intro w I)) | (go_at_call 60; go_must (refine (fefo_sorted v l hl ht _ (HV.out.frF I.fr)).mono ?_; rintro _ w1 ⟨vm, M, rfl, HM, S⟩; replace I := I.then1 S; clear S; obtain ⟨A, c, rfl, -, hcm, -, -⟩ := (I.own .here).reads encT_len)))
  have hMl : M.length ≤ 1000 := by rw [HM.out.1.length_eq]; exact hl
  unfold maxLen at hcm
  replace I := I.nilOwn 3 1 encI
  go_loopw [3, 9] (fun o i wr => ∃ (k : Nat) (A2 : Option Addr) (c2 : Nat), i = .int .i64 k ∧ o = .slice A2 k c2 ∧ k ≤ M.length ∧ St w wr [OwnS 3 1 encI (.slice A2 k c2) ((M.take k).map Lt.id), OwnT (.slice A M.length c) M]) (fun _ i _ => M.length - (intOf i).toNat)
  case atStart => exact ⟨0, none, 0, rfl, rfl, by omega, I⟩
  case round =>
    clear I
    obtain ⟨k, A2, c2, rfl, rfl, hk, I⟩ := hrel
    rename World => wr
    by_cases hlt : k < M.length
    · have hlt2 : (k : Int) < (M.length : Int) := by omega
      obtain ⟨g, c9, hab, -, -, -⟩ := (I.own (v := .slice A M.length c) (l := M) (.there .here)).base_of (by intro e; rw [e] at hlt; simp at hlt)
      injection hab with e1 e2 e3
      subst e1 e3
      clear e2
      have HR := Lib.hid ((I.own (v := .slice (some ⟨g, 0, none⟩) M.length c) (l := M) (.there .here)).cell encT_len k hlt)
      have HN : Hid ((M.take k).map Lt.id ++ [M[k].id] = (M.take (k + 1)).map Lt.id) := Lib.hid (by rw [List.take_succ_eq_append_getElem hlt, List.map_append]; rfl)
      have HKl : Hid (((M.take k).map Lt.id).length = k) := Lib.hid (by rw [List.length_map, List.length_take]; omega)
      generalize M[k] = x at HR HN
      go_wp2_with (first | ((with_reducible refine gload (ty := 59) ?_); refine w_loadR (n := 8) (cs := encT x) (by rfl) rfl (fun j u hj => by rw [addr_add]; exact HR.out j u hj) ?_) | (first | ((with_reducible refine gguard ?_); (first | refine w_guardT (by rfl) (fun hb => ?_) (fun hb => ?_) | refine w_guardF (by rfl) (fun hb => ?_) (fun hb => ?_)) <;> first | (cases hb; done) | cases hb | ((try rw [hb]) <;> (try simp at hb) <;> go_prune <;> (try (with_reducible replace hb := eqPair hb)))) | (((with_reducible refine gbox ?_); first | refine w_boxA I (by rfl) ?_ | refine w_box1 I (by (conv => lhs; whnf) <;> rfl) (by rfl) ?_); clear I; intro g w I) | ((with_reducible refine galloc ?_); refine w_alloc I ?_; clear I; intro g w I) | ((with_reducible refine gload ?_); first | refine w_loadB I (by rfl) (by first | (with_reducible repeat (first | exact .here | apply At.there)); done | repeat (first | exact .here | apply At.there)) (by rfl) ?_ | refine w_loadBR I (by rfl) (by first | (with_reducible repeat (first | exact .here | apply At.there)); done | repeat (first | exact .here | apply At.there)) (by rfl) ?_ | refine w_load0 I (by rfl) (by assumption) ?_) | ((with_reducible refine gstore ?_); (first | refine w_storeB I (by rfl) (by (conv => lhs; whnf) <;> rfl) (by first | (with_reducible repeat (first | exact .here | apply Upd.there)); done | repeat (first | exact .here | apply Upd.there)) (by rfl) (by rfl) (by simp only [List.set_cons_zero, List.set_cons_succ] <;> rfl) ?_ | refine w_storeBR I (by rfl) (by rfl) (by first | (with_reducible repeat (first | exact .here | apply Upd.there)); done | repeat (first | exact .here | apply Upd.there)) (by rfl) (by rfl) (by rfl) ?_); clear I; intro w I)) | (((with_reducible refine gbs ?_); refine w_bs1 (enc := encI) (b := x.id) encI_len I (by rfl) (by rfl) (by rfl) ?_); clear I; intro g w I) | ((with_reducible refine gappend ?_); refine w_append encI_len encI_one (by decide) I (by rfl) (by first | (with_reducible repeat (first | exact .here | apply At.there)); done | repeat (first | exact .here | apply At.there)) (by rfl) (l2 := [x.id]) (I.slv .here encI_len) (by have := HKl.out; first | omega | (simp <;> omega)) (by have := HKl.out; unfold maxLen; first | omega | (simp <;> omega)) ?_; clear I; intro A m c w I))
      all_goals try omega
      obtain ⟨A9, c9, e9, -, -, -, -⟩ := (I.own .here).reads encI_len
      injection e9 with _ e9 _
      rw [List.length_append, HKl.out] at e9
      subst e9
      go_roundw
      case rel => exact ⟨k + 1, _, _, by go_num, rfl, by omega, by rw [← HN.out]; exact (I.drop (.there .here)).drop (.there .here)⟩
      case measure => simp [intOf]; omega
    · obtain rfl : k = M.length := by omega
      have hlt2 : ¬ (M.length : Int) < (M.length : Int) := by omega
      have HE : Hid (M.take M.length = M) := Lib.hid List.take_length
      go_wp2_with fail
      go_ret
      exact ⟨_, rfl, M, HM, by rw [HE.out] at I; exact I.drop (.there .here)⟩
set_option maxRecDepth 100000 in
set_option maxHeartbeats 4000000 in
theorem ref15_first (v vt : Value) (l : List Lt) (T : List Bool) (hl : l.length ≤ 1000) (hg : Fef.Tagged l) (hTl : T.length = l.length) (w : World) (h : Lots w v l) (h2 : SlV 1 (flat encO) w vt T) :
    Calls Try.prog 61 #[v, vt] w fun e w' => ∃ β, e = .returned (.int .i64 (Fef.bi β)) ∧ Hid (Fef.First l T l.length β) ∧ Fr w w' := by
  obtain ⟨A, _, c, rfl, rfl, -, -, -, hsl⟩ := h
  obtain ⟨B, _, c', rfl, rfl, -, -, -, hst⟩ := h2
  have HS := Lib.hid hsl
  have HSt := Lib.hid hst
  have HG := Lib.hid hg
  have HTl := Lib.hid hTl
  rw [hTl]
  have I := St.refl w
  clear hsl hst hg hTl
  go_enter Try.func61, Try.ntmps61
  try dsimp only [List.append]
  go_wp2_with fail
  go_loopw [5, 6] (fun z i wr => ∃ (j : Nat) (β : Option Nat), i = .int .i64 j ∧ z = .int .i64 (Fef.bi β) ∧ j ≤ l.length ∧ Hid (Fef.First l T j β) ∧ St w wr []) (fun _ i _ => l.length - (intOf i).toNat)
  case atStart => exact ⟨0, none, rfl, rfl, by omega, Lib.hid (fun i _ h => by omega), I⟩
  case round =>
    clear I
    obtain ⟨j, β, rfl, rfl, hj, HB, I⟩ := hrel
    by_cases hlt : j < l.length
    · have hlt2 : (j : Int) < (l.length : Int) := by omega
      obtain ⟨bt, ot, rfl, ht0⟩ := SlA.at1 (enc := fun b : Bool => Value.bool b) HSt.out j (by rw [HTl.out]; exact hlt)
      obtain ⟨ba, oa, rfl, cs, -, rfl, hxc⟩ := HS.out.at_ j hlt
      obtain ⟨x, hx⟩ : ∃ x, l[j]? = some x := ⟨_, List.getElem?_eq_getElem hlt⟩
      have HX := Lib.hid hx
      have hxe := (List.getElem?_eq_some_iff.1 hx).2
      rw [hxe] at hxc
      have HX0 := Lib.hid (hxc 0 _ rfl)
      have HX3 := Lib.hid (hxc 3 _ rfl)
      rw [Nat.add_zero] at HX0
      clear hx hxe hxc
      replace ht0 := I.fr.cell ht0
      cases htj : T[j]'(by rw [HTl.out]; exact hlt) with
      | true =>
        rw [htj] at ht0
        have HB2 : Hid (Fef.First l T (j + 1) β) := Lib.hid (Fef.first_skip HB.out (by rw [List.getElem?_eq_getElem (by rw [HTl.out]; exact hlt), htj]))
        clear htj
        go_wp2_with fail
        go_roundw
        case rel => exact ⟨j + 1, β, by go_num, rfl, by omega, HB2, I⟩
        case measure => simp [intOf]; omega
      | false =>
        rw [htj] at ht0
        have HTj : Hid (T[j]? = some false) := Lib.hid (by rw [List.getElem?_eq_getElem (by rw [HTl.out]; exact hlt), htj])
        clear htj
        cases β with
        | none =>
          dsimp only [Fef.bi]
          have d0 : decide ((-1 : Int) < (0 : Int)) = true := by decide
          have HB2 : Hid (Fef.First l T (j + 1) (some j)) := Lib.hid (Fef.first_new HB.out HTl.out HX.out HTj.out)
          go_upto_region 6 with fail
          all_goals try omega
          go_quiet (fail)
          replace I := I.drewN nq
          go_wp2_with fail
          go_roundw
          case rel => exact ⟨j + 1, some j, by go_num, rfl, by omega, HB2, I⟩
          case measure => simp [intOf]; omega
        | some b =>
          dsimp only [Fef.bi]
          have hbj : b < j := HB.out.1
          have hbl : b < l.length := by omega
          have hbl2 : (b : Int) < (l.length : Int) := by omega
          have d9 : decide ((b : Int) < (0 : Int)) = false := decide_eq_false (by omega)
          have d9' : ¬ (b : Int) < 0 := by omega
          obtain ⟨ba2, oa2, hab, cs, -, rfl, hyc⟩ := HS.out.at_ b hbl
          injection hab with hab
          injection hab with e1 e2 e3
          subst e1 e2
          clear e3
          obtain ⟨y, hy⟩ : ∃ y, l[b]? = some y := ⟨_, List.getElem?_eq_getElem hbl⟩
          have HY := Lib.hid hy
          have hye := (List.getElem?_eq_some_iff.1 hy).2
          rw [hye] at hyc
          have HY0 := Lib.hid (hyc 0 _ rfl)
          have HY3 := Lib.hid (hyc 3 _ rfl)
          rw [Nat.add_zero] at HY0
          clear hy hye hyc
          by_cases c1 : x.exp < y.exp
          · have d1 : decide (x.exp < y.exp) = true := decide_eq_true c1
            have HB2 : Hid (Fef.First l T (j + 1) (some j)) := Lib.hid (Fef.first_less HG.out HB.out HX.out HY.out HTj.out ((Fef.neg_iff x y).2 (.inl c1)))
            clear c1
            go_upto_region 6 with fail
            all_goals try omega
            have q1 := I.fr.cell HX0.out
            have q2 := I.fr.cell HX3.out
            have q3 := I.fr.cell HY0.out
            have q4 := I.fr.cell HY3.out
            go_quiet (fail)
            replace I := I.drewN nq
            clear q1 q2 q3 q4
            go_wp2_with fail
            go_roundw
            case rel => exact ⟨j + 1, some j, by go_num, rfl, by omega, HB2, I⟩
            case measure => simp [intOf]; omega
          · have d1 : decide (x.exp < y.exp) = false := decide_eq_false c1
            by_cases c2 : x.exp = y.exp
            · have d2 : (x.exp == y.exp) = true := by simpa using c2
              by_cases c3 : x.id < y.id
              · have d3 : decide (x.id < y.id) = true := decide_eq_true c3
                have HB2 : Hid (Fef.First l T (j + 1) (some j)) := Lib.hid (Fef.first_less HG.out HB.out HX.out HY.out HTj.out ((Fef.neg_iff x y).2 (.inr ⟨c2, c3⟩)))
                clear c1 c2 c3
                go_upto_region 6 with fail
                all_goals try omega
                have q1 := I.fr.cell HX0.out
                have q2 := I.fr.cell HX3.out
                have q3 := I.fr.cell HY0.out
                have q4 := I.fr.cell HY3.out
                go_quiet (fail)
                replace I := I.drewN nq
                clear q1 q2 q3 q4
                go_wp2_with fail
                go_roundw
                case rel => exact ⟨j + 1, some j, by go_num, rfl, by omega, HB2, I⟩
                case measure => simp [intOf]; omega
              · have d3 : decide (x.id < y.id) = false := decide_eq_false c3
                have HB2 : Hid (Fef.First l T (j + 1) (some b)) := Lib.hid (Fef.first_keep HG.out HB.out HX.out HY.out (by rw [Bool.eq_false_iff]; intro e; have := (Fef.neg_iff x y).1 e; omega))
                clear c1 c2 c3
                go_upto_region 6 with fail
                all_goals try omega
                have q1 := I.fr.cell HX0.out
                have q2 := I.fr.cell HX3.out
                have q3 := I.fr.cell HY0.out
                have q4 := I.fr.cell HY3.out
                go_quiet (fail)
                replace I := I.drewN nq
                clear q1 q2 q3 q4
                go_wp2_with fail
                go_roundw
                case rel => exact ⟨j + 1, some b, by go_num, rfl, by omega, HB2, I⟩
                case measure => simp [intOf]; omega
            · have d2 : (x.exp == y.exp) = false := by simpa using c2
              have HB2 : Hid (Fef.First l T (j + 1) (some b)) := Lib.hid (Fef.first_keep HG.out HB.out HX.out HY.out (by rw [Bool.eq_false_iff]; intro e; have := (Fef.neg_iff x y).1 e; omega))
              clear c1 c2
              go_upto_region 6 with fail
              all_goals try omega
              have q1 := I.fr.cell HX0.out
              have q2 := I.fr.cell HX3.out
              have q3 := I.fr.cell HY0.out
              have q4 := I.fr.cell HY3.out
              go_quiet (fail)
              replace I := I.drewN nq
              clear q1 q2 q3 q4
              go_wp2_with fail
              go_roundw
              case rel => exact ⟨j + 1, some b, by go_num, rfl, by omega, HB2, I⟩
              case measure => simp [intOf]; omega
    · obtain rfl : j = l.length := by omega
      have hlt2 : ¬ (l.length : Int) < (l.length : Int) := by omega
      go_wp2_with fail
      go_ret
      exact ⟨β, rfl, HB, I.fr⟩
end Go.Proofs.Ytggeloihnbjogaa
