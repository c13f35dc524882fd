/- Stays (layer 9): contracts of the library's IndexFunc, DeleteFunc, Equal at stays. -/
import Derived.Test.YtpnpgeilhafepaaStyG
namespace Go.Proofs.Ytpnpgeilhafepaa
open Go.RowKit Go.Hf

def Sty.late (m : Int) (x : Stay) : Bool := decide (m ≤ x.frm)
abbrev uptoF (g : Nat) : Value := .func (.func 91) #[] #[.pointer (some ⟨g, 0, none⟩)]
set_option maxRecDepth 100000 in
theorem stays_upto1 (x : Stay) (m : Int) (g : Nat) (w : World) (hc : w.cell? ⟨g, 0, none⟩ = some (.int .i64 m)) :
    Calls Try.prog 91 #[aggS x, .pointer (some ⟨g, 0, none⟩)] w fun e w' => e = .returned (.bool (Sty.late m x)) ∧ Fr w w' := by
  have I := St.refl w
  go_enter Try.func91, Try.ntmps91
  go_wp2_with (first | ((with_reducible refine gguard ?_); (first | refine w_guardT (by rfl) (fun hb => ?_) (fun hb => ?_) | refine w_guardF (by rfl) (fun hb => ?_) (fun hb => ?_)) <;> first | (cases hb; done) | cases hb | ((try rw [hb]) <;> (try simp at hb) <;> go_prune <;> (try (with_reducible replace hb := eqPair hb)))) | (((with_reducible refine gbox ?_); first | refine w_boxA I (by rfl) ?_ | refine w_box1 I (by (conv => lhs; whnf) <;> rfl) (by rfl) ?_); clear I; intro g w I) | ((with_reducible refine galloc ?_); refine w_alloc I ?_; clear I; intro g w I) | ((with_reducible refine gload ?_); first | refine w_loadB I (by rfl) (by first | (with_reducible repeat (first | exact .here | apply At.there)); done | repeat (first | exact .here | apply At.there)) (by rfl) ?_ | refine w_loadBR I (by rfl) (by first | (with_reducible repeat (first | exact .here | apply At.there)); done | repeat (first | exact .here | apply At.there)) (by rfl) ?_ | refine w_load0 I (by rfl) (by assumption) ?_) | ((with_reducible refine gstore ?_); (first | refine w_storeB I (by rfl) (by (conv => lhs; whnf) <;> rfl) (by first | (with_reducible repeat (first | exact .here | apply Upd.there)); done | repeat (first | exact .here | apply Upd.there)) (by rfl) (by rfl) (by simp only [List.set_cons_zero, List.set_cons_succ] <;> rfl) ?_ | refine w_storeBR I (by rfl) (by rfl) (by first | (with_reducible repeat (first | exact .here | apply Upd.there)); done | repeat (first | exact .here | apply Upd.there)) (by rfl) (by rfl) (by rfl) ?_); clear I; intro w I))
  go_ret
  exact ⟨rfl, I.fr⟩
set_option maxRecDepth 100000 in
set_option maxHeartbeats 1000000 in
theorem stays_IndexFunc (v : Value) (l : List Stay) (m : Int) (g : Nat) (w : World) (h : Stays w v l) (hc : w.cell? ⟨g, 0, none⟩ = some (.int .i64 m)) :
    Calls Try.prog 111 #[v, uptoF g] w fun e w' => ∃ r : Int, e = .returned (.int .i64 r) ∧ Fr w w' ∧ ((r = -1 ∧ ∀ x ∈ l, Sty.late m x = false) ∨ ∃ i : Nat, r = i ∧ i < l.length ∧ (l.take i).filter (fun x => !Sty.late m x) = l.take i ∧ ∀ hi : i < l.length, Sty.late m l[i] = true) := by
  have hm := h.len_le
  unfold maxLen at hm
  obtain ⟨A, _, c, rfl, rfl, _, _, _, hs⟩ := h
  have HS := Lib.hid hs
  have HU := Lib.hid (fun x wx (hf : Fr w wx) => stays_upto1 x m g wx (hf.cell hc))
  clear hs hc
  go_enter Try.func111, Try.ntmps111
  go_wp2_with fail
  go_loopw [8] (fun i wr => ∃ k : Nat, i = .int .i64 k ∧ k ≤ l.length ∧ Hid (∀ x ∈ l.take k, Sty.late m x = false) ∧ Fr w wr) (fun i _ => l.length - (intOf i).toNat)
  case atStart => exact ⟨0, rfl, by omega, by simp [Hid], Fr.refl _⟩
  case round =>
    obtain ⟨k, rfl, hk, hT, hf⟩ := hrel
    rename World => wr
    by_cases hlt : k < l.length
    · obtain ⟨b, o, rfl, hc0, hc1, hc2⟩ := atS (HS.out.fr (flat_stays _) hf) k hlt
      have HX : Hid (∀ hi : k < l.length, l[k] = l[k]) := Lib.hid (fun _ => rfl)
      cases hp : Sty.late m l[k] with
      | true =>
        have HP : Hid (∀ hi : k < l.length, Sty.late m l[k] = true) := Lib.hid (fun _ => hp)
        have HF : Hid ((l.take k).filter (fun x => !Sty.late m x) = l.take k) := Lib.hid (by rw [List.filter_eq_self]; intro x hx; rw [hT.out x hx]; rfl)
        have HU2 := Lib.hid (HU.out l[k])
        have HP2 := Lib.hid hp
        clear hp HX
        generalize l[k] = x at hc0 hc1 hc2 HU2 HP2
        go_wp2_with (go_at_call 91; go_must (refine (HU2.out _ hf).mono ?_; rintro _ w1 ⟨rfl, hf2⟩; rw [HP2.out]))
        go_ret
        exact ⟨_, rfl, hf.trans hf2, .inr ⟨k, rfl, hlt, HF.out, HP.out⟩⟩
      | false =>
        have HF : Hid (∀ x ∈ l.take (k + 1), Sty.late m x = false) := Lib.hid (by
          intro x hx
          rw [List.take_succ_eq_append_getElem hlt, List.mem_append] at hx
          rcases hx with hx | hx
          · exact hT.out x hx
          · simp at hx; subst hx; exact hp)
        have HU2 := Lib.hid (HU.out l[k])
        have HP2 := Lib.hid hp
        clear hp HX
        generalize l[k] = x at hc0 hc1 hc2 HU2 HP2
        go_wp2_with (go_at_call 91; go_must (refine (HU2.out _ hf).mono ?_; rintro _ w1 ⟨rfl, hf2⟩; rw [HP2.out]))
        go_roundw
        case rel => exact ⟨k + 1, by go_num, by omega, HF, hf.trans hf2⟩
        case measure => simp [intOf]; omega
    · obtain rfl : k = l.length := by omega
      rw [List.take_length] at hT
      go_wp2_with fail
      go_ret
      exact ⟨_, rfl, hf, .inl ⟨rfl, hT.out⟩⟩

/-! Deleting: what stands in the first i places behind j rounds. -/
structure Del (α : Type) (q : α → Bool) (l L : List α) (i j : Nat) : Prop where
  len : L.length = l.length
  take : L.take i = (l.take j).filter q
  drop : L.drop j = l.drop j
  lt : i < j
theorem Del.get {α : Type} {q : α → Bool} {l L : List α} {i j : Nat} (h : Del α q l L i j) (hj : j < L.length) (hj2 : j < l.length) : L[j] = l[j] := by
  have := h.drop
  rw [List.drop_eq_getElem_cons hj, List.drop_eq_getElem_cons hj2] at this
  injection this
theorem Del.gone {α : Type} {q : α → Bool} {l L : List α} {i j : Nat} (h : Del α q l L i j) (hj : j < L.length) (hq : q L[j] = false) : Del α q l L i (j + 1) := by
  have hj2 : j < l.length := by rw [← h.len]; exact hj
  have he := h.get hj hj2
  refine ⟨h.len, ?_, ?_, by have := h.lt; omega⟩
  · rw [h.take, List.take_succ_eq_append_getElem hj2, List.filter_append, List.filter_cons_of_neg (by rw [← he, hq]; simp)]
    simp
  · have := congrArg (List.drop 1) h.drop
    simpa [List.drop_drop] using this
theorem Del.kept {α : Type} {q : α → Bool} {l L : List α} {i j : Nat} (h : Del α q l L i j) (hj : j < L.length) (hq : q L[j] = true) : Del α q l (L.set i L[j]) (i + 1) (j + 1) := by
  have hj2 : j < l.length := by rw [← h.len]; exact hj
  have he := h.get hj hj2
  have hl := h.lt
  refine ⟨by rw [List.length_set, h.len], ?_, ?_, by omega⟩
  · rw [List.take_succ_eq_append_getElem (by rw [List.length_set]; omega), List.getElem_set_self, List.take_set_of_le (Nat.le_refl _), h.take, List.take_succ_eq_append_getElem hj2, List.filter_append, List.filter_cons_of_pos (by rw [← he, hq]), he]
    rfl
  · rw [List.drop_set_of_lt (by omega)]
    have := congrArg (List.drop 1) h.drop
    simpa [List.drop_drop] using this
theorem Del.start {α : Type} {q : α → Bool} {l : List α} {i : Nat} (hi : i < l.length) (h1 : (l.take i).filter q = l.take i) (h2 : q l[i] = false) : Del α q l l i (i + 1) := by
  refine ⟨rfl, ?_, rfl, by omega⟩
  rw [List.take_succ_eq_append_getElem hi, List.filter_append, h1, List.filter_cons_of_neg (by rw [h2]; simp)]
  simp
theorem Del.done {α : Type} {q : α → Bool} {l L : List α} {i j : Nat} (h : Del α q l L i j) (hj : j = l.length) : L.take i = l.filter q := by
  subst hj
  rw [h.take, List.take_length]

set_option maxRecDepth 100000 in
set_option maxHeartbeats 2000000 in
theorem stays_DeleteFunc (g n c gm : Nat) (tb : TypeId) (l : List Stay) (m : Int) (w0 w : World) (L R R2 : List Asr) (I : St w0 w L) (hA : At (OwnS 33 3 encS (.slice (some ⟨g, 0, none⟩) n c) l) L R) (hB : At (Blk gm [.int .i64 m] tb) R R2) :
    Calls Try.prog 89 #[.slice (some ⟨g, 0, none⟩) n c, uptoF gm] w fun e w' => ∃ k, e = .returned (.slice (some ⟨g, 0, none⟩) k c) ∧ k ≤ n ∧ k = (l.filter fun x => !Sty.late m x).length ∧ St w0 w' (OwnS 33 3 encS (.slice (some ⟨g, 0, none⟩) k c) (l.filter fun x => !Sty.late m x) :: R) := by
  obtain ⟨A', c', e, hnc, hcm, _⟩ := (I.own hA).reads encS_len
  injection e with e0 e1 e2
  subst e0 e1 e2
  unfold maxLen at hcm
  replace I := I.take hA
  clear hA
  have hIF := stays_IndexFunc _ l m gm w (I.slv .here encS_len) (I.cell (.there hB) rfl)
  by_cases hex : ∀ x ∈ l, Sty.late m x = false
  · have HI : Hid (Calls Try.prog 111 #[.slice (some ⟨g, 0, none⟩) l.length c, uptoF gm] w fun e w' => e = .returned (.int .i64 (-1)) ∧ Fr w w') := Lib.hid (hIF.mono (by
      rintro _ w1 ⟨r, rfl, hf, hr⟩
      rcases hr with ⟨rfl, _⟩ | ⟨i, _, hi, _, h2⟩
      · exact ⟨rfl, hf⟩
      · have := hex _ (List.getElem_mem hi); rw [h2 hi] at this; cases this))
    have hfl : (l.filter fun x => !Sty.late m x) = l := by rw [List.filter_eq_self]; intro x hx; rw [hex x hx]; rfl
    rw [hfl]
    clear hex hIF hfl
    go_enter Try.func89, Try.ntmps89
    go_wp2_with (first | (first | ((with_reducible refine gguard ?_); (first | refine w_guardT (by rfl) (fun hb => ?_) (fun hb => ?_) | refine w_guardF (by rfl) (fun hb => ?_) (fun hb => ?_)) <;> first | (cases hb; done) | cases hb | ((try rw [hb]) <;> (try simp at hb) <;> go_prune <;> (try (with_reducible replace hb := eqPair hb)))) | (((with_reducible refine gbox ?_); first | refine w_boxA I (by rfl) ?_ | refine w_box1 I (by (conv => lhs; whnf) <;> rfl) (by rfl) ?_); clear I; intro g w I) | ((with_reducible refine galloc ?_); refine w_alloc I ?_; clear I; intro g w I) | ((with_reducible refine gload ?_); first | refine w_loadB I (by rfl) (by first | (with_reducible repeat (first | exact .here | apply At.there)); done | repeat (first | exact .here | apply At.there)) (by rfl) ?_ | refine w_loadBR I (by rfl) (by first | (with_reducible repeat (first | exact .here | apply At.there)); done | repeat (first | exact .here | apply At.there)) (by rfl) ?_ | refine w_load0 I (by rfl) (by assumption) ?_) | ((with_reducible refine gstore ?_); (first | refine w_storeB I (by rfl) (by (conv => lhs; whnf) <;> rfl) (by first | (with_reducible repeat (first | exact .here | apply Upd.there)); done | repeat (first | exact .here | apply Upd.there)) (by rfl) (by rfl) (by simp only [List.set_cons_zero, List.set_cons_succ] <;> rfl) ?_ | refine w_storeBR I (by rfl) (by rfl) (by first | (with_reducible repeat (first | exact .here | apply Upd.there)); done | repeat (first | exact .here | apply Upd.there)) (by rfl) (by rfl) (by rfl) ?_); clear I; intro w I)) | (go_at_call 111; go_must (refine (HI.out).mono ?_; rintro _ w1 ⟨rfl, hf⟩; replace I := I.still hf; clear hf)))
    go_ret
    exact ⟨_, rfl, Nat.le_refl _, rfl, I⟩
  · have HI : Hid (Calls Try.prog 111 #[.slice (some ⟨g, 0, none⟩) l.length c, uptoF gm] w fun e w' => ∃ i : Nat, e = .returned (.int .i64 i) ∧ Fr w w' ∧ i < l.length ∧ Hid (Del Stay (fun x => !Sty.late m x) l l i (i + 1))) := Lib.hid (hIF.mono (by
      rintro _ w1 ⟨r, rfl, hf, hr⟩
      rcases hr with ⟨rfl, h⟩ | ⟨i, rfl, hi, h1, h2⟩
      · exact absurd h hex
      · exact ⟨i, rfl, hf, hi, Del.start hi h1 (by rw [h2 hi]; rfl)⟩))
    clear hex hIF
    go_enter Try.func89, Try.ntmps89
    go_wp2_with (first | (first | ((with_reducible refine gguard ?_); (first | refine w_guardT (by rfl) (fun hb => ?_) (fun hb => ?_) | refine w_guardF (by rfl) (fun hb => ?_) (fun hb => ?_)) <;> first | (cases hb; done) | cases hb | ((try rw [hb]) <;> (try simp at hb) <;> go_prune <;> (try (with_reducible replace hb := eqPair hb)))) | (((with_reducible refine gbox ?_); first | refine w_boxA I (by rfl) ?_ | refine w_box1 I (by (conv => lhs; whnf) <;> rfl) (by rfl) ?_); clear I; intro g w I) | ((with_reducible refine galloc ?_); refine w_alloc I ?_; clear I; intro g w I) | ((with_reducible refine gload ?_); first | refine w_loadB I (by rfl) (by first | (with_reducible repeat (first | exact .here | apply At.there)); done | repeat (first | exact .here | apply At.there)) (by rfl) ?_ | refine w_loadBR I (by rfl) (by first | (with_reducible repeat (first | exact .here | apply At.there)); done | repeat (first | exact .here | apply At.there)) (by rfl) ?_ | refine w_load0 I (by rfl) (by assumption) ?_) | ((with_reducible refine gstore ?_); (first | refine w_storeB I (by rfl) (by (conv => lhs; whnf) <;> rfl) (by first | (with_reducible repeat (first | exact .here | apply Upd.there)); done | repeat (first | exact .here | apply Upd.there)) (by rfl) (by rfl) (by simp only [List.set_cons_zero, List.set_cons_succ] <;> rfl) ?_ | refine w_storeBR I (by rfl) (by rfl) (by first | (with_reducible repeat (first | exact .here | apply Upd.there)); done | repeat (first | exact .here | apply Upd.there)) (by rfl) (by rfl) (by rfl) ?_); clear I; intro w I)) | (go_at_call 111; go_must (refine (HI.out).mono ?_; rintro _ w1 ⟨i0, rfl, hf, hi0, HD⟩; replace I := I.still hf; clear hf; have hi0q : (i0 : Int) < (l.length : Int) := (by omega); have qi0 := IntWalk.i64_in ((i0 : Int) + 1) (by omega); have hbi : ((i0 : Int) == -1) = false := beq_eq_false_iff_ne.2 (by omega))))
    have hn2 : i0 + 1 ≤ l.length := by omega
    go_loopw [5, 6] (fun iv jv wr => ∃ (i j : Nat) (K : List Stay), iv = .int .i64 i ∧ jv = .int .i64 j ∧ j ≤ l.length ∧ Hid (Del Stay (fun x => !Sty.late m x) l K i j) ∧ St w0 wr (OwnS 33 3 encS (.slice (some ⟨g, 0, none⟩) l.length c) K :: R)) (fun _ jv _ => l.length - (intOf jv).toNat)
    case atStart => exact ⟨i0, i0 + 1, l, rfl, rfl, hn2, HD, I⟩
    case round =>
      clear I HD HI
      obtain ⟨i, j, K, rfl, rfl, hj, HD, I⟩ := hrel
      rename World => wr
      have hKl := HD.out.len
      have hij := HD.out.lt
      by_cases hlt : j < l.length
      · obtain ⟨b, o, e, hc0, hc1, hc2⟩ := atS ((I.slv .here encS_len).sla) j (by omega)
        obtain ⟨rfl, rfl, _⟩ := Addr.mk.inj (Option.some.inj e)
        clear e
        rw [Nat.zero_add] at hc0 hc1 hc2
        have hU := stays_upto1 (K[j]'(by omega)) m gm
        have hjq : (j : Int) < (l.length : Int) := by omega
        have qj := IntWalk.i64_in ((j : Int) + 1) (by omega)
        have HD1 : Hid (∀ h : j < K.length, Sty.late m K[j] = true → Del Stay (fun x => !Sty.late m x) l K i (j + 1)) := Lib.hid (fun h hq => HD.out.gone h (by rw [hq]; rfl))
        have HD2 : Hid (∀ h : j < K.length, Sty.late m K[j] = false → Del Stay (fun x => !Sty.late m x) l (K.set i K[j]) (i + 1) (j + 1)) := Lib.hid (fun h hq => HD.out.kept h (by rw [hq]; rfl))
        have hjK : j < K.length := by omega
        have HD1 := Lib.hid (HD1.out hjK)
        have HD2 := Lib.hid (HD2.out hjK)
        clear HD
        generalize K[j] = x at hc0 hc1 hc2 hU HD1 HD2
        have HU := Lib.hid hU
        clear hU
        cases hp : Sty.late m x with
        | true =>
          have HP := Lib.hid hp
          have HE := Lib.hid (HD1.out hp)
          clear hp HD1 HD2
          go_wp2_with (first | (first | ((with_reducible refine gguard ?_); (first | refine w_guardT (by rfl) (fun hb => ?_) (fun hb => ?_) | refine w_guardF (by rfl) (fun hb => ?_) (fun hb => ?_)) <;> first | (cases hb; done) | cases hb | ((try rw [hb]) <;> (try simp at hb) <;> go_prune <;> (try (with_reducible replace hb := eqPair hb)))) | (((with_reducible refine gbox ?_); first | refine w_boxA I (by rfl) ?_ | refine w_box1 I (by (conv => lhs; whnf) <;> rfl) (by rfl) ?_); clear I; intro g w I) | ((with_reducible refine galloc ?_); refine w_alloc I ?_; clear I; intro g w I) | ((with_reducible refine gload ?_); first | refine w_loadB I (by rfl) (by first | (with_reducible repeat (first | exact .here | apply At.there)); done | repeat (first | exact .here | apply At.there)) (by rfl) ?_ | refine w_loadBR I (by rfl) (by first | (with_reducible repeat (first | exact .here | apply At.there)); done | repeat (first | exact .here | apply At.there)) (by rfl) ?_ | refine w_load0 I (by rfl) (by assumption) ?_) | ((with_reducible refine gstore ?_); (first | refine w_storeB I (by rfl) (by (conv => lhs; whnf) <;> rfl) (by first | (with_reducible repeat (first | exact .here | apply Upd.there)); done | repeat (first | exact .here | apply Upd.there)) (by rfl) (by rfl) (by simp only [List.set_cons_zero, List.set_cons_succ] <;> rfl) ?_ | refine w_storeBR I (by rfl) (by rfl) (by first | (with_reducible repeat (first | exact .here | apply Upd.there)); done | repeat (first | exact .here | apply Upd.there)) (by rfl) (by rfl) (by rfl) ?_); clear I; intro w I)) | (go_at_call 91; go_must (refine (HU.out _ (I.cell (.there (.there hB)) rfl)).mono ?_; rintro _ w1 ⟨rfl, hf⟩; rw [HP.out]; replace I := I.still hf; clear hf)))
          go_roundw
          case rel => exact ⟨i, j + 1, K, rfl, by go_num, by omega, HE, I.drop1⟩
          case measure => simp [intOf]; omega
        | false =>
          have HP := Lib.hid hp
          have HE := Lib.hid (HD2.out hp)
          have hiK : i < K.length := by omega
          have hiq : (i : Int) < (l.length : Int) := by omega
          have qi := IntWalk.i64_in ((i : Int) + 1) (by omega)
          clear hp HD1 HD2
          go_wp2_with (first | ((with_reducible refine gstore ?_); refine w_storeOR encS_len encS_one I (by rfl) (b := x) (by rfl) (.there .here) (i := i) (l' := K.set i x) (by first | rfl | omega) hiK rfl ?_; clear I; intro w I) | (first | ((with_reducible refine gguard ?_); (first | refine w_guardT (by rfl) (fun hb => ?_) (fun hb => ?_) | refine w_guardF (by rfl) (fun hb => ?_) (fun hb => ?_)) <;> first | (cases hb; done) | cases hb | ((try rw [hb]) <;> (try simp at hb) <;> go_prune <;> (try (with_reducible replace hb := eqPair hb)))) | (((with_reducible refine gbox ?_); first | refine w_boxA I (by rfl) ?_ | refine w_box1 I (by (conv => lhs; whnf) <;> rfl) (by rfl) ?_); clear I; intro g w I) | ((with_reducible refine galloc ?_); refine w_alloc I ?_; clear I; intro g w I) | ((with_reducible refine gload ?_); first | refine w_loadB I (by rfl) (by first | (with_reducible repeat (first | exact .here | apply At.there)); done | repeat (first | exact .here | apply At.there)) (by rfl) ?_ | refine w_loadBR I (by rfl) (by first | (with_reducible repeat (first | exact .here | apply At.there)); done | repeat (first | exact .here | apply At.there)) (by rfl) ?_ | refine w_load0 I (by rfl) (by assumption) ?_) | ((with_reducible refine gstore ?_); (first | refine w_storeB I (by rfl) (by (conv => lhs; whnf) <;> rfl) (by first | (with_reducible repeat (first | exact .here | apply Upd.there)); done | repeat (first | exact .here | apply Upd.there)) (by rfl) (by rfl) (by simp only [List.set_cons_zero, List.set_cons_succ] <;> rfl) ?_ | refine w_storeBR I (by rfl) (by rfl) (by first | (with_reducible repeat (first | exact .here | apply Upd.there)); done | repeat (first | exact .here | apply Upd.there)) (by rfl) (by rfl) (by rfl) ?_); clear I; intro w I)) | (go_at_call 91; go_must (refine (HU.out _ (I.cell (.there (.there hB)) rfl)).mono ?_; rintro _ w1 ⟨rfl, hf⟩; rw [HP.out]; replace I := I.still hf; clear hf)))
          go_roundw
          case rel => exact ⟨i + 1, j + 1, K.set i x, by go_num, by go_num, by omega, HE, I.drop1⟩
          case measure => simp [intOf]; omega
      · have hjl : j = l.length := by omega
        have HE := Lib.hid (HD.out.done hjl)
        have hic : ¬ ((c : Int) = (i : Int)) := by omega
        have hiq : (i : Int) ≤ (l.length : Int) := by omega
        have hiq2 : (i : Int) ≤ (c : Int) := by omega
        clear HD
        go_wp2_with (first | ((with_reducible refine gclear ?_); refine w_clear encS_len (by decide) I (by rfl) .here (k := i) (by first | rfl | omega) (by omega) (by omega) ?_; clear I; intro w I) | (first | ((with_reducible refine gguard ?_); (first | refine w_guardT (by rfl) (fun hb => ?_) (fun hb => ?_) | refine w_guardF (by rfl) (fun hb => ?_) (fun hb => ?_)) <;> first | (cases hb; done) | cases hb | ((try rw [hb]) <;> (try simp at hb) <;> go_prune <;> (try (with_reducible replace hb := eqPair hb)))) | (((with_reducible refine gbox ?_); first | refine w_boxA I (by rfl) ?_ | refine w_box1 I (by (conv => lhs; whnf) <;> rfl) (by rfl) ?_); clear I; intro g w I) | ((with_reducible refine galloc ?_); refine w_alloc I ?_; clear I; intro g w I) | ((with_reducible refine gload ?_); first | refine w_loadB I (by rfl) (by first | (with_reducible repeat (first | exact .here | apply At.there)); done | repeat (first | exact .here | apply At.there)) (by rfl) ?_ | refine w_loadBR I (by rfl) (by first | (with_reducible repeat (first | exact .here | apply At.there)); done | repeat (first | exact .here | apply At.there)) (by rfl) ?_ | refine w_load0 I (by rfl) (by assumption) ?_) | ((with_reducible refine gstore ?_); (first | refine w_storeB I (by rfl) (by (conv => lhs; whnf) <;> rfl) (by first | (with_reducible repeat (first | exact .here | apply Upd.there)); done | repeat (first | exact .here | apply Upd.there)) (by rfl) (by rfl) (by simp only [List.set_cons_zero, List.set_cons_succ] <;> rfl) ?_ | refine w_storeBR I (by rfl) (by rfl) (by first | (with_reducible repeat (first | exact .here | apply Upd.there)); done | repeat (first | exact .here | apply Upd.there)) (by rfl) (by rfl) (by rfl) ?_); clear I; intro w I)))
        rw [HE.out] at I
        go_ret
        exact ⟨i, rfl, by omega, by rw [← HE.out, List.length_take]; omega, I⟩
/-- Of a slice of the call's own, whatever its length. -/
theorem stays_DeleteFuncAny (v : Value) (gm : Nat) (tb : TypeId) (l : List Stay) (m : Int) (w0 w : World) (L R R2 : List Asr) (I : St w0 w L) (hA : At (OwnS 33 3 encS v l) L R) (hB : At (Blk gm [.int .i64 m] tb) R R2) :
    Calls Try.prog 89 #[v, uptoF gm] w fun e w' => ∃ A k c, e = .returned (.slice A k c) ∧ k = (l.filter fun x => !Sty.late m x).length ∧ k ≤ c ∧ c ≤ maxLen ∧ ((l.filter fun x => !Sty.late m x) ≠ [] → ∃ g, A = some ⟨g, 0, none⟩) ∧ St w0 w' (OwnS 33 3 encS (.slice A k c) (l.filter fun x => !Sty.late m x) :: R) := by
  cases l with
  | nil =>
    obtain ⟨A, c, rfl, hc, hcm, _⟩ := (I.own hA).reads encS_len
    have hIF := stays_IndexFunc _ [] m gm w ((I.own hA).slv encS_len) ((I.take hA).cell (.there hB) rfl)
    have HI : Hid (Calls Try.prog 111 #[.slice A 0 c, uptoF gm] w fun e w' => e = .returned (.int .i64 (-1)) ∧ Fr w w') := Lib.hid (hIF.mono (by
      rintro _ w1 ⟨r, rfl, hf, hr⟩
      rcases hr with ⟨rfl, _⟩ | ⟨i, _, hi, _, h2⟩
      · exact ⟨rfl, hf⟩
      · simp at hi))
    replace I := I.take hA
    clear hIF hA
    go_enter Try.func89, Try.ntmps89
    go_wp2_with (first | (first | ((with_reducible refine gguard ?_); (first | refine w_guardT (by rfl) (fun hb => ?_) (fun hb => ?_) | refine w_guardF (by rfl) (fun hb => ?_) (fun hb => ?_)) <;> first | (cases hb; done) | cases hb | ((try rw [hb]) <;> (try simp at hb) <;> go_prune <;> (try (with_reducible replace hb := eqPair hb)))) | (((with_reducible refine gbox ?_); first | refine w_boxA I (by rfl) ?_ | refine w_box1 I (by (conv => lhs; whnf) <;> rfl) (by rfl) ?_); clear I; intro g w I) | ((with_reducible refine galloc ?_); refine w_alloc I ?_; clear I; intro g w I) | ((with_reducible refine gload ?_); first | refine w_loadB I (by rfl) (by first | (with_reducible repeat (first | exact .here | apply At.there)); done | repeat (first | exact .here | apply At.there)) (by rfl) ?_ | refine w_loadBR I (by rfl) (by first | (with_reducible repeat (first | exact .here | apply At.there)); done | repeat (first | exact .here | apply At.there)) (by rfl) ?_ | refine w_load0 I (by rfl) (by assumption) ?_) | ((with_reducible refine gstore ?_); (first | refine w_storeB I (by rfl) (by (conv => lhs; whnf) <;> rfl) (by first | (with_reducible repeat (first | exact .here | apply Upd.there)); done | repeat (first | exact .here | apply Upd.there)) (by rfl) (by rfl) (by simp only [List.set_cons_zero, List.set_cons_succ] <;> rfl) ?_ | refine w_storeBR I (by rfl) (by rfl) (by first | (with_reducible repeat (first | exact .here | apply Upd.there)); done | repeat (first | exact .here | apply Upd.there)) (by rfl) (by rfl) (by rfl) ?_); clear I; intro w I)) | (go_at_call 111; go_must (refine (HI.out).mono ?_; rintro _ w1 ⟨rfl, hf⟩; replace I := I.still hf; clear hf)))
    go_ret
    exact ⟨_, _, _, rfl, rfl, hc, hcm, fun h => absurd rfl h, I⟩
  | cons x l =>
    obtain ⟨g, c, rfl, _, _, hc⟩ := (I.own hA).base_of (by simp)
    obtain ⟨_, _, e, _, hm, _⟩ := (I.own hA).reads encS_len
    injection e with _ _ e
    subst e
    refine (stays_DeleteFunc g _ c gm tb _ m w0 w L R R2 I hA hB).mono ?_
    rintro _ w1 ⟨k, rfl, hk, hk2, S⟩
    exact ⟨_, k, c, rfl, hk2, by omega, hm, fun _ => ⟨g, rfl⟩, S⟩

set_option maxRecDepth 100000 in
set_option maxHeartbeats 1000000 in
theorem stays_Equal (v1 v2 : Value) (l1 l2 : List Stay) (w : World) (h1 : Stays w v1 l1) (h2 : Stays w v2 l2) :
    Calls Try.prog 88 #[v1, v2] w fun e w' => e = .returned (.bool (l1 == l2)) ∧ Dr w w' := by
  have hm := h1.len_le
  have hm2 := h2.len_le
  unfold maxLen at hm hm2
  obtain ⟨A1, _, c1, rfl, rfl, _, _, _, hs1⟩ := h1
  obtain ⟨A2, _, c2, rfl, rfl, _, _, _, hs2⟩ := h2
  have H1 := Lib.hid hs1
  have H2 := Lib.hid hs2
  clear hs1 hs2
  by_cases hlen : l1.length = l2.length
  · have HL := Lib.hid hlen
    have hd : ((l1.length : Int) != (l2.length : Int)) = false := by simp [hlen]
    have hlt2 : ∀ k, k < l1.length → k < l2.length := fun k h => by omega
    have HT := Lib.hid hlt2
    clear hlen hlt2
    go_enter Try.func88, Try.ntmps88
    go_wp2_with fail
    go_loopw [13] (fun i wr => ∃ k : Nat, i = .int .i64 k ∧ k ≤ l1.length ∧ Hid (l1.take k = l2.take k) ∧ Dr w wr) (fun i _ => l1.length - (intOf i).toNat)
    case atStart => exact ⟨0, rfl, by omega, rfl, Dr.refl _⟩
    case round =>
      obtain ⟨k, rfl, hk, ht, hf⟩ := hrel
      by_cases hlt : k < l1.length
      · have hlt2 := HT.out k hlt
        obtain ⟨b1, o1, rfl, hc0, hc1, hc2⟩ := atS (H1.out.fr (flat_stays _) hf.fr) k hlt
        obtain ⟨b2, o2, rfl, hd0, hd1, hd2⟩ := atS (H2.out.fr (flat_stays _) hf.fr) k hlt2
        have HS := Lib.hid (fun h => take_eq_step l1 l2 k hlt hlt2 ht.out h)
        have HN := Lib.hid (fun h => beq_false_of_get l1 l2 k hlt hlt2 h)
        generalize l1[k] = x at *
        generalize l2[k] = y at *
        have hi1 : (k : Int) < (l1.length : Int) := by omega
        have hi2 : (k : Int) < (l2.length : Int) := by omega
        have he := eq_stay x y
        by_cases hxy : x = y
        · rw [decide_eq_true hxy] at he
          have HE := Lib.hid (HS.out hxy)
          clear hxy
          go_wp2_with fail
          go_quiet (fail)
          go_wp2_with fail
          go_roundw
          case rel => exact ⟨k + 1, by go_num, by omega, HE, hf.drewN _⟩
          case measure => simp [intOf]; omega
        · rw [decide_eq_false hxy] at he
          have HE := Lib.hid (HN.out hxy)
          clear hxy
          go_wp2_with fail
          go_quiet (fail)
          go_wp2_with fail
          go_ret
          exact ⟨by rw [HE.out]; rfl, hf.drewN _⟩
      · obtain rfl : k = l1.length := by omega
        have HE := Lib.hid (beq_of_take l1 l2 HL.out ht.out)
        go_wp2_with fail
        go_ret
        exact ⟨by rw [HE.out]; rfl, hf⟩
  · have hd : ((l1.length : Int) != (l2.length : Int)) = true := by simp; omega
    have HE := Lib.hid (beq_false_of_len l1 l2 hlen)
    clear hlen
    go_enter Try.func88, Try.ntmps88
    go_wp2_with fail
    go_ret
    exact ⟨by rw [HE.out]; rfl, Dr.refl _⟩
set_option maxRecDepth 100000 in
theorem stays_Same (v1 v2 : Value) (l1 l2 : List Stay) (w : World) (h1 : Stays w v1 l1) (h2 : Stays w v2 l2) :
    Calls Try.prog 52 #[v1, v2] w fun e w' => e = .returned (.bool (l1 == l2)) ∧ Fr w w' := by
  have HE := Lib.hid (stays_Equal v1 v2 l1 l2 w h1 h2)
  go_enter Try.func52, Try.ntmps52
  go_wp2_with (go_at_call 88; go_must (refine (HE.out).mono ?_; rintro _ w1 ⟨rfl, hf⟩))
  go_ret
  exact ⟨rfl, hf.fr⟩
end Go.Proofs.Ytpnpgeilhafepaa
