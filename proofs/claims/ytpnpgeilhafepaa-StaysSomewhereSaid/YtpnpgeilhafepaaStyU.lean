/- Stays (layer 9): contracts of Upto, Minutes. -/
import Derived.Test.YtpnpgeilhafepaaStyD
namespace Go.Proofs.Ytpnpgeilhafepaa
open Go.RowKit Go.Hf

theorem Sty.late_not (m : Int) : (fun x : Stay => !Sty.late m x) = fun x => decide (x.frm < m) := by
  funext x
  unfold Sty.late
  by_cases h : m ≤ x.frm
  · rw [decide_eq_true h, decide_eq_false (by omega)]; rfl
  · rw [decide_eq_false h, decide_eq_true (by omega)]; rfl
set_option maxRecDepth 100000 in
set_option maxHeartbeats 1000000 in
theorem stays_Upto (v : Value) (l : List Stay) (m : Int) (w : World) (h : Stays w v l) (hl : l.length ≤ 1000000) :
    Calls Try.prog 53 #[v, .int .i64 m] w fun e w' => ∃ v', e = .returned v' ∧ St w w' [OwnS 33 3 encS v' (Sty.upto l m)] := by
  have HR := Lib.hid (fun wx (hf : Fr w wx) => stays_Right v l wx (h.frF hf))
  have HC := Lib.hid (fun wx (hf : Fr w wx) => clone_stays v l wx (h.frF hf) (by omega))
  have I := St.refl w
  unfold Sty.upto
  cases hr : Sty.right l with
  | false =>
    have H2 := Lib.hid hr
    clear hr
    rw [if_neg (by simp)]
    go_enter Try.func53, Try.ntmps53
    go_wp2_with (first | (first | ((with_reducible refine gguard ?_); (first | refine w_guardT (by rfl) (fun hb => ?_) (fun hb => ?_) | refine w_guardF (by rfl) (fun hb => ?_) (fun hb => ?_)) <;> first | (cases hb; done) | cases hb | ((try rw [hb]) <;> (try simp at hb) <;> go_prune <;> (try (with_reducible replace hb := eqPair hb)))) | (((with_reducible refine gbox ?_); first | refine w_boxA I (by rfl) ?_ | refine w_box1 I (by (conv => lhs; whnf) <;> rfl) (by rfl) ?_); clear I; intro g w I) | ((with_reducible refine galloc ?_); refine w_alloc I ?_; clear I; intro g w I) | ((with_reducible refine gload ?_); first | refine w_loadB I (by rfl) (by first | (with_reducible repeat (first | exact .here | apply At.there)); done | repeat (first | exact .here | apply At.there)) (by rfl) ?_ | refine w_loadBR I (by rfl) (by first | (with_reducible repeat (first | exact .here | apply At.there)); done | repeat (first | exact .here | apply At.there)) (by rfl) ?_ | refine w_load0 I (by rfl) (by assumption) ?_) | ((with_reducible refine gstore ?_); (first | refine w_storeB I (by rfl) (by (conv => lhs; whnf) <;> rfl) (by first | (with_reducible repeat (first | exact .here | apply Upd.there)); done | repeat (first | exact .here | apply Upd.there)) (by rfl) (by rfl) (by simp only [List.set_cons_zero, List.set_cons_succ] <;> rfl) ?_ | refine w_storeBR I (by rfl) (by rfl) (by first | (with_reducible repeat (first | exact .here | apply Upd.there)); done | repeat (first | exact .here | apply Upd.there)) (by rfl) (by rfl) (by rfl) ?_); clear I; intro w I)) | (go_at_call 15; go_must (refine (HR.out _ I.fr).mono ?_; rintro _ w1 ⟨rfl, hf⟩; rw [H2.out]; replace I := I.still hf; clear hf)))
    go_ret
    exact ⟨_, rfl, I.nil.nilOwn _ _ _⟩
  | true =>
    have H2 := Lib.hid hr
    clear hr
    rw [if_pos rfl, ← Sty.late_not]
    have hfl : (l.filter fun x => !Sty.late m x).length ≤ l.length := List.length_filter_le _ _
    rcases hF : List.eq_nil_or_concat (l.filter fun x => !Sty.late m x) with he | ⟨t, y, he⟩
    · rw [he]
      have HF := Lib.hid he
      clear hF he
      go_enter Try.func53, Try.ntmps53
      go_wp2_with (first | ((with_reducible refine gbox (ty := 3) ?_); (first | refine w_boxA I (by rfl) ?_ | refine w_box1 I (by (conv => lhs; whnf) <;> rfl) (by rfl) ?_); clear I; intro gm w I) | (first | ((with_reducible refine gguard ?_); (first | refine w_guardT (by rfl) (fun hb => ?_) (fun hb => ?_) | refine w_guardF (by rfl) (fun hb => ?_) (fun hb => ?_)) <;> first | (cases hb; done) | cases hb | ((try rw [hb]) <;> (try simp at hb) <;> go_prune <;> (try (with_reducible replace hb := eqPair hb)))) | (((with_reducible refine gbox ?_); first | refine w_boxA I (by rfl) ?_ | refine w_box1 I (by (conv => lhs; whnf) <;> rfl) (by rfl) ?_); clear I; intro g w I) | ((with_reducible refine galloc ?_); refine w_alloc I ?_; clear I; intro g w I) | ((with_reducible refine gload ?_); first | refine w_loadB I (by rfl) (by first | (with_reducible repeat (first | exact .here | apply At.there)); done | repeat (first | exact .here | apply At.there)) (by rfl) ?_ | refine w_loadBR I (by rfl) (by first | (with_reducible repeat (first | exact .here | apply At.there)); done | repeat (first | exact .here | apply At.there)) (by rfl) ?_ | refine w_load0 I (by rfl) (by assumption) ?_) | ((with_reducible refine gstore ?_); (first | refine w_storeB I (by rfl) (by (conv => lhs; whnf) <;> rfl) (by first | (with_reducible repeat (first | exact .here | apply Upd.there)); done | repeat (first | exact .here | apply Upd.there)) (by rfl) (by rfl) (by simp only [List.set_cons_zero, List.set_cons_succ] <;> rfl) ?_ | refine w_storeBR I (by rfl) (by rfl) (by first | (with_reducible repeat (first | exact .here | apply Upd.there)); done | repeat (first | exact .here | apply Upd.there)) (by rfl) (by rfl) (by rfl) ?_); clear I; intro w I)) | (go_at_call 15; go_must (refine (HR.out _ I.fr).mono ?_; rintro _ w1 ⟨rfl, hf⟩; rw [H2.out]; replace I := I.still hf; clear hf)) | (go_at_call 90; go_must (refine (HC.out _ I.fr).mono ?_; rintro _ w1 ⟨vo, rfl, ho, hf, _⟩; replace I := I.mkOwn hf ho; clear ho hf)) | (go_at_call 89; go_must (refine (stays_DeleteFuncAny vo gm _ l m _ _ _ _ _ I .here .here).mono ?_; rintro _ w1 ⟨A, k, c, rfl, hk, hkc, hcm, _, S⟩; rw [HF.out] at S hk; clear I; have I := S; clear S; obtain rfl := hk)))
      go_quiet (fail)
      replace I := I.drewN ‹Nat›
      go_wp2_with (first | ((with_reducible refine gguard ?_); (first | refine w_guardT (by rfl) (fun hb => ?_) (fun hb => ?_) | refine w_guardF (by rfl) (fun hb => ?_) (fun hb => ?_)) <;> first | (cases hb; done) | cases hb | ((try rw [hb]) <;> (try simp at hb) <;> go_prune <;> (try (with_reducible replace hb := eqPair hb)))) | (((with_reducible refine gbox ?_); first | refine w_boxA I (by rfl) ?_ | refine w_box1 I (by (conv => lhs; whnf) <;> rfl) (by rfl) ?_); clear I; intro g w I) | ((with_reducible refine galloc ?_); refine w_alloc I ?_; clear I; intro g w I) | ((with_reducible refine gload ?_); first | refine w_loadB I (by rfl) (by first | (with_reducible repeat (first | exact .here | apply At.there)); done | repeat (first | exact .here | apply At.there)) (by rfl) ?_ | refine w_loadBR I (by rfl) (by first | (with_reducible repeat (first | exact .here | apply At.there)); done | repeat (first | exact .here | apply At.there)) (by rfl) ?_ | refine w_load0 I (by rfl) (by assumption) ?_) | ((with_reducible refine gstore ?_); (first | refine w_storeB I (by rfl) (by (conv => lhs; whnf) <;> rfl) (by first | (with_reducible repeat (first | exact .here | apply Upd.there)); done | repeat (first | exact .here | apply Upd.there)) (by rfl) (by rfl) (by simp only [List.set_cons_zero, List.set_cons_succ] <;> rfl) ?_ | refine w_storeBR I (by rfl) (by rfl) (by first | (with_reducible repeat (first | exact .here | apply Upd.there)); done | repeat (first | exact .here | apply Upd.there)) (by rfl) (by rfl) (by rfl) ?_); clear I; intro w I))
      go_ret
      exact ⟨_, rfl, I.pick .here⟩
    · rw [List.concat_eq_append] at he
      have hL : (t ++ [y]).length = t.length + 1 := by simp
      rw [he, hL] at hfl
      rw [he]
      have HF := Lib.hid he
      have HL := Lib.hid hL
      have HN : Hid (t ++ [y] ≠ []) := Lib.hid (by simp)
      have hcp : Sty.clip m (t ++ [y]) = if y.to_ = -1 ∨ m < y.to_ then t ++ [{ y with to_ := m }] else t ++ [y] := by
        unfold Sty.clip
        simp only [List.getLast?_concat, List.dropLast_concat]
      rw [hcp]
      clear hF he hL hcp
      have q1 := IntWalk.i64_in (t.length : Int) (by omega)
      have q2 : IntKind.i64.wrap ((t.length : Int) + 1 - 1) = (t.length : Int) := by rw [IntWalk.i64_in _ (by omega)]; omega
      have hi0 : (0 : Int) ≤ (t.length : Int) := by omega
      have hi1 : (t.length : Int) < (t.length : Int) + 1 := by omega
      have hi2 : (0 : Int) < (t.length : Int) + 1 := by omega
      by_cases h1 : y.to_ = -1
      · have hb : (y.to_ == -1) = true := by simpa using h1
        rw [if_pos (.inl h1)]
        clear h1
        go_enter Try.func53, Try.ntmps53
        go_wp2_with (first | ((with_reducible refine gbox (ty := 3) ?_); (first | refine w_boxA I (by rfl) ?_ | refine w_box1 I (by (conv => lhs; whnf) <;> rfl) (by rfl) ?_); clear I; intro gm w I) | (first | ((with_reducible refine gguard ?_); (first | refine w_guardT (by rfl) (fun hb => ?_) (fun hb => ?_) | refine w_guardF (by rfl) (fun hb => ?_) (fun hb => ?_)) <;> first | (cases hb; done) | cases hb | ((try rw [hb]) <;> (try simp at hb) <;> go_prune <;> (try (with_reducible replace hb := eqPair hb)))) | (((with_reducible refine gbox ?_); first | refine w_boxA I (by rfl) ?_ | refine w_box1 I (by (conv => lhs; whnf) <;> rfl) (by rfl) ?_); clear I; intro g w I) | ((with_reducible refine galloc ?_); refine w_alloc I ?_; clear I; intro g w I) | ((with_reducible refine gload ?_); first | refine w_loadB I (by rfl) (by first | (with_reducible repeat (first | exact .here | apply At.there)); done | repeat (first | exact .here | apply At.there)) (by rfl) ?_ | refine w_loadBR I (by rfl) (by first | (with_reducible repeat (first | exact .here | apply At.there)); done | repeat (first | exact .here | apply At.there)) (by rfl) ?_ | refine w_load0 I (by rfl) (by assumption) ?_) | ((with_reducible refine gstore ?_); (first | refine w_storeB I (by rfl) (by (conv => lhs; whnf) <;> rfl) (by first | (with_reducible repeat (first | exact .here | apply Upd.there)); done | repeat (first | exact .here | apply Upd.there)) (by rfl) (by rfl) (by simp only [List.set_cons_zero, List.set_cons_succ] <;> rfl) ?_ | refine w_storeBR I (by rfl) (by rfl) (by first | (with_reducible repeat (first | exact .here | apply Upd.there)); done | repeat (first | exact .here | apply Upd.there)) (by rfl) (by rfl) (by rfl) ?_); clear I; intro w I)) | (go_at_call 15; go_must (refine (HR.out _ I.fr).mono ?_; rintro _ w1 ⟨rfl, hf⟩; rw [H2.out]; replace I := I.still hf; clear hf)) | (go_at_call 90; go_must (refine (HC.out _ I.fr).mono ?_; rintro _ w1 ⟨vo, rfl, ho, hf, _⟩; replace I := I.mkOwn hf ho; clear ho hf)) | (go_at_call 89; go_must (refine (stays_DeleteFuncAny vo gm _ l m _ _ _ _ _ I .here .here).mono ?_; rintro _ w1 ⟨A, k, c, rfl, hk, hkc, hcm, hA, S⟩; rw [HF.out] at S hk hA; clear I; have I := S; clear S; rw [HL.out] at hk; subst hk; obtain ⟨g, rfl⟩ := hA HN.out; have hcl := (I.own .here).cell encS_len t.length (by simp) 2 (.int .i64 y.to_) (by simp [encS]))))
        have F := I.facts
        dsimp only [AllF, Asr.facts, Blk, OwnS] at F
        go_quiet (fail)
        replace I := I.drewN ‹Nat›
        clear F
        go_wp2_with (first | ((with_reducible refine gstore ?_); refine w_storeO encS_len I (by rfl) (by rfl) .here (i := t.length) (f := 2) (b := y) (b' := { y with to_ := m }) (l' := t ++ [{ y with to_ := m }]) (by first | rfl | omega) (by simp) (by decide) (by rfl) (by rfl) (by simp) ?_; clear I; intro w I) | (first | ((with_reducible refine gguard ?_); (first | refine w_guardT (by rfl) (fun hb => ?_) (fun hb => ?_) | refine w_guardF (by rfl) (fun hb => ?_) (fun hb => ?_)) <;> first | (cases hb; done) | cases hb | ((try rw [hb]) <;> (try simp at hb) <;> go_prune <;> (try (with_reducible replace hb := eqPair hb)))) | (((with_reducible refine gbox ?_); first | refine w_boxA I (by rfl) ?_ | refine w_box1 I (by (conv => lhs; whnf) <;> rfl) (by rfl) ?_); clear I; intro g w I) | ((with_reducible refine galloc ?_); refine w_alloc I ?_; clear I; intro g w I) | ((with_reducible refine gload ?_); first | refine w_loadB I (by rfl) (by first | (with_reducible repeat (first | exact .here | apply At.there)); done | repeat (first | exact .here | apply At.there)) (by rfl) ?_ | refine w_loadBR I (by rfl) (by first | (with_reducible repeat (first | exact .here | apply At.there)); done | repeat (first | exact .here | apply At.there)) (by rfl) ?_ | refine w_load0 I (by rfl) (by assumption) ?_) | ((with_reducible refine gstore ?_); (first | refine w_storeB I (by rfl) (by (conv => lhs; whnf) <;> rfl) (by first | (with_reducible repeat (first | exact .here | apply Upd.there)); done | repeat (first | exact .here | apply Upd.there)) (by rfl) (by rfl) (by simp only [List.set_cons_zero, List.set_cons_succ] <;> rfl) ?_ | refine w_storeBR I (by rfl) (by rfl) (by first | (with_reducible repeat (first | exact .here | apply Upd.there)); done | repeat (first | exact .here | apply Upd.there)) (by rfl) (by rfl) (by rfl) ?_); clear I; intro w I)))
        go_ret
        exact ⟨_, rfl, I.pick .here⟩
      · have hb : (y.to_ == -1) = false := by simpa using h1
        by_cases h2 : m < y.to_
        · rw [if_pos (.inr h2)]
          have hd : decide (m < y.to_) = true := decide_eq_true h2
          clear h1 h2
          go_enter Try.func53, Try.ntmps53
          go_wp2_with (first | ((with_reducible refine gbox (ty := 3) ?_); (first | refine w_boxA I (by rfl) ?_ | refine w_box1 I (by (conv => lhs; whnf) <;> rfl) (by rfl) ?_); clear I; intro gm w I) | (first | ((with_reducible refine gguard ?_); (first | refine w_guardT (by rfl) (fun hb => ?_) (fun hb => ?_) | refine w_guardF (by rfl) (fun hb => ?_) (fun hb => ?_)) <;> first | (cases hb; done) | cases hb | ((try rw [hb]) <;> (try simp at hb) <;> go_prune <;> (try (with_reducible replace hb := eqPair hb)))) | (((with_reducible refine gbox ?_); first | refine w_boxA I (by rfl) ?_ | refine w_box1 I (by (conv => lhs; whnf) <;> rfl) (by rfl) ?_); clear I; intro g w I) | ((with_reducible refine galloc ?_); refine w_alloc I ?_; clear I; intro g w I) | ((with_reducible refine gload ?_); first | refine w_loadB I (by rfl) (by first | (with_reducible repeat (first | exact .here | apply At.there)); done | repeat (first | exact .here | apply At.there)) (by rfl) ?_ | refine w_loadBR I (by rfl) (by first | (with_reducible repeat (first | exact .here | apply At.there)); done | repeat (first | exact .here | apply At.there)) (by rfl) ?_ | refine w_load0 I (by rfl) (by assumption) ?_) | ((with_reducible refine gstore ?_); (first | refine w_storeB I (by rfl) (by (conv => lhs; whnf) <;> rfl) (by first | (with_reducible repeat (first | exact .here | apply Upd.there)); done | repeat (first | exact .here | apply Upd.there)) (by rfl) (by rfl) (by simp only [List.set_cons_zero, List.set_cons_succ] <;> rfl) ?_ | refine w_storeBR I (by rfl) (by rfl) (by first | (with_reducible repeat (first | exact .here | apply Upd.there)); done | repeat (first | exact .here | apply Upd.there)) (by rfl) (by rfl) (by rfl) ?_); clear I; intro w I)) | (go_at_call 15; go_must (refine (HR.out _ I.fr).mono ?_; rintro _ w1 ⟨rfl, hf⟩; rw [H2.out]; replace I := I.still hf; clear hf)) | (go_at_call 90; go_must (refine (HC.out _ I.fr).mono ?_; rintro _ w1 ⟨vo, rfl, ho, hf, _⟩; replace I := I.mkOwn hf ho; clear ho hf)) | (go_at_call 89; go_must (refine (stays_DeleteFuncAny vo gm _ l m _ _ _ _ _ I .here .here).mono ?_; rintro _ w1 ⟨A, k, c, rfl, hk, hkc, hcm, hA, S⟩; rw [HF.out] at S hk hA; clear I; have I := S; clear S; rw [HL.out] at hk; subst hk; obtain ⟨g, rfl⟩ := hA HN.out; have hcl := (I.own .here).cell encS_len t.length (by simp) 2 (.int .i64 y.to_) (by simp [encS]))))
          have F := I.facts
          dsimp only [AllF, Asr.facts, Blk, OwnS] at F
          go_quiet (fail)
          replace I := I.drewN ‹Nat›
          clear F
          go_wp2_with (first | ((with_reducible refine gstore ?_); refine w_storeO encS_len I (by rfl) (by rfl) .here (i := t.length) (f := 2) (b := y) (b' := { y with to_ := m }) (l' := t ++ [{ y with to_ := m }]) (by first | rfl | omega) (by simp) (by decide) (by rfl) (by rfl) (by simp) ?_; clear I; intro w I) | (first | ((with_reducible refine gguard ?_); (first | refine w_guardT (by rfl) (fun hb => ?_) (fun hb => ?_) | refine w_guardF (by rfl) (fun hb => ?_) (fun hb => ?_)) <;> first | (cases hb; done) | cases hb | ((try rw [hb]) <;> (try simp at hb) <;> go_prune <;> (try (with_reducible replace hb := eqPair hb)))) | (((with_reducible refine gbox ?_); first | refine w_boxA I (by rfl) ?_ | refine w_box1 I (by (conv => lhs; whnf) <;> rfl) (by rfl) ?_); clear I; intro g w I) | ((with_reducible refine galloc ?_); refine w_alloc I ?_; clear I; intro g w I) | ((with_reducible refine gload ?_); first | refine w_loadB I (by rfl) (by first | (with_reducible repeat (first | exact .here | apply At.there)); done | repeat (first | exact .here | apply At.there)) (by rfl) ?_ | refine w_loadBR I (by rfl) (by first | (with_reducible repeat (first | exact .here | apply At.there)); done | repeat (first | exact .here | apply At.there)) (by rfl) ?_ | refine w_load0 I (by rfl) (by assumption) ?_) | ((with_reducible refine gstore ?_); (first | refine w_storeB I (by rfl) (by (conv => lhs; whnf) <;> rfl) (by first | (with_reducible repeat (first | exact .here | apply Upd.there)); done | repeat (first | exact .here | apply Upd.there)) (by rfl) (by rfl) (by simp only [List.set_cons_zero, List.set_cons_succ] <;> rfl) ?_ | refine w_storeBR I (by rfl) (by rfl) (by first | (with_reducible repeat (first | exact .here | apply Upd.there)); done | repeat (first | exact .here | apply Upd.there)) (by rfl) (by rfl) (by rfl) ?_); clear I; intro w I)))
          go_ret
          exact ⟨_, rfl, I.pick .here⟩
        · rw [if_neg (by rintro (h | h) <;> omega)]
          have hd : decide (m < y.to_) = false := decide_eq_false h2
          clear h1 h2
          go_enter Try.func53, Try.ntmps53
          go_wp2_with (first | ((with_reducible refine gbox (ty := 3) ?_); (first | refine w_boxA I (by rfl) ?_ | refine w_box1 I (by (conv => lhs; whnf) <;> rfl) (by rfl) ?_); clear I; intro gm w I) | (first | ((with_reducible refine gguard ?_); (first | refine w_guardT (by rfl) (fun hb => ?_) (fun hb => ?_) | refine w_guardF (by rfl) (fun hb => ?_) (fun hb => ?_)) <;> first | (cases hb; done) | cases hb | ((try rw [hb]) <;> (try simp at hb) <;> go_prune <;> (try (with_reducible replace hb := eqPair hb)))) | (((with_reducible refine gbox ?_); first | refine w_boxA I (by rfl) ?_ | refine w_box1 I (by (conv => lhs; whnf) <;> rfl) (by rfl) ?_); clear I; intro g w I) | ((with_reducible refine galloc ?_); refine w_alloc I ?_; clear I; intro g w I) | ((with_reducible refine gload ?_); first | refine w_loadB I (by rfl) (by first | (with_reducible repeat (first | exact .here | apply At.there)); done | repeat (first | exact .here | apply At.there)) (by rfl) ?_ | refine w_loadBR I (by rfl) (by first | (with_reducible repeat (first | exact .here | apply At.there)); done | repeat (first | exact .here | apply At.there)) (by rfl) ?_ | refine w_load0 I (by rfl) (by assumption) ?_) | ((with_reducible refine gstore ?_); (first | refine w_storeB I (by rfl) (by (conv => lhs; whnf) <;> rfl) (by first | (with_reducible repeat (first | exact .here | apply Upd.there)); done | repeat (first | exact .here | apply Upd.there)) (by rfl) (by rfl) (by simp only [List.set_cons_zero, List.set_cons_succ] <;> rfl) ?_ | refine w_storeBR I (by rfl) (by rfl) (by first | (with_reducible repeat (first | exact .here | apply Upd.there)); done | repeat (first | exact .here | apply Upd.there)) (by rfl) (by rfl) (by rfl) ?_); clear I; intro w I)) | (go_at_call 15; go_must (refine (HR.out _ I.fr).mono ?_; rintro _ w1 ⟨rfl, hf⟩; rw [H2.out]; replace I := I.still hf; clear hf)) | (go_at_call 90; go_must (refine (HC.out _ I.fr).mono ?_; rintro _ w1 ⟨vo, rfl, ho, hf, _⟩; replace I := I.mkOwn hf ho; clear ho hf)) | (go_at_call 89; go_must (refine (stays_DeleteFuncAny vo gm _ l m _ _ _ _ _ I .here .here).mono ?_; rintro _ w1 ⟨A, k, c, rfl, hk, hkc, hcm, hA, S⟩; rw [HF.out] at S hk hA; clear I; have I := S; clear S; rw [HL.out] at hk; subst hk; obtain ⟨g, rfl⟩ := hA HN.out; have hcl := (I.own .here).cell encS_len t.length (by simp) 2 (.int .i64 y.to_) (by simp [encS]))))
          have F := I.facts
          dsimp only [AllF, Asr.facts, Blk, OwnS] at F
          go_quiet (fail)
          replace I := I.drewN ‹Nat›
          clear F
          go_wp2_with (first | ((with_reducible refine gguard ?_); (first | refine w_guardT (by rfl) (fun hb => ?_) (fun hb => ?_) | refine w_guardF (by rfl) (fun hb => ?_) (fun hb => ?_)) <;> first | (cases hb; done) | cases hb | ((try rw [hb]) <;> (try simp at hb) <;> go_prune <;> (try (with_reducible replace hb := eqPair hb)))) | (((with_reducible refine gbox ?_); first | refine w_boxA I (by rfl) ?_ | refine w_box1 I (by (conv => lhs; whnf) <;> rfl) (by rfl) ?_); clear I; intro g w I) | ((with_reducible refine galloc ?_); refine w_alloc I ?_; clear I; intro g w I) | ((with_reducible refine gload ?_); first | refine w_loadB I (by rfl) (by first | (with_reducible repeat (first | exact .here | apply At.there)); done | repeat (first | exact .here | apply At.there)) (by rfl) ?_ | refine w_loadBR I (by rfl) (by first | (with_reducible repeat (first | exact .here | apply At.there)); done | repeat (first | exact .here | apply At.there)) (by rfl) ?_ | refine w_load0 I (by rfl) (by assumption) ?_) | ((with_reducible refine gstore ?_); (first | refine w_storeB I (by rfl) (by (conv => lhs; whnf) <;> rfl) (by first | (with_reducible repeat (first | exact .here | apply Upd.there)); done | repeat (first | exact .here | apply Upd.there)) (by rfl) (by rfl) (by simp only [List.set_cons_zero, List.set_cons_succ] <;> rfl) ?_ | refine w_storeBR I (by rfl) (by rfl) (by first | (with_reducible repeat (first | exact .here | apply Upd.there)); done | repeat (first | exact .here | apply Upd.there)) (by rfl) (by rfl) (by rfl) ?_); clear I; intro w I))
          go_ret
          exact ⟨_, rfl, I.pick .here⟩

def Sty.msum (u : List Stay) (k : Nat) : Int := ((u.take k).map fun x => x.to_ - x.frm).sum
theorem Sty.msum_succ (u : List Stay) (k : Nat) (h : k < u.length) : Sty.msum u (k + 1) = Sty.msum u k + (u[k].to_ - u[k].frm) := by
  unfold Sty.msum
  rw [List.take_succ_eq_append_getElem h, List.map_append, List.sum_append, List.map_cons, List.map_nil, List.sum_cons, List.sum_nil]
  omega
theorem Sty.msum_all (u : List Stay) : Sty.msum u u.length = (u.map fun x => x.to_ - x.frm).sum := by unfold Sty.msum; rw [List.take_length]
set_option maxRecDepth 100000 in
theorem stays_Minutes (v : Value) (l : List Stay) (m : Int) (w : World) (h : Stays w v l) (hl : l.length ≤ 1000000) (hb : ∀ x ∈ Sty.upto l m, 0 ≤ x.frm ∧ x.frm ≤ x.to_ ∧ x.to_ ≤ 1000000) (hs : (Sty.upto l m).length ≤ 1000000) :
    Calls Try.prog 16 #[v, .int .i64 m] w fun e w' => e = .returned (.int .i64 (Sty.minutes l m)) ∧ Fr w w' := by
  have HU := Lib.hid (stays_Upto v l m w h hl)
  unfold Sty.minutes
  generalize Sty.upto l m = u at *
  have I := St.refl w
  go_enter Try.func16, Try.ntmps16
  go_wp2_with (first | (first | ((with_reducible refine gguard ?_); (first | refine w_guardT (by rfl) (fun hb => ?_) (fun hb => ?_) | refine w_guardF (by rfl) (fun hb => ?_) (fun hb => ?_)) <;> first | (cases hb; done) | cases hb | ((try rw [hb]) <;> (try simp at hb) <;> go_prune <;> (try (with_reducible replace hb := eqPair hb)))) | (((with_reducible refine gbox ?_); first | refine w_boxA I (by rfl) ?_ | refine w_box1 I (by (conv => lhs; whnf) <;> rfl) (by rfl) ?_); clear I; intro g w I) | ((with_reducible refine galloc ?_); refine w_alloc I ?_; clear I; intro g w I) | ((with_reducible refine gload ?_); first | refine w_loadB I (by rfl) (by first | (with_reducible repeat (first | exact .here | apply At.there)); done | repeat (first | exact .here | apply At.there)) (by rfl) ?_ | refine w_loadBR I (by rfl) (by first | (with_reducible repeat (first | exact .here | apply At.there)); done | repeat (first | exact .here | apply At.there)) (by rfl) ?_ | refine w_load0 I (by rfl) (by assumption) ?_) | ((with_reducible refine gstore ?_); (first | refine w_storeB I (by rfl) (by (conv => lhs; whnf) <;> rfl) (by first | (with_reducible repeat (first | exact .here | apply Upd.there)); done | repeat (first | exact .here | apply Upd.there)) (by rfl) (by rfl) (by simp only [List.set_cons_zero, List.set_cons_succ] <;> rfl) ?_ | refine w_storeBR I (by rfl) (by rfl) (by first | (with_reducible repeat (first | exact .here | apply Upd.there)); done | repeat (first | exact .here | apply Upd.there)) (by rfl) (by rfl) (by rfl) ?_); clear I; intro w I)) | (go_at_call 53; go_must (refine (HU.out).mono ?_; rintro _ w1 ⟨vu, rfl, S⟩; replace I := I.then1 S; clear S; obtain ⟨A, c, rfl, hc, hcm, hA⟩ := (I.own .here).reads encS_len; have HS := Lib.hid hA; clear hA)))
  have HB := Lib.hid hb
  clear hb
  go_loopw [5, 12] (fun s i wr => ∃ k : Nat, s = .int .i64 (Sty.msum u k) ∧ i = .int .i64 k ∧ k ≤ u.length ∧ 0 ≤ Sty.msum u k ∧ Sty.msum u k ≤ k * 1000000 ∧ St w wr [OwnS 33 3 encS (.slice A u.length c) u]) (fun _ i _ => u.length - (intOf i).toNat)
  case atStart => exact ⟨0, rfl, rfl, by omega, Int.le_refl _, Int.le_refl _, I⟩
  case round =>
    clear I
    obtain ⟨k, rfl, rfl, hk, hs0, hs1, I⟩ := hrel
    rename World => wr
    by_cases hlt : k < u.length
    · obtain ⟨b, o, rfl, hc0, hc1, hc2⟩ := atS (I.slv .here encS_len).sla k hlt
      obtain ⟨b1, b2, b3⟩ := HB.out u[k] (List.getElem_mem hlt)
      have HE := Lib.hid (Sty.msum_succ u k hlt)
      generalize Sty.msum u k = s at *
      generalize u[k] = x at *
      have q1 := IntWalk.i64_in (x.to_ - x.frm) (by omega)
      have q2 := IntWalk.i64_in (s + (x.to_ - x.frm)) (by omega)
      go_wp2_with (first | ((with_reducible refine gguard ?_); (first | refine w_guardT (by rfl) (fun hb => ?_) (fun hb => ?_) | refine w_guardF (by rfl) (fun hb => ?_) (fun hb => ?_)) <;> first | (cases hb; done) | cases hb | ((try rw [hb]) <;> (try simp at hb) <;> go_prune <;> (try (with_reducible replace hb := eqPair hb)))) | (((with_reducible refine gbox ?_); first | refine w_boxA I (by rfl) ?_ | refine w_box1 I (by (conv => lhs; whnf) <;> rfl) (by rfl) ?_); clear I; intro g w I) | ((with_reducible refine galloc ?_); refine w_alloc I ?_; clear I; intro g w I) | ((with_reducible refine gload ?_); first | refine w_loadB I (by rfl) (by first | (with_reducible repeat (first | exact .here | apply At.there)); done | repeat (first | exact .here | apply At.there)) (by rfl) ?_ | refine w_loadBR I (by rfl) (by first | (with_reducible repeat (first | exact .here | apply At.there)); done | repeat (first | exact .here | apply At.there)) (by rfl) ?_ | refine w_load0 I (by rfl) (by assumption) ?_) | ((with_reducible refine gstore ?_); (first | refine w_storeB I (by rfl) (by (conv => lhs; whnf) <;> rfl) (by first | (with_reducible repeat (first | exact .here | apply Upd.there)); done | repeat (first | exact .here | apply Upd.there)) (by rfl) (by rfl) (by simp only [List.set_cons_zero, List.set_cons_succ] <;> rfl) ?_ | refine w_storeBR I (by rfl) (by rfl) (by first | (with_reducible repeat (first | exact .here | apply Upd.there)); done | repeat (first | exact .here | apply Upd.there)) (by rfl) (by rfl) (by rfl) ?_); clear I; intro w I))
      go_roundw
      case rel => exact ⟨k + 1, by rw [HE.out], by go_num, by omega, by rw [HE.out]; omega, by rw [HE.out]; omega, I.drop1⟩
      case measure => simp [intOf]; omega
    · obtain rfl : k = u.length := by omega
      rw [Sty.msum_all] at *
      go_wp2_with fail
      go_ret
      exact ⟨rfl, I.fr⟩
end Go.Proofs.Ytpnpgeilhafepaa
