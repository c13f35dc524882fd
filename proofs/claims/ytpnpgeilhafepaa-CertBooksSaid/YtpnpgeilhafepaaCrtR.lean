
/- Certificates (layer 17): contracts of the reference's. -/
import Derived.Test.YtpnpgeilhafepaaCrtC
namespace Go.Proofs.Ytpnpgeilhafepaa
open Go.RowKit Go.Hf

set_option maxRecDepth 100000 in
theorem ref17_may (n : Int) (w0 : World) : Calls Try.prog 56 #[.int .i64 n] w0 fun e w' => e = .returned (.bool (Crt.may n)) ∧ Fr w0 w' := by
  have I := St.refl w0
  unfold Crt.may
  by_cases h1 : 0 ≤ n
  · by_cases h2 : n ≤ 4611686018427387904
    · rw [decide_eq_true h1, decide_eq_true h2]
      go_enter Try.func56, Try.ntmps56
      go_wp2_with (first | ((with_reducible refine gguard ?_); (first | refine w_guardT (by rfl) (fun hb => ?_) (fun hb => ?_) | refine w_guardF (by rfl) (fun hb => ?_) (fun hb => ?_)) <;> first | (cases hb; done) | cases hb | ((try rw [hb]) <;> (try simp at hb) <;> go_prune <;> (try (with_reducible replace hb := eqPair hb)))) | (((with_reducible refine gbox ?_); first | refine w_boxA I (by rfl) ?_ | refine w_box1 I (by (conv => lhs; whnf) <;> rfl) (by rfl) ?_); clear I; intro g w I) | ((with_reducible refine galloc ?_); refine w_alloc I ?_; clear I; intro g w I) | ((with_reducible refine gload ?_); first | refine w_loadB I (by rfl) (by first | (with_reducible repeat (first | exact .here | apply At.there)); done | repeat (first | exact .here | apply At.there)) (by rfl) ?_ | refine w_loadBR I (by rfl) (by first | (with_reducible repeat (first | exact .here | apply At.there)); done | repeat (first | exact .here | apply At.there)) (by rfl) ?_ | refine w_load0 I (by rfl) (by assumption) ?_) | ((with_reducible refine gstore ?_); (first | refine w_storeB I (by rfl) (by (conv => lhs; whnf) <;> rfl) (by first | (with_reducible repeat (first | exact .here | apply Upd.there)); done | repeat (first | exact .here | apply Upd.there)) (by rfl) (by rfl) (by simp only [List.set_cons_zero, List.set_cons_succ] <;> rfl) ?_ | refine w_storeBR I (by rfl) (by rfl) (by first | (with_reducible repeat (first | exact .here | apply Upd.there)); done | repeat (first | exact .here | apply Upd.there)) (by rfl) (by rfl) (by rfl) ?_); clear I; intro w I))
      all_goals first | (go_ret; exact ⟨rfl, I.fr⟩) | omega
    · rw [decide_eq_true h1, decide_eq_false h2]
      go_enter Try.func56, Try.ntmps56
      go_wp2_with (first | ((with_reducible refine gguard ?_); (first | refine w_guardT (by rfl) (fun hb => ?_) (fun hb => ?_) | refine w_guardF (by rfl) (fun hb => ?_) (fun hb => ?_)) <;> first | (cases hb; done) | cases hb | ((try rw [hb]) <;> (try simp at hb) <;> go_prune <;> (try (with_reducible replace hb := eqPair hb)))) | (((with_reducible refine gbox ?_); first | refine w_boxA I (by rfl) ?_ | refine w_box1 I (by (conv => lhs; whnf) <;> rfl) (by rfl) ?_); clear I; intro g w I) | ((with_reducible refine galloc ?_); refine w_alloc I ?_; clear I; intro g w I) | ((with_reducible refine gload ?_); first | refine w_loadB I (by rfl) (by first | (with_reducible repeat (first | exact .here | apply At.there)); done | repeat (first | exact .here | apply At.there)) (by rfl) ?_ | refine w_loadBR I (by rfl) (by first | (with_reducible repeat (first | exact .here | apply At.there)); done | repeat (first | exact .here | apply At.there)) (by rfl) ?_ | refine w_load0 I (by rfl) (by assumption) ?_) | ((with_reducible refine gstore ?_); (first | refine w_storeB I (by rfl) (by (conv => lhs; whnf) <;> rfl) (by first | (with_reducible repeat (first | exact .here | apply Upd.there)); done | repeat (first | exact .here | apply Upd.there)) (by rfl) (by rfl) (by simp only [List.set_cons_zero, List.set_cons_succ] <;> rfl) ?_ | refine w_storeBR I (by rfl) (by rfl) (by first | (with_reducible repeat (first | exact .here | apply Upd.there)); done | repeat (first | exact .here | apply Upd.there)) (by rfl) (by rfl) (by rfl) ?_); clear I; intro w I))
      all_goals first | (go_ret; exact ⟨rfl, I.fr⟩) | omega
  · rw [decide_eq_false h1]
    go_enter Try.func56, Try.ntmps56
    go_wp2_with (first | ((with_reducible refine gguard ?_); (first | refine w_guardT (by rfl) (fun hb => ?_) (fun hb => ?_) | refine w_guardF (by rfl) (fun hb => ?_) (fun hb => ?_)) <;> first | (cases hb; done) | cases hb | ((try rw [hb]) <;> (try simp at hb) <;> go_prune <;> (try (with_reducible replace hb := eqPair hb)))) | (((with_reducible refine gbox ?_); first | refine w_boxA I (by rfl) ?_ | refine w_box1 I (by (conv => lhs; whnf) <;> rfl) (by rfl) ?_); clear I; intro g w I) | ((with_reducible refine galloc ?_); refine w_alloc I ?_; clear I; intro g w I) | ((with_reducible refine gload ?_); first | refine w_loadB I (by rfl) (by first | (with_reducible repeat (first | exact .here | apply At.there)); done | repeat (first | exact .here | apply At.there)) (by rfl) ?_ | refine w_loadBR I (by rfl) (by first | (with_reducible repeat (first | exact .here | apply At.there)); done | repeat (first | exact .here | apply At.there)) (by rfl) ?_ | refine w_load0 I (by rfl) (by assumption) ?_) | ((with_reducible refine gstore ?_); (first | refine w_storeB I (by rfl) (by (conv => lhs; whnf) <;> rfl) (by first | (with_reducible repeat (first | exact .here | apply Upd.there)); done | repeat (first | exact .here | apply Upd.there)) (by rfl) (by rfl) (by simp only [List.set_cons_zero, List.set_cons_succ] <;> rfl) ?_ | refine w_storeBR I (by rfl) (by rfl) (by first | (with_reducible repeat (first | exact .here | apply Upd.there)); done | repeat (first | exact .here | apply Upd.there)) (by rfl) (by rfl) (by rfl) ?_); clear I; intro w I))
    all_goals first | (go_ret; exact ⟨rfl, I.fr⟩) | omega
set_option maxRecDepth 100000 in
set_option maxHeartbeats 2000000 in
theorem ref17_Right (c : Cert) (w0 : World) : Calls Try.prog 18 #[aggC c] w0 fun e w' => e = .returned (.bool (Crt.right c)) ∧ Fr w0 w' := by
  have I := St.refl w0
  cases h0 : Crt.may c.id with
  | false =>
    have HE : Hid (Crt.right c = false) := Lib.hid (Crt.not_right c 0 (show (0 : Nat) < 8 by decide) h0)
    go_enter Try.func18, Try.ntmps18
    go_wp2_with (first | (first | ((with_reducible refine gguard ?_); (first | refine w_guardT (by rfl) (fun hb => ?_) (fun hb => ?_) | refine w_guardF (by rfl) (fun hb => ?_) (fun hb => ?_)) <;> first | (cases hb; done) | cases hb | ((try rw [hb]) <;> (try simp at hb) <;> go_prune <;> (try (with_reducible replace hb := eqPair hb)))) | (((with_reducible refine gbox ?_); first | refine w_boxA I (by rfl) ?_ | refine w_box1 I (by (conv => lhs; whnf) <;> rfl) (by rfl) ?_); clear I; intro g w I) | ((with_reducible refine galloc ?_); refine w_alloc I ?_; clear I; intro g w I) | ((with_reducible refine gload ?_); first | refine w_loadB I (by rfl) (by first | (with_reducible repeat (first | exact .here | apply At.there)); done | repeat (first | exact .here | apply At.there)) (by rfl) ?_ | refine w_loadBR I (by rfl) (by first | (with_reducible repeat (first | exact .here | apply At.there)); done | repeat (first | exact .here | apply At.there)) (by rfl) ?_ | refine w_load0 I (by rfl) (by assumption) ?_) | ((with_reducible refine gstore ?_); (first | refine w_storeB I (by rfl) (by (conv => lhs; whnf) <;> rfl) (by first | (with_reducible repeat (first | exact .here | apply Upd.there)); done | repeat (first | exact .here | apply Upd.there)) (by rfl) (by rfl) (by simp only [List.set_cons_zero, List.set_cons_succ] <;> rfl) ?_ | refine w_storeBR I (by rfl) (by rfl) (by first | (with_reducible repeat (first | exact .here | apply Upd.there)); done | repeat (first | exact .here | apply Upd.there)) (by rfl) (by rfl) (by rfl) ?_); clear I; intro w I)) | (go_at_call 56; go_must (refine (ref17_may _ _).mono ?_; rintro _ w1 ⟨rfl, hf⟩; replace I := I.still hf; clear hf)))
    go_ret
    exact ⟨by rw [HE.out]; rfl, I.fr⟩
  | true =>
  cases h1 : Crt.may c.order with
  | false =>
    have HE : Hid (Crt.right c = false) := Lib.hid (Crt.not_right c 1 (show (1 : Nat) < 8 by decide) h1)
    go_enter Try.func18, Try.ntmps18
    go_wp2_with (first | (first | ((with_reducible refine gguard ?_); (first | refine w_guardT (by rfl) (fun hb => ?_) (fun hb => ?_) | refine w_guardF (by rfl) (fun hb => ?_) (fun hb => ?_)) <;> first | (cases hb; done) | cases hb | ((try rw [hb]) <;> (try simp at hb) <;> go_prune <;> (try (with_reducible replace hb := eqPair hb)))) | (((with_reducible refine gbox ?_); first | refine w_boxA I (by rfl) ?_ | refine w_box1 I (by (conv => lhs; whnf) <;> rfl) (by rfl) ?_); clear I; intro g w I) | ((with_reducible refine galloc ?_); refine w_alloc I ?_; clear I; intro g w I) | ((with_reducible refine gload ?_); first | refine w_loadB I (by rfl) (by first | (with_reducible repeat (first | exact .here | apply At.there)); done | repeat (first | exact .here | apply At.there)) (by rfl) ?_ | refine w_loadBR I (by rfl) (by first | (with_reducible repeat (first | exact .here | apply At.there)); done | repeat (first | exact .here | apply At.there)) (by rfl) ?_ | refine w_load0 I (by rfl) (by assumption) ?_) | ((with_reducible refine gstore ?_); (first | refine w_storeB I (by rfl) (by (conv => lhs; whnf) <;> rfl) (by first | (with_reducible repeat (first | exact .here | apply Upd.there)); done | repeat (first | exact .here | apply Upd.there)) (by rfl) (by rfl) (by simp only [List.set_cons_zero, List.set_cons_succ] <;> rfl) ?_ | refine w_storeBR I (by rfl) (by rfl) (by first | (with_reducible repeat (first | exact .here | apply Upd.there)); done | repeat (first | exact .here | apply Upd.there)) (by rfl) (by rfl) (by rfl) ?_); clear I; intro w I)) | (go_at_call 56; go_must (refine (ref17_may _ _).mono ?_; rintro _ w1 ⟨rfl, hf⟩; replace I := I.still hf; clear hf)))
    go_ret
    exact ⟨by rw [HE.out]; rfl, I.fr⟩
  | true =>
  cases h2 : Crt.may c.lot with
  | false =>
    have HE : Hid (Crt.right c = false) := Lib.hid (Crt.not_right c 2 (show (2 : Nat) < 8 by decide) h2)
    go_enter Try.func18, Try.ntmps18
    go_wp2_with (first | (first | ((with_reducible refine gguard ?_); (first | refine w_guardT (by rfl) (fun hb => ?_) (fun hb => ?_) | refine w_guardF (by rfl) (fun hb => ?_) (fun hb => ?_)) <;> first | (cases hb; done) | cases hb | ((try rw [hb]) <;> (try simp at hb) <;> go_prune <;> (try (with_reducible replace hb := eqPair hb)))) | (((with_reducible refine gbox ?_); first | refine w_boxA I (by rfl) ?_ | refine w_box1 I (by (conv => lhs; whnf) <;> rfl) (by rfl) ?_); clear I; intro g w I) | ((with_reducible refine galloc ?_); refine w_alloc I ?_; clear I; intro g w I) | ((with_reducible refine gload ?_); first | refine w_loadB I (by rfl) (by first | (with_reducible repeat (first | exact .here | apply At.there)); done | repeat (first | exact .here | apply At.there)) (by rfl) ?_ | refine w_loadBR I (by rfl) (by first | (with_reducible repeat (first | exact .here | apply At.there)); done | repeat (first | exact .here | apply At.there)) (by rfl) ?_ | refine w_load0 I (by rfl) (by assumption) ?_) | ((with_reducible refine gstore ?_); (first | refine w_storeB I (by rfl) (by (conv => lhs; whnf) <;> rfl) (by first | (with_reducible repeat (first | exact .here | apply Upd.there)); done | repeat (first | exact .here | apply Upd.there)) (by rfl) (by rfl) (by simp only [List.set_cons_zero, List.set_cons_succ] <;> rfl) ?_ | refine w_storeBR I (by rfl) (by rfl) (by first | (with_reducible repeat (first | exact .here | apply Upd.there)); done | repeat (first | exact .here | apply Upd.there)) (by rfl) (by rfl) (by rfl) ?_); clear I; intro w I)) | (go_at_call 56; go_must (refine (ref17_may _ _).mono ?_; rintro _ w1 ⟨rfl, hf⟩; replace I := I.still hf; clear hf)))
    go_ret
    exact ⟨by rw [HE.out]; rfl, I.fr⟩
  | true =>
  cases h3 : Crt.may c.product with
  | false =>
    have HE : Hid (Crt.right c = false) := Lib.hid (Crt.not_right c 3 (show (3 : Nat) < 8 by decide) h3)
    go_enter Try.func18, Try.ntmps18
    go_wp2_with (first | (first | ((with_reducible refine gguard ?_); (first | refine w_guardT (by rfl) (fun hb => ?_) (fun hb => ?_) | refine w_guardF (by rfl) (fun hb => ?_) (fun hb => ?_)) <;> first | (cases hb; done) | cases hb | ((try rw [hb]) <;> (try simp at hb) <;> go_prune <;> (try (with_reducible replace hb := eqPair hb)))) | (((with_reducible refine gbox ?_); first | refine w_boxA I (by rfl) ?_ | refine w_box1 I (by (conv => lhs; whnf) <;> rfl) (by rfl) ?_); clear I; intro g w I) | ((with_reducible refine galloc ?_); refine w_alloc I ?_; clear I; intro g w I) | ((with_reducible refine gload ?_); first | refine w_loadB I (by rfl) (by first | (with_reducible repeat (first | exact .here | apply At.there)); done | repeat (first | exact .here | apply At.there)) (by rfl) ?_ | refine w_loadBR I (by rfl) (by first | (with_reducible repeat (first | exact .here | apply At.there)); done | repeat (first | exact .here | apply At.there)) (by rfl) ?_ | refine w_load0 I (by rfl) (by assumption) ?_) | ((with_reducible refine gstore ?_); (first | refine w_storeB I (by rfl) (by (conv => lhs; whnf) <;> rfl) (by first | (with_reducible repeat (first | exact .here | apply Upd.there)); done | repeat (first | exact .here | apply Upd.there)) (by rfl) (by rfl) (by simp only [List.set_cons_zero, List.set_cons_succ] <;> rfl) ?_ | refine w_storeBR I (by rfl) (by rfl) (by first | (with_reducible repeat (first | exact .here | apply Upd.there)); done | repeat (first | exact .here | apply Upd.there)) (by rfl) (by rfl) (by rfl) ?_); clear I; intro w I)) | (go_at_call 56; go_must (refine (ref17_may _ _).mono ?_; rintro _ w1 ⟨rfl, hf⟩; replace I := I.still hf; clear hf)))
    go_ret
    exact ⟨by rw [HE.out]; rfl, I.fr⟩
  | true =>
  cases h4 : Crt.may c.units with
  | false =>
    have HE : Hid (Crt.right c = false) := Lib.hid (Crt.not_right c 4 (show (4 : Nat) < 8 by decide) h4)
    go_enter Try.func18, Try.ntmps18
    go_wp2_with (first | (first | ((with_reducible refine gguard ?_); (first | refine w_guardT (by rfl) (fun hb => ?_) (fun hb => ?_) | refine w_guardF (by rfl) (fun hb => ?_) (fun hb => ?_)) <;> first | (cases hb; done) | cases hb | ((try rw [hb]) <;> (try simp at hb) <;> go_prune <;> (try (with_reducible replace hb := eqPair hb)))) | (((with_reducible refine gbox ?_); first | refine w_boxA I (by rfl) ?_ | refine w_box1 I (by (conv => lhs; whnf) <;> rfl) (by rfl) ?_); clear I; intro g w I) | ((with_reducible refine galloc ?_); refine w_alloc I ?_; clear I; intro g w I) | ((with_reducible refine gload ?_); first | refine w_loadB I (by rfl) (by first | (with_reducible repeat (first | exact .here | apply At.there)); done | repeat (first | exact .here | apply At.there)) (by rfl) ?_ | refine w_loadBR I (by rfl) (by first | (with_reducible repeat (first | exact .here | apply At.there)); done | repeat (first | exact .here | apply At.there)) (by rfl) ?_ | refine w_load0 I (by rfl) (by assumption) ?_) | ((with_reducible refine gstore ?_); (first | refine w_storeB I (by rfl) (by (conv => lhs; whnf) <;> rfl) (by first | (with_reducible repeat (first | exact .here | apply Upd.there)); done | repeat (first | exact .here | apply Upd.there)) (by rfl) (by rfl) (by simp only [List.set_cons_zero, List.set_cons_succ] <;> rfl) ?_ | refine w_storeBR I (by rfl) (by rfl) (by first | (with_reducible repeat (first | exact .here | apply Upd.there)); done | repeat (first | exact .here | apply Upd.there)) (by rfl) (by rfl) (by rfl) ?_); clear I; intro w I)) | (go_at_call 56; go_must (refine (ref17_may _ _).mono ?_; rintro _ w1 ⟨rfl, hf⟩; replace I := I.still hf; clear hf)))
    go_ret
    exact ⟨by rw [HE.out]; rfl, I.fr⟩
  | true =>
  cases h5 : Crt.may c.minute with
  | false =>
    have HE : Hid (Crt.right c = false) := Lib.hid (Crt.not_right c 5 (show (5 : Nat) < 8 by decide) h5)
    go_enter Try.func18, Try.ntmps18
    go_wp2_with (first | (first | ((with_reducible refine gguard ?_); (first | refine w_guardT (by rfl) (fun hb => ?_) (fun hb => ?_) | refine w_guardF (by rfl) (fun hb => ?_) (fun hb => ?_)) <;> first | (cases hb; done) | cases hb | ((try rw [hb]) <;> (try simp at hb) <;> go_prune <;> (try (with_reducible replace hb := eqPair hb)))) | (((with_reducible refine gbox ?_); first | refine w_boxA I (by rfl) ?_ | refine w_box1 I (by (conv => lhs; whnf) <;> rfl) (by rfl) ?_); clear I; intro g w I) | ((with_reducible refine galloc ?_); refine w_alloc I ?_; clear I; intro g w I) | ((with_reducible refine gload ?_); first | refine w_loadB I (by rfl) (by first | (with_reducible repeat (first | exact .here | apply At.there)); done | repeat (first | exact .here | apply At.there)) (by rfl) ?_ | refine w_loadBR I (by rfl) (by first | (with_reducible repeat (first | exact .here | apply At.there)); done | repeat (first | exact .here | apply At.there)) (by rfl) ?_ | refine w_load0 I (by rfl) (by assumption) ?_) | ((with_reducible refine gstore ?_); (first | refine w_storeB I (by rfl) (by (conv => lhs; whnf) <;> rfl) (by first | (with_reducible repeat (first | exact .here | apply Upd.there)); done | repeat (first | exact .here | apply Upd.there)) (by rfl) (by rfl) (by simp only [List.set_cons_zero, List.set_cons_succ] <;> rfl) ?_ | refine w_storeBR I (by rfl) (by rfl) (by first | (with_reducible repeat (first | exact .here | apply Upd.there)); done | repeat (first | exact .here | apply Upd.there)) (by rfl) (by rfl) (by rfl) ?_); clear I; intro w I)) | (go_at_call 56; go_must (refine (ref17_may _ _).mono ?_; rintro _ w1 ⟨rfl, hf⟩; replace I := I.still hf; clear hf)))
    go_ret
    exact ⟨by rw [HE.out]; rfl, I.fr⟩
  | true =>
  cases h6 : Crt.may c.exposure with
  | false =>
    have HE : Hid (Crt.right c = false) := Lib.hid (Crt.not_right c 6 (show (6 : Nat) < 8 by decide) h6)
    go_enter Try.func18, Try.ntmps18
    go_wp2_with (first | (first | ((with_reducible refine gguard ?_); (first | refine w_guardT (by rfl) (fun hb => ?_) (fun hb => ?_) | refine w_guardF (by rfl) (fun hb => ?_) (fun hb => ?_)) <;> first | (cases hb; done) | cases hb | ((try rw [hb]) <;> (try simp at hb) <;> go_prune <;> (try (with_reducible replace hb := eqPair hb)))) | (((with_reducible refine gbox ?_); first | refine w_boxA I (by rfl) ?_ | refine w_box1 I (by (conv => lhs; whnf) <;> rfl) (by rfl) ?_); clear I; intro g w I) | ((with_reducible refine galloc ?_); refine w_alloc I ?_; clear I; intro g w I) | ((with_reducible refine gload ?_); first | refine w_loadB I (by rfl) (by first | (with_reducible repeat (first | exact .here | apply At.there)); done | repeat (first | exact .here | apply At.there)) (by rfl) ?_ | refine w_loadBR I (by rfl) (by first | (with_reducible repeat (first | exact .here | apply At.there)); done | repeat (first | exact .here | apply At.there)) (by rfl) ?_ | refine w_load0 I (by rfl) (by assumption) ?_) | ((with_reducible refine gstore ?_); (first | refine w_storeB I (by rfl) (by (conv => lhs; whnf) <;> rfl) (by first | (with_reducible repeat (first | exact .here | apply Upd.there)); done | repeat (first | exact .here | apply Upd.there)) (by rfl) (by rfl) (by simp only [List.set_cons_zero, List.set_cons_succ] <;> rfl) ?_ | refine w_storeBR I (by rfl) (by rfl) (by first | (with_reducible repeat (first | exact .here | apply Upd.there)); done | repeat (first | exact .here | apply Upd.there)) (by rfl) (by rfl) (by rfl) ?_); clear I; intro w I)) | (go_at_call 56; go_must (refine (ref17_may _ _).mono ?_; rintro _ w1 ⟨rfl, hf⟩; replace I := I.still hf; clear hf)))
    go_ret
    exact ⟨by rw [HE.out]; rfl, I.fr⟩
  | true =>
  cases h7 : Crt.may c.allowance with
  | false =>
    have HE : Hid (Crt.right c = false) := Lib.hid (Crt.not_right c 7 (show (7 : Nat) < 8 by decide) h7)
    go_enter Try.func18, Try.ntmps18
    go_wp2_with (first | (first | ((with_reducible refine gguard ?_); (first | refine w_guardT (by rfl) (fun hb => ?_) (fun hb => ?_) | refine w_guardF (by rfl) (fun hb => ?_) (fun hb => ?_)) <;> first | (cases hb; done) | cases hb | ((try rw [hb]) <;> (try simp at hb) <;> go_prune <;> (try (with_reducible replace hb := eqPair hb)))) | (((with_reducible refine gbox ?_); first | refine w_boxA I (by rfl) ?_ | refine w_box1 I (by (conv => lhs; whnf) <;> rfl) (by rfl) ?_); clear I; intro g w I) | ((with_reducible refine galloc ?_); refine w_alloc I ?_; clear I; intro g w I) | ((with_reducible refine gload ?_); first | refine w_loadB I (by rfl) (by first | (with_reducible repeat (first | exact .here | apply At.there)); done | repeat (first | exact .here | apply At.there)) (by rfl) ?_ | refine w_loadBR I (by rfl) (by first | (with_reducible repeat (first | exact .here | apply At.there)); done | repeat (first | exact .here | apply At.there)) (by rfl) ?_ | refine w_load0 I (by rfl) (by assumption) ?_) | ((with_reducible refine gstore ?_); (first | refine w_storeB I (by rfl) (by (conv => lhs; whnf) <;> rfl) (by first | (with_reducible repeat (first | exact .here | apply Upd.there)); done | repeat (first | exact .here | apply Upd.there)) (by rfl) (by rfl) (by simp only [List.set_cons_zero, List.set_cons_succ] <;> rfl) ?_ | refine w_storeBR I (by rfl) (by rfl) (by first | (with_reducible repeat (first | exact .here | apply Upd.there)); done | repeat (first | exact .here | apply Upd.there)) (by rfl) (by rfl) (by rfl) ?_); clear I; intro w I)) | (go_at_call 56; go_must (refine (ref17_may _ _).mono ?_; rintro _ w1 ⟨rfl, hf⟩; replace I := I.still hf; clear hf)))
    go_ret
    exact ⟨by rw [HE.out]; rfl, I.fr⟩
  | true =>
  have HE : Hid (Crt.right c = true) := Lib.hid (by unfold Crt.right Crt.nums; simp only [List.all_cons, List.all_nil, h0, h1, h2, h3, h4, h5, h6, h7]; rfl)
  go_enter Try.func18, Try.ntmps18
  go_wp2_with (first | (first | ((with_reducible refine gguard ?_); (first | refine w_guardT (by rfl) (fun hb => ?_) (fun hb => ?_) | refine w_guardF (by rfl) (fun hb => ?_) (fun hb => ?_)) <;> first | (cases hb; done) | cases hb | ((try rw [hb]) <;> (try simp at hb) <;> go_prune <;> (try (with_reducible replace hb := eqPair hb)))) | (((with_reducible refine gbox ?_); first | refine w_boxA I (by rfl) ?_ | refine w_box1 I (by (conv => lhs; whnf) <;> rfl) (by rfl) ?_); clear I; intro g w I) | ((with_reducible refine galloc ?_); refine w_alloc I ?_; clear I; intro g w I) | ((with_reducible refine gload ?_); first | refine w_loadB I (by rfl) (by first | (with_reducible repeat (first | exact .here | apply At.there)); done | repeat (first | exact .here | apply At.there)) (by rfl) ?_ | refine w_loadBR I (by rfl) (by first | (with_reducible repeat (first | exact .here | apply At.there)); done | repeat (first | exact .here | apply At.there)) (by rfl) ?_ | refine w_load0 I (by rfl) (by assumption) ?_) | ((with_reducible refine gstore ?_); (first | refine w_storeB I (by rfl) (by (conv => lhs; whnf) <;> rfl) (by first | (with_reducible repeat (first | exact .here | apply Upd.there)); done | repeat (first | exact .here | apply Upd.there)) (by rfl) (by rfl) (by simp only [List.set_cons_zero, List.set_cons_succ] <;> rfl) ?_ | refine w_storeBR I (by rfl) (by rfl) (by first | (with_reducible repeat (first | exact .here | apply Upd.there)); done | repeat (first | exact .here | apply Upd.there)) (by rfl) (by rfl) (by rfl) ?_); clear I; intro w I)) | (go_at_call 56; go_must (refine (ref17_may _ _).mono ?_; rintro _ w1 ⟨rfl, hf⟩; replace I := I.still hf; clear hf)))
  go_ret
  exact ⟨by rw [HE.out]; rfl, I.fr⟩
theorem RWr.start {g : Nat} {w0 w : World} {L R : List Asr} (I : St w0 w L) (h : At (Blk g [.slice none 0 0, .int .i64 0] 110) L R) : St w0 w (RWr g ([], 0) :: R) :=
  RWr.mk (I.nilOwn 5 1 encB) .here h
set_option maxRecDepth 100000 in
set_option maxHeartbeats 2000000 in
theorem ref17_Encode (c : Cert) (w0 : World) : Calls Try.prog 20 #[aggC c] w0 fun e w' => ∃ v', e = .returned (.tuple #[v', .int .i64 (Crt.encode c).2]) ∧ St w0 w' [OwnS 5 1 encB v' (Crt.encode c).1] := by
  have I := St.refl w0
  cases hr : Crt.right c with
  | false =>
    have HR := Lib.hid hr
    have HE : Hid (Crt.encode c = ([], 1)) := Lib.hid (by unfold Crt.encode; rw [hr]; rfl)
    rw [HE.out]
    clear hr
    go_enter Try.func20, Try.ntmps20
    try dsimp only [List.append]
    go_wp2_with (first | (first | ((with_reducible refine gguard ?_); (first | refine w_guardT (by rfl) (fun hb => ?_) (fun hb => ?_) | refine w_guardF (by rfl) (fun hb => ?_) (fun hb => ?_)) <;> first | (cases hb; done) | cases hb | ((try rw [hb]) <;> (try simp at hb) <;> go_prune <;> (try (with_reducible replace hb := eqPair hb)))) | (((with_reducible refine gbox ?_); first | refine w_boxA I (by rfl) ?_ | refine w_box1 I (by (conv => lhs; whnf) <;> rfl) (by rfl) ?_); clear I; intro g w I) | ((with_reducible refine galloc ?_); refine w_alloc I ?_; clear I; intro g w I) | ((with_reducible refine gload ?_); first | refine w_loadB I (by rfl) (by first | (with_reducible repeat (first | exact .here | apply At.there)); done | repeat (first | exact .here | apply At.there)) (by rfl) ?_ | refine w_loadBR I (by rfl) (by first | (with_reducible repeat (first | exact .here | apply At.there)); done | repeat (first | exact .here | apply At.there)) (by rfl) ?_ | refine w_load0 I (by rfl) (by assumption) ?_) | ((with_reducible refine gstore ?_); (first | refine w_storeB I (by rfl) (by (conv => lhs; whnf) <;> rfl) (by first | (with_reducible repeat (first | exact .here | apply Upd.there)); done | repeat (first | exact .here | apply Upd.there)) (by rfl) (by rfl) (by simp only [List.set_cons_zero, List.set_cons_succ] <;> rfl) ?_ | refine w_storeBR I (by rfl) (by rfl) (by first | (with_reducible repeat (first | exact .here | apply Upd.there)); done | repeat (first | exact .here | apply Upd.there)) (by rfl) (by rfl) (by rfl) ?_); clear I; intro w I)) | (go_at_call 18; go_must (refine (ref17_Right c _).mono ?_; rintro _ w1 ⟨rfl, hf⟩; rw [HR.out]; replace I := I.still hf; clear hf)))
    exact ret_2 rfl (by first | (exact ResV.t _ (by rfl)) | (exact ResV.row I (by rfl) (by first | (with_reducible repeat (first | exact .here | apply At.there)); done | repeat (first | exact .here | apply At.there)) (by rfl)) | (exact ResV.one I (by rfl) (by first | (with_reducible repeat (first | exact .here | apply At.there)); done | repeat (first | exact .here | apply At.there)))) (by first | (exact ResV.t _ (by rfl)) | (exact ResV.row I (by rfl) (by first | (with_reducible repeat (first | exact .here | apply At.there)); done | repeat (first | exact .here | apply At.there)) (by rfl)) | (exact ResV.one I (by rfl) (by first | (with_reducible repeat (first | exact .here | apply At.there)); done | repeat (first | exact .here | apply At.there)))) rfl ⟨_, rfl, I.nil.nilOwn _ _ _⟩
  | true =>
    have HR := Lib.hid hr
    have HE : Hid (Crt.encode c = (Crc.sealed (Crt.raw c), 0)) := Lib.hid (by unfold Crt.encode; rw [hr]; rfl)
    rw [HE.out]
    clear hr
    have HL := Lib.hid (fun k => Nat.le_trans (Crt.rawk_len c k) (show 64 ≤ 1000000 by decide))
    have HL2 := Lib.hid (Crt.raw_len c)
    have HA := Lib.hid (Crt.rawk_all c)
    have HP0 := Lib.hid (Crt.putInt_k c 0 c.id (show (0 : Nat) < 8 by decide) rfl)
    have HP1 := Lib.hid (Crt.putInt_k c 1 c.order (show (1 : Nat) < 8 by decide) rfl)
    have HP2 := Lib.hid (Crt.putInt_k c 2 c.lot (show (2 : Nat) < 8 by decide) rfl)
    have HP3 := Lib.hid (Crt.putInt_k c 3 c.product (show (3 : Nat) < 8 by decide) rfl)
    have HP4 := Lib.hid (Crt.putInt_k c 4 c.units (show (4 : Nat) < 8 by decide) rfl)
    have HP5 := Lib.hid (Crt.putInt_k c 5 c.minute (show (5 : Nat) < 8 by decide) rfl)
    have HP6 := Lib.hid (Crt.putInt_k c 6 c.exposure (show (6 : Nat) < 8 by decide) rfl)
    have HP7 := Lib.hid (Crt.putInt_k c 7 c.allowance (show (7 : Nat) < 8 by decide) rfl)
    go_enter Try.func20, Try.ntmps20
    try dsimp only [List.append]
    go_wp2_with (first | ((with_reducible refine gbox (ty := 110) ?_); refine w_boxA I (by rfl) ?_; clear I; intro gw w I; replace I : St w0 w (RWr gw (Crt.rawk c 0, 0) :: _) := RWr.start I .here) | (first | ((with_reducible refine gguard ?_); (first | refine w_guardT (by rfl) (fun hb => ?_) (fun hb => ?_) | refine w_guardF (by rfl) (fun hb => ?_) (fun hb => ?_)) <;> first | (cases hb; done) | cases hb | ((try rw [hb]) <;> (try simp at hb) <;> go_prune <;> (try (with_reducible replace hb := eqPair hb)))) | (((with_reducible refine gbox ?_); first | refine w_boxA I (by rfl) ?_ | refine w_box1 I (by (conv => lhs; whnf) <;> rfl) (by rfl) ?_); clear I; intro g w I) | ((with_reducible refine galloc ?_); refine w_alloc I ?_; clear I; intro g w I) | ((with_reducible refine gload ?_); first | refine w_loadB I (by rfl) (by first | (with_reducible repeat (first | exact .here | apply At.there)); done | repeat (first | exact .here | apply At.there)) (by rfl) ?_ | refine w_loadBR I (by rfl) (by first | (with_reducible repeat (first | exact .here | apply At.there)); done | repeat (first | exact .here | apply At.there)) (by rfl) ?_ | refine w_load0 I (by rfl) (by assumption) ?_) | ((with_reducible refine gstore ?_); (first | refine w_storeB I (by rfl) (by (conv => lhs; whnf) <;> rfl) (by first | (with_reducible repeat (first | exact .here | apply Upd.there)); done | repeat (first | exact .here | apply Upd.there)) (by rfl) (by rfl) (by simp only [List.set_cons_zero, List.set_cons_succ] <;> rfl) ?_ | refine w_storeBR I (by rfl) (by rfl) (by first | (with_reducible repeat (first | exact .here | apply Upd.there)); done | repeat (first | exact .here | apply Upd.there)) (by rfl) (by rfl) (by rfl) ?_); clear I; intro w I)) | (go_at_call 18; go_must (refine (ref17_Right c _).mono ?_; rintro _ w1 ⟨rfl, hf⟩; rw [HR.out]; replace I := I.still hf; clear hf)) | (go_at_call 62; ((with_reducible refine (ref04_WInt gw (Crt.rawk c 0, 0) c.id (HL.out 0) _ _ _ _ I (by first | (with_reducible repeat (first | exact .here | apply At.there)); done | repeat (first | exact .here | apply At.there))).mono ?_); rintro _ w1 ⟨rfl, S⟩; clear I; have I := S; clear S; rw [HP0.out] at I)) | (go_at_call 62; ((with_reducible refine (ref04_WInt gw (Crt.rawk c 1, 0) c.order (HL.out 1) _ _ _ _ I (by first | (with_reducible repeat (first | exact .here | apply At.there)); done | repeat (first | exact .here | apply At.there))).mono ?_); rintro _ w1 ⟨rfl, S⟩; clear I; have I := S; clear S; rw [HP1.out] at I)) | (go_at_call 62; ((with_reducible refine (ref04_WInt gw (Crt.rawk c 2, 0) c.lot (HL.out 2) _ _ _ _ I (by first | (with_reducible repeat (first | exact .here | apply At.there)); done | repeat (first | exact .here | apply At.there))).mono ?_); rintro _ w1 ⟨rfl, S⟩; clear I; have I := S; clear S; rw [HP2.out] at I)) | (go_at_call 62; ((with_reducible refine (ref04_WInt gw (Crt.rawk c 3, 0) c.product (HL.out 3) _ _ _ _ I (by first | (with_reducible repeat (first | exact .here | apply At.there)); done | repeat (first | exact .here | apply At.there))).mono ?_); rintro _ w1 ⟨rfl, S⟩; clear I; have I := S; clear S; rw [HP3.out] at I)) | (go_at_call 62; ((with_reducible refine (ref04_WInt gw (Crt.rawk c 4, 0) c.units (HL.out 4) _ _ _ _ I (by first | (with_reducible repeat (first | exact .here | apply At.there)); done | repeat (first | exact .here | apply At.there))).mono ?_); rintro _ w1 ⟨rfl, S⟩; clear I; have I := S; clear S; rw [HP4.out] at I)) | (go_at_call 62; ((with_reducible refine (ref04_WInt gw (Crt.rawk c 5, 0) c.minute (HL.out 5) _ _ _ _ I (by first | (with_reducible repeat (first | exact .here | apply At.there)); done | repeat (first | exact .here | apply At.there))).mono ?_); rintro _ w1 ⟨rfl, S⟩; clear I; have I := S; clear S; rw [HP5.out] at I)) | (go_at_call 62; ((with_reducible refine (ref04_WInt gw (Crt.rawk c 6, 0) c.exposure (HL.out 6) _ _ _ _ I (by first | (with_reducible repeat (first | exact .here | apply At.there)); done | repeat (first | exact .here | apply At.there))).mono ?_); rintro _ w1 ⟨rfl, S⟩; clear I; have I := S; clear S; rw [HP6.out] at I)) | (go_at_call 62; ((with_reducible refine (ref04_WInt gw (Crt.rawk c 7, 0) c.allowance (HL.out 7) _ _ _ _ I (by first | (with_reducible repeat (first | exact .here | apply At.there)); done | repeat (first | exact .here | apply At.there))).mono ?_); rintro _ w1 ⟨rfl, S⟩; clear I; have I := S; clear S; rw [HP7.out] at I; rw [show (7 + 1 : Nat) = 8 from rfl, HA.out] at I; obtain ⟨vb, I2⟩ := RWr.open I .here; clear I; have I := I2; clear I2; dsimp only at I)) | (go_at_call 63; go_must (refine (ref03_Seal _ (Crt.raw c) _ (by rw [HL2.out]; decide) (I.slv (by first | (with_reducible repeat (first | exact .here | apply At.there)); done | repeat (first | exact .here | apply At.there)) encB_len)).mono ?_; rintro _ w1 ⟨v2, rfl, ho, hf⟩; replace I := I.mkOwn hf ho; clear hf ho)))
    exact ret_2 rfl (by first | (exact ResV.t _ (by rfl)) | (exact ResV.row I (by rfl) (by first | (with_reducible repeat (first | exact .here | apply At.there)); done | repeat (first | exact .here | apply At.there)) (by rfl)) | (exact ResV.one I (by rfl) (by first | (with_reducible repeat (first | exact .here | apply At.there)); done | repeat (first | exact .here | apply At.there)))) (by first | (exact ResV.t _ (by rfl)) | (exact ResV.row I (by rfl) (by first | (with_reducible repeat (first | exact .here | apply At.there)); done | repeat (first | exact .here | apply At.there)) (by rfl)) | (exact ResV.one I (by rfl) (by first | (with_reducible repeat (first | exact .here | apply At.there)); done | repeat (first | exact .here | apply At.there)))) rfl ⟨_, rfl, I.pick .here⟩
set_option maxRecDepth 100000 in
set_option maxHeartbeats 2000000 in
theorem ref17_number (v : Value) (b : List UInt8) (i : Nat) (w0 : World) (h : Bytes w0 v b) (hl : b.length = 66) (hi : i < 8) : Calls Try.prog 70 #[v, .int .i64 i] w0 fun e w' => e = .returned (.int .i64 (Crt.at_ b i)) ∧ Fr w0 w' := by
  have HV := Lib.hid h
  obtain ⟨A, _, c, rfl, rfl, hmc, hcm, _, hs⟩ := h
  unfold maxLen at hcm
  obtain ⟨bk, o, rfl, hcx⟩ := SlA.atB hs 0 (by omega)
  clear hs hcx
  have HL := Lib.hid hl
  have hc66 : 66 ≤ c := by omega
  clear hmc
  rw [hl] at HV ⊢
  have h8 : i = 0 ∨ i = 1 ∨ i = 2 ∨ i = 3 ∨ i = 4 ∨ i = 5 ∨ i = 6 ∨ i = 7 := by omega
  have HW : Hid (∀ (k : Nat) w', 8 * k + 8 ≤ 66 → Fr w0 w' → Bytes w' (.slice (some ⟨bk, o + 8 * k, none⟩) 8 (c - 8 * k)) (Crt.chunk b k)) := Lib.hid (fun k w' hk hf => by
    have h1 := SlV.drop (HV.out.frF hf) (8 * k) (by omega)
    rw [if_neg (by omega)] at h1
    have h2 := SlV.take h1 8 (by omega)
    rw [Nat.mul_one, Option.map_some, addr_add] at h2
    exact h2)
  have HQ : Hid (∀ k, 8 * k + 8 ≤ 66 → (Crt.chunk b k).length = 8) := Lib.hid (fun k hk => Crt.chunk_len b k (by rw [HL.out]; exact hk))
  clear hl
  rcases h8 with rfl | rfl | rfl | rfl | rfl | rfl | rfl | rfl
  · have HB := Lib.hid (HW.out 0 w0 (by decide) (Fr.refl _))
    have HN := Lib.hid (HQ.out 0 (by decide))
    have HT : Hid (Crt.at_ b 0 = Oct.i64 (Oct.val (Crt.chunk b 0))) := Lib.hid rfl
    have hq := i64_conv (Oct.val (Crt.chunk b 0)) (by have := Oct.val_lt (Crt.chunk b 0); rw [HN.out] at this; exact this)
    have HC := Lib.hid (ref04_Value _ _ w0 HB.out (by rw [HN.out]; decide))
    rw [HT.out]
    clear hi HW HQ HV
    go_enter Try.func70, Try.ntmps70
    go_wp2_with (go_at_call 100; go_must (refine (HC.out).mono ?_; rintro _ w1 ⟨rfl, rfl⟩))
    all_goals try omega
    go_ret
    exact ⟨rfl, Fr.refl _⟩
  · have HB := Lib.hid (HW.out 1 w0 (by decide) (Fr.refl _))
    have HN := Lib.hid (HQ.out 1 (by decide))
    have HT : Hid (Crt.at_ b 1 = Oct.i64 (Oct.val (Crt.chunk b 1))) := Lib.hid rfl
    have hq := i64_conv (Oct.val (Crt.chunk b 1)) (by have := Oct.val_lt (Crt.chunk b 1); rw [HN.out] at this; exact this)
    have HC := Lib.hid (ref04_Value _ _ w0 HB.out (by rw [HN.out]; decide))
    rw [HT.out]
    clear hi HW HQ HV
    go_enter Try.func70, Try.ntmps70
    go_wp2_with (go_at_call 100; go_must (refine (HC.out).mono ?_; rintro _ w1 ⟨rfl, rfl⟩))
    all_goals try omega
    go_ret
    exact ⟨rfl, Fr.refl _⟩
  · have HB := Lib.hid (HW.out 2 w0 (by decide) (Fr.refl _))
    have HN := Lib.hid (HQ.out 2 (by decide))
    have HT : Hid (Crt.at_ b 2 = Oct.i64 (Oct.val (Crt.chunk b 2))) := Lib.hid rfl
    have hq := i64_conv (Oct.val (Crt.chunk b 2)) (by have := Oct.val_lt (Crt.chunk b 2); rw [HN.out] at this; exact this)
    have HC := Lib.hid (ref04_Value _ _ w0 HB.out (by rw [HN.out]; decide))
    rw [HT.out]
    clear hi HW HQ HV
    go_enter Try.func70, Try.ntmps70
    go_wp2_with (go_at_call 100; go_must (refine (HC.out).mono ?_; rintro _ w1 ⟨rfl, rfl⟩))
    all_goals try omega
    go_ret
    exact ⟨rfl, Fr.refl _⟩
  · have HB := Lib.hid (HW.out 3 w0 (by decide) (Fr.refl _))
    have HN := Lib.hid (HQ.out 3 (by decide))
    have HT : Hid (Crt.at_ b 3 = Oct.i64 (Oct.val (Crt.chunk b 3))) := Lib.hid rfl
    have hq := i64_conv (Oct.val (Crt.chunk b 3)) (by have := Oct.val_lt (Crt.chunk b 3); rw [HN.out] at this; exact this)
    have HC := Lib.hid (ref04_Value _ _ w0 HB.out (by rw [HN.out]; decide))
    rw [HT.out]
    clear hi HW HQ HV
    go_enter Try.func70, Try.ntmps70
    go_wp2_with (go_at_call 100; go_must (refine (HC.out).mono ?_; rintro _ w1 ⟨rfl, rfl⟩))
    all_goals try omega
    go_ret
    exact ⟨rfl, Fr.refl _⟩
  · have HB := Lib.hid (HW.out 4 w0 (by decide) (Fr.refl _))
    have HN := Lib.hid (HQ.out 4 (by decide))
    have HT : Hid (Crt.at_ b 4 = Oct.i64 (Oct.val (Crt.chunk b 4))) := Lib.hid rfl
    have hq := i64_conv (Oct.val (Crt.chunk b 4)) (by have := Oct.val_lt (Crt.chunk b 4); rw [HN.out] at this; exact this)
    have HC := Lib.hid (ref04_Value _ _ w0 HB.out (by rw [HN.out]; decide))
    rw [HT.out]
    clear hi HW HQ HV
    go_enter Try.func70, Try.ntmps70
    go_wp2_with (go_at_call 100; go_must (refine (HC.out).mono ?_; rintro _ w1 ⟨rfl, rfl⟩))
    all_goals try omega
    go_ret
    exact ⟨rfl, Fr.refl _⟩
  · have HB := Lib.hid (HW.out 5 w0 (by decide) (Fr.refl _))
    have HN := Lib.hid (HQ.out 5 (by decide))
    have HT : Hid (Crt.at_ b 5 = Oct.i64 (Oct.val (Crt.chunk b 5))) := Lib.hid rfl
    have hq := i64_conv (Oct.val (Crt.chunk b 5)) (by have := Oct.val_lt (Crt.chunk b 5); rw [HN.out] at this; exact this)
    have HC := Lib.hid (ref04_Value _ _ w0 HB.out (by rw [HN.out]; decide))
    rw [HT.out]
    clear hi HW HQ HV
    go_enter Try.func70, Try.ntmps70
    go_wp2_with (go_at_call 100; go_must (refine (HC.out).mono ?_; rintro _ w1 ⟨rfl, rfl⟩))
    all_goals try omega
    go_ret
    exact ⟨rfl, Fr.refl _⟩
  · have HB := Lib.hid (HW.out 6 w0 (by decide) (Fr.refl _))
    have HN := Lib.hid (HQ.out 6 (by decide))
    have HT : Hid (Crt.at_ b 6 = Oct.i64 (Oct.val (Crt.chunk b 6))) := Lib.hid rfl
    have hq := i64_conv (Oct.val (Crt.chunk b 6)) (by have := Oct.val_lt (Crt.chunk b 6); rw [HN.out] at this; exact this)
    have HC := Lib.hid (ref04_Value _ _ w0 HB.out (by rw [HN.out]; decide))
    rw [HT.out]
    clear hi HW HQ HV
    go_enter Try.func70, Try.ntmps70
    go_wp2_with (go_at_call 100; go_must (refine (HC.out).mono ?_; rintro _ w1 ⟨rfl, rfl⟩))
    all_goals try omega
    go_ret
    exact ⟨rfl, Fr.refl _⟩
  · have HB := Lib.hid (HW.out 7 w0 (by decide) (Fr.refl _))
    have HN := Lib.hid (HQ.out 7 (by decide))
    have HT : Hid (Crt.at_ b 7 = Oct.i64 (Oct.val (Crt.chunk b 7))) := Lib.hid rfl
    have hq := i64_conv (Oct.val (Crt.chunk b 7)) (by have := Oct.val_lt (Crt.chunk b 7); rw [HN.out] at this; exact this)
    have HC := Lib.hid (ref04_Value _ _ w0 HB.out (by rw [HN.out]; decide))
    rw [HT.out]
    clear hi HW HQ HV
    go_enter Try.func70, Try.ntmps70
    go_wp2_with (go_at_call 100; go_must (refine (HC.out).mono ?_; rintro _ w1 ⟨rfl, rfl⟩))
    all_goals try omega
    go_ret
    exact ⟨rfl, Fr.refl _⟩
theorem ref17_numberN (v : Value) (b : List UInt8) (n : Int) (i : Nat) (w0 : World) (h : Bytes w0 v b) (hl : b.length = 66) (hn : n = i) (hi : i < 8) : Calls Try.prog 70 #[v, .int .i64 n] w0 fun e w' => e = .returned (.int .i64 (Crt.at_ b i)) ∧ Fr w0 w' := by
  subst hn; exact ref17_number v b i w0 h hl hi
set_option maxRecDepth 100000 in
set_option maxHeartbeats 2000000 in
theorem ref17_Decode (v : Value) (b : List UInt8) (w0 : World) (h : Bytes w0 v b) : Calls Try.prog 22 #[v] w0 fun e w' => e = .returned (.tuple #[aggC (Crt.decode b).1, .int .i64 (Crt.decode b).2]) ∧ Fr w0 w' := by
  have HV := Lib.hid h
  have HG := Lib.hid (fun wx (hf : Fr w0 wx) => ref03_Good v b wx (h.frF hf))
  obtain ⟨A, _, c, rfl, rfl, hmc, hcm, _, hs⟩ := h
  clear hs
  unfold maxLen at hcm
  have I := St.refl w0
  by_cases hl : b.length = 66
  · have hlb : ((b.length : Int) != 66) = false := by simp [hl]
    have HL := Lib.hid hl
    cases hg : Crc.good b with
    | false =>
      have HE : Hid (Crt.decode b = (Crt.zero, 3)) := Lib.hid (by unfold Crt.decode; rw [if_neg (by simp [hl]), if_pos hg])
      have HG2 := Lib.hid hg
      clear hg hl
      go_enter Try.func22, Try.ntmps22
      go_wp2_with (first | (first | ((with_reducible refine gguard ?_); (first | refine w_guardT (by rfl) (fun hb => ?_) (fun hb => ?_) | refine w_guardF (by rfl) (fun hb => ?_) (fun hb => ?_)) <;> first | (cases hb; done) | cases hb | ((try rw [hb]) <;> (try simp at hb) <;> go_prune <;> (try (with_reducible replace hb := eqPair hb)))) | (((with_reducible refine gbox ?_); first | refine w_boxA I (by rfl) ?_ | refine w_box1 I (by (conv => lhs; whnf) <;> rfl) (by rfl) ?_); clear I; intro g w I) | ((with_reducible refine galloc ?_); refine w_alloc I ?_; clear I; intro g w I) | ((with_reducible refine gload ?_); first | refine w_loadB I (by rfl) (by first | (with_reducible repeat (first | exact .here | apply At.there)); done | repeat (first | exact .here | apply At.there)) (by rfl) ?_ | refine w_loadBR I (by rfl) (by first | (with_reducible repeat (first | exact .here | apply At.there)); done | repeat (first | exact .here | apply At.there)) (by rfl) ?_ | refine w_load0 I (by rfl) (by assumption) ?_) | ((with_reducible refine gstore ?_); (first | refine w_storeB I (by rfl) (by (conv => lhs; whnf) <;> rfl) (by first | (with_reducible repeat (first | exact .here | apply Upd.there)); done | repeat (first | exact .here | apply Upd.there)) (by rfl) (by rfl) (by simp only [List.set_cons_zero, List.set_cons_succ] <;> rfl) ?_ | refine w_storeBR I (by rfl) (by rfl) (by first | (with_reducible repeat (first | exact .here | apply Upd.there)); done | repeat (first | exact .here | apply Upd.there)) (by rfl) (by rfl) (by rfl) ?_); clear I; intro w I)) | (go_at_call 69; go_must (refine (HG.out _ I.fr).mono ?_; rintro _ w1 ⟨rfl, hf⟩; rw [HG2.out]; replace I := I.still hf.fr; clear hf)))
      exact ret_2 rfl (by first | (exact ResV.t _ (by rfl)) | (exact ResV.row I (by rfl) (by first | (with_reducible repeat (first | exact .here | apply At.there)); done | repeat (first | exact .here | apply At.there)) (by rfl)) | (exact ResV.one I (by rfl) (by first | (with_reducible repeat (first | exact .here | apply At.there)); done | repeat (first | exact .here | apply At.there)))) (by first | (exact ResV.t _ (by rfl)) | (exact ResV.row I (by rfl) (by first | (with_reducible repeat (first | exact .here | apply At.there)); done | repeat (first | exact .here | apply At.there)) (by rfl)) | (exact ResV.one I (by rfl) (by first | (with_reducible repeat (first | exact .here | apply At.there)); done | repeat (first | exact .here | apply At.there)))) rfl ⟨by rw [HE.out]; rfl, I.fr⟩
    | true =>
      have HD : Hid (Crt.decode b = if Crt.right (Crt.read b) = true then (Crt.read b, 0) else (Crt.zero, 2)) := Lib.hid (by unfold Crt.decode; rw [if_neg (by simp [hl]), if_neg (by simp [hg])])
      have HG2 := Lib.hid hg
      clear hg hl
      cases hr : Crt.right (Crt.read b) with
      | false =>
        have HR := Lib.hid hr
        have HF := Lib.hid (HD.out.trans (if_neg (by rw [hr]; simp)))
        clear hr
        go_enter Try.func22, Try.ntmps22
        go_wp2_with (first | (first | ((with_reducible refine gguard ?_); (first | refine w_guardT (by rfl) (fun hb => ?_) (fun hb => ?_) | refine w_guardF (by rfl) (fun hb => ?_) (fun hb => ?_)) <;> first | (cases hb; done) | cases hb | ((try rw [hb]) <;> (try simp at hb) <;> go_prune <;> (try (with_reducible replace hb := eqPair hb)))) | (((with_reducible refine gbox ?_); first | refine w_boxA I (by rfl) ?_ | refine w_box1 I (by (conv => lhs; whnf) <;> rfl) (by rfl) ?_); clear I; intro g w I) | ((with_reducible refine galloc ?_); refine w_alloc I ?_; clear I; intro g w I) | ((with_reducible refine gload ?_); first | refine w_loadB I (by rfl) (by first | (with_reducible repeat (first | exact .here | apply At.there)); done | repeat (first | exact .here | apply At.there)) (by rfl) ?_ | refine w_loadBR I (by rfl) (by first | (with_reducible repeat (first | exact .here | apply At.there)); done | repeat (first | exact .here | apply At.there)) (by rfl) ?_ | refine w_load0 I (by rfl) (by assumption) ?_) | ((with_reducible refine gstore ?_); (first | refine w_storeB I (by rfl) (by (conv => lhs; whnf) <;> rfl) (by first | (with_reducible repeat (first | exact .here | apply Upd.there)); done | repeat (first | exact .here | apply Upd.there)) (by rfl) (by rfl) (by simp only [List.set_cons_zero, List.set_cons_succ] <;> rfl) ?_ | refine w_storeBR I (by rfl) (by rfl) (by first | (with_reducible repeat (first | exact .here | apply Upd.there)); done | repeat (first | exact .here | apply Upd.there)) (by rfl) (by rfl) (by rfl) ?_); clear I; intro w I)) | (go_at_call 69; go_must (refine (HG.out _ I.fr).mono ?_; rintro _ w1 ⟨rfl, hf⟩; rw [HG2.out]; replace I := I.still hf.fr; clear hf)) | (go_at_call 70; ((with_reducible refine (ref17_numberN _ b 0 0 _ (HV.out.frF I.fr) HL.out rfl (by decide)).mono ?_); rintro _ w1 ⟨rfl, hf⟩; replace I := I.still hf; clear hf)) | (go_at_call 70; ((with_reducible refine (ref17_numberN _ b 1 1 _ (HV.out.frF I.fr) HL.out rfl (by decide)).mono ?_); rintro _ w1 ⟨rfl, hf⟩; replace I := I.still hf; clear hf)) | (go_at_call 70; ((with_reducible refine (ref17_numberN _ b 2 2 _ (HV.out.frF I.fr) HL.out rfl (by decide)).mono ?_); rintro _ w1 ⟨rfl, hf⟩; replace I := I.still hf; clear hf)) | (go_at_call 70; ((with_reducible refine (ref17_numberN _ b 3 3 _ (HV.out.frF I.fr) HL.out rfl (by decide)).mono ?_); rintro _ w1 ⟨rfl, hf⟩; replace I := I.still hf; clear hf)) | (go_at_call 70; ((with_reducible refine (ref17_numberN _ b 4 4 _ (HV.out.frF I.fr) HL.out rfl (by decide)).mono ?_); rintro _ w1 ⟨rfl, hf⟩; replace I := I.still hf; clear hf)) | (go_at_call 70; ((with_reducible refine (ref17_numberN _ b 5 5 _ (HV.out.frF I.fr) HL.out rfl (by decide)).mono ?_); rintro _ w1 ⟨rfl, hf⟩; replace I := I.still hf; clear hf)) | (go_at_call 70; ((with_reducible refine (ref17_numberN _ b 6 6 _ (HV.out.frF I.fr) HL.out rfl (by decide)).mono ?_); rintro _ w1 ⟨rfl, hf⟩; replace I := I.still hf; clear hf)) | (go_at_call 70; ((with_reducible refine (ref17_numberN _ b 7 7 _ (HV.out.frF I.fr) HL.out rfl (by decide)).mono ?_); rintro _ w1 ⟨rfl, hf⟩; replace I := I.still hf; clear hf)) | (go_at_call 18; go_must (refine (ref17_Right (Crt.read b) _).mono ?_; rintro _ w1 ⟨rfl, hf⟩; rw [HR.out]; replace I := I.still hf; clear hf)))
        exact ret_2 rfl (by first | (exact ResV.t _ (by rfl)) | (exact ResV.row I (by rfl) (by first | (with_reducible repeat (first | exact .here | apply At.there)); done | repeat (first | exact .here | apply At.there)) (by rfl)) | (exact ResV.one I (by rfl) (by first | (with_reducible repeat (first | exact .here | apply At.there)); done | repeat (first | exact .here | apply At.there)))) (by first | (exact ResV.t _ (by rfl)) | (exact ResV.row I (by rfl) (by first | (with_reducible repeat (first | exact .here | apply At.there)); done | repeat (first | exact .here | apply At.there)) (by rfl)) | (exact ResV.one I (by rfl) (by first | (with_reducible repeat (first | exact .here | apply At.there)); done | repeat (first | exact .here | apply At.there)))) rfl ⟨by rw [HF.out]; rfl, I.fr⟩
      | true =>
        have HR := Lib.hid hr
        have HF := Lib.hid (HD.out.trans (if_pos hr))
        clear hr
        go_enter Try.func22, Try.ntmps22
        go_wp2_with (first | (first | ((with_reducible refine gguard ?_); (first | refine w_guardT (by rfl) (fun hb => ?_) (fun hb => ?_) | refine w_guardF (by rfl) (fun hb => ?_) (fun hb => ?_)) <;> first | (cases hb; done) | cases hb | ((try rw [hb]) <;> (try simp at hb) <;> go_prune <;> (try (with_reducible replace hb := eqPair hb)))) | (((with_reducible refine gbox ?_); first | refine w_boxA I (by rfl) ?_ | refine w_box1 I (by (conv => lhs; whnf) <;> rfl) (by rfl) ?_); clear I; intro g w I) | ((with_reducible refine galloc ?_); refine w_alloc I ?_; clear I; intro g w I) | ((with_reducible refine gload ?_); first | refine w_loadB I (by rfl) (by first | (with_reducible repeat (first | exact .here | apply At.there)); done | repeat (first | exact .here | apply At.there)) (by rfl) ?_ | refine w_loadBR I (by rfl) (by first | (with_reducible repeat (first | exact .here | apply At.there)); done | repeat (first | exact .here | apply At.there)) (by rfl) ?_ | refine w_load0 I (by rfl) (by assumption) ?_) | ((with_reducible refine gstore ?_); (first | refine w_storeB I (by rfl) (by (conv => lhs; whnf) <;> rfl) (by first | (with_reducible repeat (first | exact .here | apply Upd.there)); done | repeat (first | exact .here | apply Upd.there)) (by rfl) (by rfl) (by simp only [List.set_cons_zero, List.set_cons_succ] <;> rfl) ?_ | refine w_storeBR I (by rfl) (by rfl) (by first | (with_reducible repeat (first | exact .here | apply Upd.there)); done | repeat (first | exact .here | apply Upd.there)) (by rfl) (by rfl) (by rfl) ?_); clear I; intro w I)) | (go_at_call 69; go_must (refine (HG.out _ I.fr).mono ?_; rintro _ w1 ⟨rfl, hf⟩; rw [HG2.out]; replace I := I.still hf.fr; clear hf)) | (go_at_call 70; ((with_reducible refine (ref17_numberN _ b 0 0 _ (HV.out.frF I.fr) HL.out rfl (by decide)).mono ?_); rintro _ w1 ⟨rfl, hf⟩; replace I := I.still hf; clear hf)) | (go_at_call 70; ((with_reducible refine (ref17_numberN _ b 1 1 _ (HV.out.frF I.fr) HL.out rfl (by decide)).mono ?_); rintro _ w1 ⟨rfl, hf⟩; replace I := I.still hf; clear hf)) | (go_at_call 70; ((with_reducible refine (ref17_numberN _ b 2 2 _ (HV.out.frF I.fr) HL.out rfl (by decide)).mono ?_); rintro _ w1 ⟨rfl, hf⟩; replace I := I.still hf; clear hf)) | (go_at_call 70; ((with_reducible refine (ref17_numberN _ b 3 3 _ (HV.out.frF I.fr) HL.out rfl (by decide)).mono ?_); rintro _ w1 ⟨rfl, hf⟩; replace I := I.still hf; clear hf)) | (go_at_call 70; ((with_reducible refine (ref17_numberN _ b 4 4 _ (HV.out.frF I.fr) HL.out rfl (by decide)).mono ?_); rintro _ w1 ⟨rfl, hf⟩; replace I := I.still hf; clear hf)) | (go_at_call 70; ((with_reducible refine (ref17_numberN _ b 5 5 _ (HV.out.frF I.fr) HL.out rfl (by decide)).mono ?_); rintro _ w1 ⟨rfl, hf⟩; replace I := I.still hf; clear hf)) | (go_at_call 70; ((with_reducible refine (ref17_numberN _ b 6 6 _ (HV.out.frF I.fr) HL.out rfl (by decide)).mono ?_); rintro _ w1 ⟨rfl, hf⟩; replace I := I.still hf; clear hf)) | (go_at_call 70; ((with_reducible refine (ref17_numberN _ b 7 7 _ (HV.out.frF I.fr) HL.out rfl (by decide)).mono ?_); rintro _ w1 ⟨rfl, hf⟩; replace I := I.still hf; clear hf)) | (go_at_call 18; go_must (refine (ref17_Right (Crt.read b) _).mono ?_; rintro _ w1 ⟨rfl, hf⟩; rw [HR.out]; replace I := I.still hf; clear hf)))
        exact ret_2 rfl (by first | (exact ResV.t _ (by rfl)) | (exact ResV.row I (by rfl) (by first | (with_reducible repeat (first | exact .here | apply At.there)); done | repeat (first | exact .here | apply At.there)) (by rfl)) | (exact ResV.one I (by rfl) (by first | (with_reducible repeat (first | exact .here | apply At.there)); done | repeat (first | exact .here | apply At.there)))) (by first | (exact ResV.t _ (by rfl)) | (exact ResV.row I (by rfl) (by first | (with_reducible repeat (first | exact .here | apply At.there)); done | repeat (first | exact .here | apply At.there)) (by rfl)) | (exact ResV.one I (by rfl) (by first | (with_reducible repeat (first | exact .here | apply At.there)); done | repeat (first | exact .here | apply At.there)))) rfl ⟨by rw [HF.out]; rfl, I.fr⟩
  · have hlb : ((b.length : Int) != 66) = true := by simp; omega
    have HE : Hid (Crt.decode b = (Crt.zero, 2)) := Lib.hid (by unfold Crt.decode; rw [if_pos hl])
    go_enter Try.func22, Try.ntmps22
    go_wp2_with (first | ((with_reducible refine gguard ?_); (first | refine w_guardT (by rfl) (fun hb => ?_) (fun hb => ?_) | refine w_guardF (by rfl) (fun hb => ?_) (fun hb => ?_)) <;> first | (cases hb; done) | cases hb | ((try rw [hb]) <;> (try simp at hb) <;> go_prune <;> (try (with_reducible replace hb := eqPair hb)))) | (((with_reducible refine gbox ?_); first | refine w_boxA I (by rfl) ?_ | refine w_box1 I (by (conv => lhs; whnf) <;> rfl) (by rfl) ?_); clear I; intro g w I) | ((with_reducible refine galloc ?_); refine w_alloc I ?_; clear I; intro g w I) | ((with_reducible refine gload ?_); first | refine w_loadB I (by rfl) (by first | (with_reducible repeat (first | exact .here | apply At.there)); done | repeat (first | exact .here | apply At.there)) (by rfl) ?_ | refine w_loadBR I (by rfl) (by first | (with_reducible repeat (first | exact .here | apply At.there)); done | repeat (first | exact .here | apply At.there)) (by rfl) ?_ | refine w_load0 I (by rfl) (by assumption) ?_) | ((with_reducible refine gstore ?_); (first | refine w_storeB I (by rfl) (by (conv => lhs; whnf) <;> rfl) (by first | (with_reducible repeat (first | exact .here | apply Upd.there)); done | repeat (first | exact .here | apply Upd.there)) (by rfl) (by rfl) (by simp only [List.set_cons_zero, List.set_cons_succ] <;> rfl) ?_ | refine w_storeBR I (by rfl) (by rfl) (by first | (with_reducible repeat (first | exact .here | apply Upd.there)); done | repeat (first | exact .here | apply Upd.there)) (by rfl) (by rfl) (by rfl) ?_); clear I; intro w I))
    exact ret_2 rfl (by first | (exact ResV.t _ (by rfl)) | (exact ResV.row I (by rfl) (by first | (with_reducible repeat (first | exact .here | apply At.there)); done | repeat (first | exact .here | apply At.there)) (by rfl)) | (exact ResV.one I (by rfl) (by first | (with_reducible repeat (first | exact .here | apply At.there)); done | repeat (first | exact .here | apply At.there)))) (by first | (exact ResV.t _ (by rfl)) | (exact ResV.row I (by rfl) (by first | (with_reducible repeat (first | exact .here | apply At.there)); done | repeat (first | exact .here | apply At.there)) (by rfl)) | (exact ResV.one I (by rfl) (by first | (with_reducible repeat (first | exact .here | apply At.there)); done | repeat (first | exact .here | apply At.there)))) rfl ⟨by rw [HE.out]; rfl, I.fr⟩
end Go.Proofs.Ytpnpgeilhafepaa
