
/- CertTells: whether any certificate may be, its bytes, and the certificate of any bytes (at most 200), are as the reference's; one that may be is that of its bytes, and bytes that are a certificate's are its. -/
import Derived.Test.YtpnpgeilhafepaaCrtA
import Derived.Test.YtpnpgeilhafepaaCrtO
import Derived.Test.YtpnpgeilhafepaaFrame
namespace Go.Proofs.Ytpnpgeilhafepaa.certTells
open Go.ChangeShapes Go.WideShapes Go.ChangeAt Go.RowKit Go.Hf
open Go.ChangeMaps (open_string shut_string)

set_option maxRecDepth 100000 in
set_option maxHeartbeats 8000000 in
theorem law (c : Cert) (v : Value) (b : List UInt8) (w0 : World) (h : Bytes w0 v b) :
    Calls Try.prog 4 #[aggC c, v] w0 fun en w' => en = .returned (.bool true) ∧ Fr w0 w' := by
  have HV := Lib.hid h
  obtain ⟨A, _, cp, rfl, rfl, hl, hcm, hA, hs⟩ := h
  clear hs hA
  unfold maxLen at hcm
  have I := St.refl w0
  by_cases hl3 : 200 < b.length
  · go_enter Try.func4, Try.ntmps4
    try dsimp only [List.append]
    go_wp2_with (first | (first | ((with_reducible refine gguard ?_); (first | refine w_guardT (by rfl) (fun hb => ?_) (fun hb => ?_) | refine w_guardF (by rfl) (fun hb => ?_) (fun hb => ?_)) <;> first | (cases hb; done) | cases hb | ((try rw [hb]) <;> (try simp at hb) <;> go_prune <;> (try (with_reducible replace hb := eqPair hb)))) | (((with_reducible refine gbox ?_); first | refine w_boxA I (by rfl) ?_ | refine w_box1 I (by (conv => lhs; whnf) <;> rfl) (by rfl) ?_); clear I; intro g w I) | ((with_reducible refine galloc ?_); refine w_alloc I ?_; clear I; intro g w I) | ((with_reducible refine gload ?_); first | refine w_loadB I (by rfl) (by first | (with_reducible repeat (first | exact .here | apply At.there)); done | repeat (first | exact .here | apply At.there)) (by rfl) ?_ | refine w_loadBR I (by rfl) (by first | (with_reducible repeat (first | exact .here | apply At.there)); done | repeat (first | exact .here | apply At.there)) (by rfl) ?_ | refine w_load0 I (by rfl) (by assumption) ?_) | ((with_reducible refine gstore ?_); (first | refine w_storeB I (by rfl) (by (conv => lhs; whnf) <;> rfl) (by first | (with_reducible repeat (first | exact .here | apply Upd.there)); done | repeat (first | exact .here | apply Upd.there)) (by rfl) (by rfl) (by simp only [List.set_cons_zero, List.set_cons_succ] <;> rfl) ?_ | refine w_storeBR I (by rfl) (by rfl) (by first | (with_reducible repeat (first | exact .here | apply Upd.there)); done | repeat (first | exact .here | apply Upd.there)) (by rfl) (by rfl) (by rfl) ?_); clear I; intro w I)) | (go_at_call 17; go_must (refine (law17_alive _).mono ?_; rintro _ w1 ⟨rfl, hf⟩; replace I := I.still hf; clear hf)))
    all_goals try omega
    go_ret
    exact ⟨rfl, I.fr⟩
  · have HD := Lib.hid (fun wx (hf : Fr w0 wx) => cert_Decode _ b wx (HV.out.frF hf) (by omega))
    have HF := Lib.hid (fun wx (hf : Fr w0 wx) => ref17_Decode _ b wx (HV.out.frF hf))
    have HX := Lib.hid (fun wx => cert_Encode c wx)
    have HY := Lib.hid (fun wx => ref17_Encode c wx)
    have HG := Lib.hid (Crt.encode_decode b)
    generalize hD : Crt.decode b = q at HD HF HG
    obtain ⟨d, g⟩ := q
    dsimp only at HD HF HG
    have hed := eq_cert d d
    rw [decide_eq_true rfl] at hed
    have hec := eq_cert c c
    rw [decide_eq_true rfl] at hec
    clear hD
    cases hr : Crt.right c with
    | false =>
      have HR := Lib.hid hr
      have hx : Crt.encode c = ([], 1) := by unfold Crt.encode; rw [hr]; rfl
      rw [hx] at HX HY
      dsimp only at HX HY
      clear hr hx
      generalize ([] : List UInt8) = x at HX HY
      by_cases hg : g = 0
      · subst hg
        have HZ : Hid (∀ wx, Calls Try.prog 19 #[aggC d] wx fun e w' => ∃ v', e = .returned (.tuple #[v', .int .i64 0]) ∧ St wx w' [OwnS 5 1 encB v' b]) := Lib.hid (fun wx => by have := cert_Encode d wx; rw [HG.out rfl] at this; exact this)
        go_enter Try.func4, Try.ntmps4
        try dsimp only [List.append]
        go_wp2_with (first | (first | ((with_reducible refine gguard ?_); (first | refine w_guardT (by rfl) (fun hb => ?_) (fun hb => ?_) | refine w_guardF (by rfl) (fun hb => ?_) (fun hb => ?_)) <;> first | (cases hb; done) | cases hb | ((try rw [hb]) <;> (try simp at hb) <;> go_prune <;> (try (with_reducible replace hb := eqPair hb)))) | (((with_reducible refine gbox ?_); first | refine w_boxA I (by rfl) ?_ | refine w_box1 I (by (conv => lhs; whnf) <;> rfl) (by rfl) ?_); clear I; intro g w I) | ((with_reducible refine galloc ?_); refine w_alloc I ?_; clear I; intro g w I) | ((with_reducible refine gload ?_); first | refine w_loadB I (by rfl) (by first | (with_reducible repeat (first | exact .here | apply At.there)); done | repeat (first | exact .here | apply At.there)) (by rfl) ?_ | refine w_loadBR I (by rfl) (by first | (with_reducible repeat (first | exact .here | apply At.there)); done | repeat (first | exact .here | apply At.there)) (by rfl) ?_ | refine w_load0 I (by rfl) (by assumption) ?_) | ((with_reducible refine gstore ?_); (first | refine w_storeB I (by rfl) (by (conv => lhs; whnf) <;> rfl) (by first | (with_reducible repeat (first | exact .here | apply Upd.there)); done | repeat (first | exact .here | apply Upd.there)) (by rfl) (by rfl) (by simp only [List.set_cons_zero, List.set_cons_succ] <;> rfl) ?_ | refine w_storeBR I (by rfl) (by rfl) (by first | (with_reducible repeat (first | exact .here | apply Upd.there)); done | repeat (first | exact .here | apply Upd.there)) (by rfl) (by rfl) (by rfl) ?_); clear I; intro w I)) | (go_at_call 18; go_must (refine (ref17_Right c _).mono ?_; rintro _ w1 ⟨rfl, hf⟩; replace I := I.still hf; clear hf; rw [HR.out])) | (go_at_call 24; go_must (refine (cert_Right c _).mono ?_; rintro _ w1 ⟨rfl, hf⟩; replace I := I.still hf; clear hf; rw [HR.out])) | (go_at_call 19; ((with_reducible refine (HX.out _).mono ?_); rintro _ w1 ⟨vx, rfl, S⟩; replace I := I.then1 S; clear S)) | (go_at_call 20; ((with_reducible refine (HY.out _).mono ?_); rintro _ w1 ⟨vy, rfl, S⟩; replace I := I.then1 S; clear S)) | (go_at_call 21; ((with_reducible refine (HD.out _ I.fr).mono ?_); rintro _ w1 ⟨rfl, hf⟩; replace I := I.still hf; clear hf)) | (go_at_call 22; go_must (refine (HF.out _ I.fr).mono ?_; rintro _ w1 ⟨rfl, hf⟩; replace I := I.still hf; clear hf)) | (go_at_call 23; ((with_reducible refine (ref03_Same vx vy x x _ (I.slv (by first | (with_reducible repeat (first | exact .here | apply At.there)); done | repeat (first | exact .here | apply At.there)) encB_len) (I.slv (by first | (with_reducible repeat (first | exact .here | apply At.there)); done | repeat (first | exact .here | apply At.there)) encB_len)).mono ?_); rintro _ w1 ⟨rfl, hf⟩; replace I := I.still hf.fr; clear hf; rw [beq_self_eq_true])) | (go_at_call 17; go_must (refine (law17_alive _).mono ?_; rintro _ w1 ⟨rfl, hf⟩; replace I := I.still hf; clear hf)) | (go_at_call 19; ((with_reducible refine (HZ.out _).mono ?_); rintro _ w1 ⟨vz, rfl, S⟩; replace I := I.then1 S; clear S)) | (go_at_call 23; ((with_reducible refine (ref03_Same vz _ b b _ (I.slv (by first | (with_reducible repeat (first | exact .here | apply At.there)); done | repeat (first | exact .here | apply At.there)) encB_len) (HV.out.frF I.fr)).mono ?_); rintro _ w1 ⟨rfl, hf⟩; replace I := I.still hf.fr; clear hf; rw [beq_self_eq_true])))
        all_goals try omega
        go_ret
        exact ⟨rfl, I.fr⟩
      · have hgb : (g != 0) = true := by simpa using hg
        clear hg
        go_enter Try.func4, Try.ntmps4
        try dsimp only [List.append]
        go_wp2_with (first | (first | ((with_reducible refine gguard ?_); (first | refine w_guardT (by rfl) (fun hb => ?_) (fun hb => ?_) | refine w_guardF (by rfl) (fun hb => ?_) (fun hb => ?_)) <;> first | (cases hb; done) | cases hb | ((try rw [hb]) <;> (try simp at hb) <;> go_prune <;> (try (with_reducible replace hb := eqPair hb)))) | (((with_reducible refine gbox ?_); first | refine w_boxA I (by rfl) ?_ | refine w_box1 I (by (conv => lhs; whnf) <;> rfl) (by rfl) ?_); clear I; intro g w I) | ((with_reducible refine galloc ?_); refine w_alloc I ?_; clear I; intro g w I) | ((with_reducible refine gload ?_); first | refine w_loadB I (by rfl) (by first | (with_reducible repeat (first | exact .here | apply At.there)); done | repeat (first | exact .here | apply At.there)) (by rfl) ?_ | refine w_loadBR I (by rfl) (by first | (with_reducible repeat (first | exact .here | apply At.there)); done | repeat (first | exact .here | apply At.there)) (by rfl) ?_ | refine w_load0 I (by rfl) (by assumption) ?_) | ((with_reducible refine gstore ?_); (first | refine w_storeB I (by rfl) (by (conv => lhs; whnf) <;> rfl) (by first | (with_reducible repeat (first | exact .here | apply Upd.there)); done | repeat (first | exact .here | apply Upd.there)) (by rfl) (by rfl) (by simp only [List.set_cons_zero, List.set_cons_succ] <;> rfl) ?_ | refine w_storeBR I (by rfl) (by rfl) (by first | (with_reducible repeat (first | exact .here | apply Upd.there)); done | repeat (first | exact .here | apply Upd.there)) (by rfl) (by rfl) (by rfl) ?_); clear I; intro w I)) | (go_at_call 18; go_must (refine (ref17_Right c _).mono ?_; rintro _ w1 ⟨rfl, hf⟩; replace I := I.still hf; clear hf; rw [HR.out])) | (go_at_call 24; go_must (refine (cert_Right c _).mono ?_; rintro _ w1 ⟨rfl, hf⟩; replace I := I.still hf; clear hf; rw [HR.out])) | (go_at_call 19; ((with_reducible refine (HX.out _).mono ?_); rintro _ w1 ⟨vx, rfl, S⟩; replace I := I.then1 S; clear S)) | (go_at_call 20; ((with_reducible refine (HY.out _).mono ?_); rintro _ w1 ⟨vy, rfl, S⟩; replace I := I.then1 S; clear S)) | (go_at_call 21; ((with_reducible refine (HD.out _ I.fr).mono ?_); rintro _ w1 ⟨rfl, hf⟩; replace I := I.still hf; clear hf)) | (go_at_call 22; go_must (refine (HF.out _ I.fr).mono ?_; rintro _ w1 ⟨rfl, hf⟩; replace I := I.still hf; clear hf)) | (go_at_call 23; ((with_reducible refine (ref03_Same vx vy x x _ (I.slv (by first | (with_reducible repeat (first | exact .here | apply At.there)); done | repeat (first | exact .here | apply At.there)) encB_len) (I.slv (by first | (with_reducible repeat (first | exact .here | apply At.there)); done | repeat (first | exact .here | apply At.there)) encB_len)).mono ?_); rintro _ w1 ⟨rfl, hf⟩; replace I := I.still hf.fr; clear hf; rw [beq_self_eq_true])) | (go_at_call 17; go_must (refine (law17_alive _).mono ?_; rintro _ w1 ⟨rfl, hf⟩; replace I := I.still hf; clear hf)))
        all_goals try omega
        go_ret
        exact ⟨rfl, I.fr⟩
    | true =>
      have HR := Lib.hid hr
      have hx : Crt.encode c = (Crc.sealed (Crt.raw c), 0) := by unfold Crt.encode; rw [hr]; rfl
      rw [hx] at HX HY
      dsimp only at HX HY
      have HDX := Lib.hid (Crt.decode_encode c hr)
      have HXL : Hid ((Crc.sealed (Crt.raw c)).length ≤ 1000) := Lib.hid (by rw [Crc.sealed_len, Crt.raw_len]; decide)
      clear hr hx
      generalize Crc.sealed (Crt.raw c) = x at HX HY HDX HXL
      by_cases hg : g = 0
      · subst hg
        have HZ : Hid (∀ wx, Calls Try.prog 19 #[aggC d] wx fun e w' => ∃ v', e = .returned (.tuple #[v', .int .i64 0]) ∧ St wx w' [OwnS 5 1 encB v' b]) := Lib.hid (fun wx => by have := cert_Encode d wx; rw [HG.out rfl] at this; exact this)
        go_enter Try.func4, Try.ntmps4
        try dsimp only [List.append]
        go_wp2_with (first | (first | ((with_reducible refine gguard ?_); (first | refine w_guardT (by rfl) (fun hb => ?_) (fun hb => ?_) | refine w_guardF (by rfl) (fun hb => ?_) (fun hb => ?_)) <;> first | (cases hb; done) | cases hb | ((try rw [hb]) <;> (try simp at hb) <;> go_prune <;> (try (with_reducible replace hb := eqPair hb)))) | (((with_reducible refine gbox ?_); first | refine w_boxA I (by rfl) ?_ | refine w_box1 I (by (conv => lhs; whnf) <;> rfl) (by rfl) ?_); clear I; intro g w I) | ((with_reducible refine galloc ?_); refine w_alloc I ?_; clear I; intro g w I) | ((with_reducible refine gload ?_); first | refine w_loadB I (by rfl) (by first | (with_reducible repeat (first | exact .here | apply At.there)); done | repeat (first | exact .here | apply At.there)) (by rfl) ?_ | refine w_loadBR I (by rfl) (by first | (with_reducible repeat (first | exact .here | apply At.there)); done | repeat (first | exact .here | apply At.there)) (by rfl) ?_ | refine w_load0 I (by rfl) (by assumption) ?_) | ((with_reducible refine gstore ?_); (first | refine w_storeB I (by rfl) (by (conv => lhs; whnf) <;> rfl) (by first | (with_reducible repeat (first | exact .here | apply Upd.there)); done | repeat (first | exact .here | apply Upd.there)) (by rfl) (by rfl) (by simp only [List.set_cons_zero, List.set_cons_succ] <;> rfl) ?_ | refine w_storeBR I (by rfl) (by rfl) (by first | (with_reducible repeat (first | exact .here | apply Upd.there)); done | repeat (first | exact .here | apply Upd.there)) (by rfl) (by rfl) (by rfl) ?_); clear I; intro w I)) | (go_at_call 18; go_must (refine (ref17_Right c _).mono ?_; rintro _ w1 ⟨rfl, hf⟩; replace I := I.still hf; clear hf; rw [HR.out])) | (go_at_call 24; go_must (refine (cert_Right c _).mono ?_; rintro _ w1 ⟨rfl, hf⟩; replace I := I.still hf; clear hf; rw [HR.out])) | (go_at_call 19; ((with_reducible refine (HX.out _).mono ?_); rintro _ w1 ⟨vx, rfl, S⟩; replace I := I.then1 S; clear S)) | (go_at_call 20; ((with_reducible refine (HY.out _).mono ?_); rintro _ w1 ⟨vy, rfl, S⟩; replace I := I.then1 S; clear S)) | (go_at_call 21; ((with_reducible refine (HD.out _ I.fr).mono ?_); rintro _ w1 ⟨rfl, hf⟩; replace I := I.still hf; clear hf)) | (go_at_call 22; go_must (refine (HF.out _ I.fr).mono ?_; rintro _ w1 ⟨rfl, hf⟩; replace I := I.still hf; clear hf)) | (go_at_call 23; ((with_reducible refine (ref03_Same vx vy x x _ (I.slv (by first | (with_reducible repeat (first | exact .here | apply At.there)); done | repeat (first | exact .here | apply At.there)) encB_len) (I.slv (by first | (with_reducible repeat (first | exact .here | apply At.there)); done | repeat (first | exact .here | apply At.there)) encB_len)).mono ?_); rintro _ w1 ⟨rfl, hf⟩; replace I := I.still hf.fr; clear hf; rw [beq_self_eq_true])) | (go_at_call 17; go_must (refine (law17_alive _).mono ?_; rintro _ w1 ⟨rfl, hf⟩; replace I := I.still hf; clear hf)) | (go_at_call 21; ((with_reducible refine (decode_is vx x c 0 _ (I.slv (by first | (with_reducible repeat (first | exact .here | apply At.there)); done | repeat (first | exact .here | apply At.there)) encB_len) HXL.out HDX.out).mono ?_); rintro _ w1 ⟨rfl, hf⟩; replace I := I.still hf; clear hf)) | (go_at_call 19; ((with_reducible refine (HZ.out _).mono ?_); rintro _ w1 ⟨vz, rfl, S⟩; replace I := I.then1 S; clear S)) | (go_at_call 23; ((with_reducible refine (ref03_Same vz _ b b _ (I.slv (by first | (with_reducible repeat (first | exact .here | apply At.there)); done | repeat (first | exact .here | apply At.there)) encB_len) (HV.out.frF I.fr)).mono ?_); rintro _ w1 ⟨rfl, hf⟩; replace I := I.still hf.fr; clear hf; rw [beq_self_eq_true])))
        all_goals try omega
        go_ret
        exact ⟨rfl, I.fr⟩
      · have hgb : (g != 0) = true := by simpa using hg
        clear hg
        go_enter Try.func4, Try.ntmps4
        try dsimp only [List.append]
        go_wp2_with (first | (first | ((with_reducible refine gguard ?_); (first | refine w_guardT (by rfl) (fun hb => ?_) (fun hb => ?_) | refine w_guardF (by rfl) (fun hb => ?_) (fun hb => ?_)) <;> first | (cases hb; done) | cases hb | ((try rw [hb]) <;> (try simp at hb) <;> go_prune <;> (try (with_reducible replace hb := eqPair hb)))) | (((with_reducible refine gbox ?_); first | refine w_boxA I (by rfl) ?_ | refine w_box1 I (by (conv => lhs; whnf) <;> rfl) (by rfl) ?_); clear I; intro g w I) | ((with_reducible refine galloc ?_); refine w_alloc I ?_; clear I; intro g w I) | ((with_reducible refine gload ?_); first | refine w_loadB I (by rfl) (by first | (with_reducible repeat (first | exact .here | apply At.there)); done | repeat (first | exact .here | apply At.there)) (by rfl) ?_ | refine w_loadBR I (by rfl) (by first | (with_reducible repeat (first | exact .here | apply At.there)); done | repeat (first | exact .here | apply At.there)) (by rfl) ?_ | refine w_load0 I (by rfl) (by assumption) ?_) | ((with_reducible refine gstore ?_); (first | refine w_storeB I (by rfl) (by (conv => lhs; whnf) <;> rfl) (by first | (with_reducible repeat (first | exact .here | apply Upd.there)); done | repeat (first | exact .here | apply Upd.there)) (by rfl) (by rfl) (by simp only [List.set_cons_zero, List.set_cons_succ] <;> rfl) ?_ | refine w_storeBR I (by rfl) (by rfl) (by first | (with_reducible repeat (first | exact .here | apply Upd.there)); done | repeat (first | exact .here | apply Upd.there)) (by rfl) (by rfl) (by rfl) ?_); clear I; intro w I)) | (go_at_call 18; go_must (refine (ref17_Right c _).mono ?_; rintro _ w1 ⟨rfl, hf⟩; replace I := I.still hf; clear hf; rw [HR.out])) | (go_at_call 24; go_must (refine (cert_Right c _).mono ?_; rintro _ w1 ⟨rfl, hf⟩; replace I := I.still hf; clear hf; rw [HR.out])) | (go_at_call 19; ((with_reducible refine (HX.out _).mono ?_); rintro _ w1 ⟨vx, rfl, S⟩; replace I := I.then1 S; clear S)) | (go_at_call 20; ((with_reducible refine (HY.out _).mono ?_); rintro _ w1 ⟨vy, rfl, S⟩; replace I := I.then1 S; clear S)) | (go_at_call 21; ((with_reducible refine (HD.out _ I.fr).mono ?_); rintro _ w1 ⟨rfl, hf⟩; replace I := I.still hf; clear hf)) | (go_at_call 22; go_must (refine (HF.out _ I.fr).mono ?_; rintro _ w1 ⟨rfl, hf⟩; replace I := I.still hf; clear hf)) | (go_at_call 23; ((with_reducible refine (ref03_Same vx vy x x _ (I.slv (by first | (with_reducible repeat (first | exact .here | apply At.there)); done | repeat (first | exact .here | apply At.there)) encB_len) (I.slv (by first | (with_reducible repeat (first | exact .here | apply At.there)); done | repeat (first | exact .here | apply At.there)) encB_len)).mono ?_); rintro _ w1 ⟨rfl, hf⟩; replace I := I.still hf.fr; clear hf; rw [beq_self_eq_true])) | (go_at_call 17; go_must (refine (law17_alive _).mono ?_; rintro _ w1 ⟨rfl, hf⟩; replace I := I.still hf; clear hf)) | (go_at_call 21; ((with_reducible refine (decode_is vx x c 0 _ (I.slv (by first | (with_reducible repeat (first | exact .here | apply At.there)); done | repeat (first | exact .here | apply At.there)) encB_len) HXL.out HDX.out).mono ?_); rintro _ w1 ⟨rfl, hf⟩; replace I := I.still hf; clear hf)))
        all_goals try omega
        go_ret
        exact ⟨rfl, I.fr⟩

set_option maxRecDepth 100000 in
theorem walk {H : Type} {enc : TypeId × Value → H} (W : World) (base : Nat) (args : Array Value) (ds : List (DataW H)) (ps : List MemPlace) (hval : ∀ (j : Nat) t v, Try.f4.params[j]? = some t → args[j]? = some v → Value.okWide Try.prog W .any base t v)
    (hA : DataW.TrodAll enc Try.prog W 0 (fun _ => true) true Try.f4.params.toList args.toList ds ps) : Calls Try.prog 4 args W fun e W' => e = .returned (.bool true) ∧ Fr W W' := by
  rw [Try.params4] at hA
  obtain ⟨v0, vs0, d0, ds0, p0, q0, hargs, rfl, rfl, h0, r0⟩ := trodAll_cons hA
  obtain ⟨v1, vs1, d1, ds1, p1, q1, rfl, rfl, rfl, h1, r1⟩ := trodAll_cons r0
  obtain ⟨rfl, rfl, rfl⟩ := trodAll_nil r1
  obtain rfl : args = #[v0, v1] := by cases args; simp_all
  rw [Try.params4] at hval
  obtain ⟨c, rfl⟩ := open_cert (hval 0 _ v0 rfl rfl) h0
  obtain ⟨l, h⟩ := open_slv_arg Try.underlying39 (hval 1 _ v1 rfl rfl) h1 opens_bytes
  exact law c v1 l W h

theorem own : ownKnob Try.prog.godebug = none := by kernel_rfl

set_option maxRecDepth 100000 in
theorem lifted (os : Os) (started : os.Started) (H : Type) (enc : TypeId × Value → H) :
    ReturnsInHanded {} Try.checked os 4 .any (Rows.certTellsSpec.pre6 enc Try.prog Try.f4 Rows.certTellsRow.domain false) (Rows.certTellsSpec.post enc Try.prog Try.f4 false true false false) :=
  Hf.law_lifted (C := Try.checked) own started (by kernel_rfl) Try.func4
    (ChangeSpec.witness6 (enc := enc) (C := Try.checked) false ⟨#[], #[aggC Crt.zero, .slice none 0 0], []⟩ 8 (by kernel_rfl) (by kernel_rfl) (by kernel_rfl) (by kernel_rfl))
    rfl (by kernel_rfl) Try.underlying4 (by kernel_rfl) (by kernel_rfl)
    (by intro ds h; rw [Try.params4] at h; match ds, h with | [_, _], _ => rfl) walk

theorem over : Rows.certTellsRow.holds Try.pinned (OpenSpec.ofChange Rows.certTellsSpec) :=
  OpenClaim.holds_of_wide 4 Try.f4 rfl rfl rfl rfl rfl rfl rfl ⟨rfl, rfl, rfl, rfl, rfl⟩ rfl rfl rfl rfl rfl (by kernel_rfl) Try.func4 (by kernel_rfl)
    (of_decide_eq_true (by kernel_rfl)) (by unfold Func.isWrapper; first | (rw [if_pos (by decide +kernel)]; kernel_rfl) | (rw [if_neg (by decide +kernel)]; exact ⟨rfl, rfl⟩))
    (fun os started H enc _ => lifted os started H enc)

/-- The statement. -/
theorem proved : Rows.CertTellsSaid := over
#print axioms proved
end Go.Proofs.Ytpnpgeilhafepaa.certTells
