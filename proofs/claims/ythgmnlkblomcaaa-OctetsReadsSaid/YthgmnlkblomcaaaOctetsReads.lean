/- OctetsReads: any things, at most 100, read of any bytes, at most 1000: each answer, what is left, and the error are as the reference's; a reader that is nil: ErrArg, 0, false, nothing. -/
import Derived.Test.YthgmnlkblomcaaaOctB
namespace Go.Proofs.Ythgmnlkblomcaaa.octetsReads
open Go.ChangeShapes Go.WideShapes Go.ChangeAt Go.RowKit Go.Hf

set_option maxRecDepth 100000 in
set_option maxHeartbeats 4000000 in
theorem law (vb v : Value) (bs : List UInt8) (l : List Thing) (w0 : World) (hB : Bytes w0 vb bs) (h : Things w0 v l) :
    Calls Try.prog 13 #[vb, v] w0 fun en w' => en = .returned (.bool true) ∧ Fr w0 w' := by
  have HV := Lib.hid hB
  obtain ⟨Ab, _, cb, rfl, rfl, hmb, hcb, _, _⟩ := hB
  obtain ⟨A, _, c, rfl, rfl, hmc, hcm, hA0, hs⟩ := h
  unfold maxLen at hcm hcb
  have HS := Lib.hid hs
  clear hs hA0
  have I := St.refl w0
  by_cases hg : 1000 < (bs.length : Int) ∨ 100 < (l.length : Int)
  · by_cases h1 : 1000 < (bs.length : Int)
    · clear hg
      go_enter Try.func13, Try.ntmps13
      try dsimp only [List.append]
      go_wp2_with (go_at_call 64; go_must (refine (law04_alive _).mono ?_; rintro _ w1 ⟨rfl, hf⟩))
      go_ret
      exact ⟨rfl, hf⟩
    · have h2 : 100 < (l.length : Int) := by omega
      clear hg
      go_enter Try.func13, Try.ntmps13
      try dsimp only [List.append]
      go_wp2_with (go_at_call 64; go_must (refine (law04_alive _).mono ?_; rintro _ w1 ⟨rfl, hf⟩))
      go_ret
      exact ⟨rfl, hf⟩
  · have h1 : ¬ 1000 < (bs.length : Int) := by omega
    have h2 : ¬ 100 < (l.length : Int) := by omega
    clear hg
    go_enter Try.func13, Try.ntmps13
    try dsimp only [List.append]
    go_upto_region 5 with (first | (first | ((with_reducible refine gguard ?_); (first | refine w_guardT (by rfl) (fun hb => ?_) (fun hb => ?_) | refine w_guardF (by rfl) (fun hb => ?_) (fun hb => ?_)) <;> first | (cases hb; done) | cases hb | ((try rw [hb]) <;> (try simp at hb) <;> go_prune <;> (try (with_reducible replace hb := eqPair hb)))) | (((with_reducible refine gbox ?_); first | refine w_boxA I (by rfl) ?_ | refine w_box1 I (by (conv => lhs; whnf) <;> rfl) (by rfl) ?_); clear I; intro g w I) | ((with_reducible refine galloc ?_); refine w_alloc I ?_; clear I; intro g w I) | ((with_reducible refine gload ?_); first | refine w_loadB I (by rfl) (by first | (with_reducible repeat (first | exact .here | apply At.there)); done | repeat (first | exact .here | apply At.there)) (by rfl) ?_ | refine w_loadBR I (by rfl) (by first | (with_reducible repeat (first | exact .here | apply At.there)); done | repeat (first | exact .here | apply At.there)) (by rfl) ?_ | refine w_load0 I (by rfl) (by assumption) ?_) | ((with_reducible refine gstore ?_); (first | refine w_storeB I (by rfl) (by (conv => lhs; whnf) <;> rfl) (by first | (with_reducible repeat (first | exact .here | apply Upd.there)); done | repeat (first | exact .here | apply Upd.there)) (by rfl) (by rfl) (by simp only [List.set_cons_zero, List.set_cons_succ] <;> rfl) ?_ | refine w_storeBR I (by rfl) (by rfl) (by first | (with_reducible repeat (first | exact .here | apply Upd.there)); done | repeat (first | exact .here | apply Upd.there)) (by rfl) (by rfl) (by rfl) ?_); clear I; intro w I)) | (go_at_call 75; go_must (refine (octets_NewReader _ bs (by omega) _ _ _ I HV.out).mono ?_; rintro _ w1 ⟨gr, rfl, I1⟩; clear I; have I := I1; clear I1)))
    obtain ⟨gm, rfl⟩ : ∃ y : Nat, y = g := ⟨_, rfl⟩
    have I0 : St w0 w [Re gr (bs, 0), RRe gm (.slice Ab bs.length cb) bs (bs, 0)] := (RRe.mk (p := 0) (e := 0) I .here (by omega) rfl).take (by first | (with_reducible repeat (first | exact .here | apply At.there)); done | repeat (first | exact .here | apply At.there))
    clear I
    go_wp2_with fail
    go_loopw [7] (fun i wr => ∃ (k : Nat) (s : List UInt8 × Int), i = .int .i64 k ∧ k ≤ l.length ∧ s.1.length ≤ bs.length ∧ St w0 wr [Re gr s, RRe gm (.slice Ab bs.length cb) bs s]) (fun i _ => l.length - (intOf i).toNat)
    case atStart => exact ⟨0, (bs, 0), rfl, by omega, by simp, I0⟩
    case round =>
      clear I0
      obtain ⟨k, s, rfl, hk, hsl, I⟩ := hrel
      by_cases hlt : k < l.length
      · obtain ⟨b, o, A', c', rfl, h0, h1', h2', h3, h4, h5⟩ := atT HS.out k hlt
        have hbd : s.1.length ≤ 1000000 := by omega
        generalize l[k] = x at *
        have hkl : (k : Int) < (l.length : Int) := by omega
        clear h3 h4 h5 h1'
        have h4 : (x.kind.toNat : Int) % 4 = 0 ∨ (x.kind.toNat : Int) % 4 = 1 ∨ (x.kind.toNat : Int) % 4 = 2 ∨ (x.kind.toNat : Int) % 4 = 3 := by omega
        rcases h4 with h4 | h4 | h4 | h4
        · have hlen := Oct.num_left s x.size
          have HA := Lib.hid (octets_RNumA gr s x.size hbd w0)
          have HC := Lib.hid (ref04_RNum gm (.slice Ab bs.length cb) bs s x.size (by omega) w0)
          generalize Oct.num s x.size = q at HA HC hlen
          have f2 := fun w' (hf : Fr w0 w') => hf.cell h2'
          go_upto_region 12 with (first | ((with_reducible refine gguard ?_); (first | refine w_guardT (by rfl) (fun hb => ?_) (fun hb => ?_) | refine w_guardF (by rfl) (fun hb => ?_) (fun hb => ?_)) <;> first | (cases hb; done) | cases hb | ((try rw [hb]) <;> (try simp at hb) <;> go_prune <;> (try (with_reducible replace hb := eqPair hb)))) | (((with_reducible refine gbox ?_); first | refine w_boxA I (by rfl) ?_ | refine w_box1 I (by (conv => lhs; whnf) <;> rfl) (by rfl) ?_); clear I; intro g w I) | ((with_reducible refine galloc ?_); refine w_alloc I ?_; clear I; intro g w I) | ((with_reducible refine gload ?_); first | refine w_loadB I (by rfl) (by first | (with_reducible repeat (first | exact .here | apply At.there)); done | repeat (first | exact .here | apply At.there)) (by rfl) ?_ | refine w_loadBR I (by rfl) (by first | (with_reducible repeat (first | exact .here | apply At.there)); done | repeat (first | exact .here | apply At.there)) (by rfl) ?_ | refine w_load0 I (by rfl) (by assumption) ?_) | ((with_reducible refine gstore ?_); (first | refine w_storeB I (by rfl) (by (conv => lhs; whnf) <;> rfl) (by first | (with_reducible repeat (first | exact .here | apply Upd.there)); done | repeat (first | exact .here | apply Upd.there)) (by rfl) (by rfl) (by simp only [List.set_cons_zero, List.set_cons_succ] <;> rfl) ?_ | refine w_storeBR I (by rfl) (by rfl) (by first | (with_reducible repeat (first | exact .here | apply Upd.there)); done | repeat (first | exact .here | apply Upd.there)) (by rfl) (by rfl) (by rfl) ?_); clear I; intro w I))
          go_region_held3 (fun w' => Fr w0 w') (first | assumption | exact I.fr.drew | exact St.fr (by assumption)) (first | (go_at_call 76; go_must (refine (HA.out _ _ _ I.drew (by first | (with_reducible repeat (first | exact .here | apply At.there)); done | repeat (first | exact .here | apply At.there))).mono ?_; rintro _ w1 ⟨rfl, S1⟩)) | (go_at_call 77; go_must (refine (HC.out _ _ _ HV.out S1 (by first | (with_reducible repeat (first | exact .here | apply At.there)); done | repeat (first | exact .here | apply At.there))).mono ?_; rintro _ w1 ⟨rfl, S2⟩)))
          replace I := S2.take (A := Re gr q.2) (by first | (with_reducible repeat (first | exact .here | apply At.there)); done | repeat (first | exact .here | apply At.there))
          clear S1 S2 f2
          generalize q.1 = n at *
          generalize q.2 = s' at *
          clear HA HC
          go_wp2_with (first | (go_at_call 84; go_must (refine (octets_RLeft gr s' w0 _ _ _ I (by first | (with_reducible repeat (first | exact .here | apply At.there)); done | repeat (first | exact .here | apply At.there))).mono ?_; rintro _ w1 ⟨rfl, rfl⟩)) | (go_at_call 86; go_must (refine (octets_RDone gr s' w0 _ _ _ I (by first | (with_reducible repeat (first | exact .here | apply At.there)); done | repeat (first | exact .here | apply At.there))).mono ?_; rintro _ w1 ⟨rfl, rfl⟩)) | (go_at_call 85; go_must (refine (ref04_RLeft gm _ bs s' w0 _ _ _ HV.out I (by first | (with_reducible repeat (first | exact .here | apply At.there)); done | repeat (first | exact .here | apply At.there))).mono ?_; rintro _ w1 ⟨rfl, hf⟩; replace I := I.still hf.fr; clear hf)) | (go_at_call 87; go_must (refine (ref04_RDone gm _ bs s' w0 _ _ _ HV.out I (by first | (with_reducible repeat (first | exact .here | apply At.there)); done | repeat (first | exact .here | apply At.there))).mono ?_; rintro _ w1 ⟨rfl, hf⟩; replace I := I.still hf.fr; clear hf)))
          go_roundw
          case rel => exact ⟨k + 1, s', by go_num, by omega, by omega, I⟩
          case measure => simp [intOf]; omega
        · have hlen := (show (Oct.int s).2.1.length ≤ s.1.length from Oct.num_left s 8)
          have HA := Lib.hid (octets_RInt gr s hbd w0)
          have HC := Lib.hid (ref04_RInt gm (.slice Ab bs.length cb) bs s (by omega) w0)
          generalize Oct.int s = q at HA HC hlen
          go_upto_region 17 with (first | (first | ((with_reducible refine gguard ?_); (first | refine w_guardT (by rfl) (fun hb => ?_) (fun hb => ?_) | refine w_guardF (by rfl) (fun hb => ?_) (fun hb => ?_)) <;> first | (cases hb; done) | cases hb | ((try rw [hb]) <;> (try simp at hb) <;> go_prune <;> (try (with_reducible replace hb := eqPair hb)))) | (((with_reducible refine gbox ?_); first | refine w_boxA I (by rfl) ?_ | refine w_box1 I (by (conv => lhs; whnf) <;> rfl) (by rfl) ?_); clear I; intro g w I) | ((with_reducible refine galloc ?_); refine w_alloc I ?_; clear I; intro g w I) | ((with_reducible refine gload ?_); first | refine w_loadB I (by rfl) (by first | (with_reducible repeat (first | exact .here | apply At.there)); done | repeat (first | exact .here | apply At.there)) (by rfl) ?_ | refine w_loadBR I (by rfl) (by first | (with_reducible repeat (first | exact .here | apply At.there)); done | repeat (first | exact .here | apply At.there)) (by rfl) ?_ | refine w_load0 I (by rfl) (by assumption) ?_) | ((with_reducible refine gstore ?_); (first | refine w_storeB I (by rfl) (by (conv => lhs; whnf) <;> rfl) (by first | (with_reducible repeat (first | exact .here | apply Upd.there)); done | repeat (first | exact .here | apply Upd.there)) (by rfl) (by rfl) (by simp only [List.set_cons_zero, List.set_cons_succ] <;> rfl) ?_ | refine w_storeBR I (by rfl) (by rfl) (by first | (with_reducible repeat (first | exact .here | apply Upd.there)); done | repeat (first | exact .here | apply Upd.there)) (by rfl) (by rfl) (by rfl) ?_); clear I; intro w I)) | (go_at_call 78; go_must (refine (HA.out _ _ _ I (by first | (with_reducible repeat (first | exact .here | apply At.there)); done | repeat (first | exact .here | apply At.there))).mono ?_; rintro _ w1 ⟨rfl, S1⟩)) | (go_at_call 79; go_must (refine (HC.out _ _ _ HV.out S1 (by first | (with_reducible repeat (first | exact .here | apply At.there)); done | repeat (first | exact .here | apply At.there))).mono ?_; rintro _ w1 ⟨rfl, S2⟩)))
          replace I := S2.take (A := Re gr q.2) (by first | (with_reducible repeat (first | exact .here | apply At.there)); done | repeat (first | exact .here | apply At.there))
          clear S1 S2
          generalize q.1 = n at *
          generalize q.2 = s' at *
          clear HA HC
          go_wp2_with (first | (go_at_call 84; go_must (refine (octets_RLeft gr s' w0 _ _ _ I (by first | (with_reducible repeat (first | exact .here | apply At.there)); done | repeat (first | exact .here | apply At.there))).mono ?_; rintro _ w1 ⟨rfl, rfl⟩)) | (go_at_call 86; go_must (refine (octets_RDone gr s' w0 _ _ _ I (by first | (with_reducible repeat (first | exact .here | apply At.there)); done | repeat (first | exact .here | apply At.there))).mono ?_; rintro _ w1 ⟨rfl, rfl⟩)) | (go_at_call 85; go_must (refine (ref04_RLeft gm _ bs s' w0 _ _ _ HV.out I (by first | (with_reducible repeat (first | exact .here | apply At.there)); done | repeat (first | exact .here | apply At.there))).mono ?_; rintro _ w1 ⟨rfl, hf⟩; replace I := I.still hf.fr; clear hf)) | (go_at_call 87; go_must (refine (ref04_RDone gm _ bs s' w0 _ _ _ HV.out I (by first | (with_reducible repeat (first | exact .here | apply At.there)); done | repeat (first | exact .here | apply At.there))).mono ?_; rintro _ w1 ⟨rfl, hf⟩; replace I := I.still hf.fr; clear hf)))
          go_roundw
          case rel => exact ⟨k + 1, s', by go_num, by omega, by omega, I⟩
          case measure => simp [intOf]; omega
        · have hlen := Oct.bool_left s
          have HA := Lib.hid (octets_RBool gr s hbd w0)
          have HC := Lib.hid (ref04_RBool gm (.slice Ab bs.length cb) bs s (by omega) w0)
          generalize Oct.bool s = q at HA HC hlen
          go_upto_region 17 with (first | (first | ((with_reducible refine gguard ?_); (first | refine w_guardT (by rfl) (fun hb => ?_) (fun hb => ?_) | refine w_guardF (by rfl) (fun hb => ?_) (fun hb => ?_)) <;> first | (cases hb; done) | cases hb | ((try rw [hb]) <;> (try simp at hb) <;> go_prune <;> (try (with_reducible replace hb := eqPair hb)))) | (((with_reducible refine gbox ?_); first | refine w_boxA I (by rfl) ?_ | refine w_box1 I (by (conv => lhs; whnf) <;> rfl) (by rfl) ?_); clear I; intro g w I) | ((with_reducible refine galloc ?_); refine w_alloc I ?_; clear I; intro g w I) | ((with_reducible refine gload ?_); first | refine w_loadB I (by rfl) (by first | (with_reducible repeat (first | exact .here | apply At.there)); done | repeat (first | exact .here | apply At.there)) (by rfl) ?_ | refine w_loadBR I (by rfl) (by first | (with_reducible repeat (first | exact .here | apply At.there)); done | repeat (first | exact .here | apply At.there)) (by rfl) ?_ | refine w_load0 I (by rfl) (by assumption) ?_) | ((with_reducible refine gstore ?_); (first | refine w_storeB I (by rfl) (by (conv => lhs; whnf) <;> rfl) (by first | (with_reducible repeat (first | exact .here | apply Upd.there)); done | repeat (first | exact .here | apply Upd.there)) (by rfl) (by rfl) (by simp only [List.set_cons_zero, List.set_cons_succ] <;> rfl) ?_ | refine w_storeBR I (by rfl) (by rfl) (by first | (with_reducible repeat (first | exact .here | apply Upd.there)); done | repeat (first | exact .here | apply Upd.there)) (by rfl) (by rfl) (by rfl) ?_); clear I; intro w I)) | (go_at_call 80; go_must (refine (HA.out _ _ _ I (by first | (with_reducible repeat (first | exact .here | apply At.there)); done | repeat (first | exact .here | apply At.there))).mono ?_; rintro _ w1 ⟨rfl, S1⟩)) | (go_at_call 81; go_must (refine (HC.out _ _ _ HV.out S1 (by first | (with_reducible repeat (first | exact .here | apply At.there)); done | repeat (first | exact .here | apply At.there))).mono ?_; rintro _ w1 ⟨rfl, S2⟩)))
          replace I := S2.take (A := Re gr q.2) (by first | (with_reducible repeat (first | exact .here | apply At.there)); done | repeat (first | exact .here | apply At.there))
          clear S1 S2
          generalize q.1 = n at *
          generalize q.2 = s' at *
          clear HA HC
          go_wp2_with (first | (go_at_call 84; go_must (refine (octets_RLeft gr s' w0 _ _ _ I (by first | (with_reducible repeat (first | exact .here | apply At.there)); done | repeat (first | exact .here | apply At.there))).mono ?_; rintro _ w1 ⟨rfl, rfl⟩)) | (go_at_call 86; go_must (refine (octets_RDone gr s' w0 _ _ _ I (by first | (with_reducible repeat (first | exact .here | apply At.there)); done | repeat (first | exact .here | apply At.there))).mono ?_; rintro _ w1 ⟨rfl, rfl⟩)) | (go_at_call 85; go_must (refine (ref04_RLeft gm _ bs s' w0 _ _ _ HV.out I (by first | (with_reducible repeat (first | exact .here | apply At.there)); done | repeat (first | exact .here | apply At.there))).mono ?_; rintro _ w1 ⟨rfl, hf⟩; replace I := I.still hf.fr; clear hf)) | (go_at_call 87; go_must (refine (ref04_RDone gm _ bs s' w0 _ _ _ HV.out I (by first | (with_reducible repeat (first | exact .here | apply At.there)); done | repeat (first | exact .here | apply At.there))).mono ?_; rintro _ w1 ⟨rfl, hf⟩; replace I := I.still hf.fr; clear hf)))
          go_roundw
          case rel => exact ⟨k + 1, s', by go_num, by omega, by omega, I⟩
          case measure => simp [intOf]; omega
        · have hlen := Oct.run_left s
          have HA := Lib.hid (octets_RRun gr s hbd w0)
          have HC := Lib.hid (ref04_RRun gm (.slice Ab bs.length cb) bs s (by omega) w0)
          generalize Oct.run s = q at HA HC hlen
          go_upto_region 17 with (first | (first | ((with_reducible refine gguard ?_); (first | refine w_guardT (by rfl) (fun hb => ?_) (fun hb => ?_) | refine w_guardF (by rfl) (fun hb => ?_) (fun hb => ?_)) <;> first | (cases hb; done) | cases hb | ((try rw [hb]) <;> (try simp at hb) <;> go_prune <;> (try (with_reducible replace hb := eqPair hb)))) | (((with_reducible refine gbox ?_); first | refine w_boxA I (by rfl) ?_ | refine w_box1 I (by (conv => lhs; whnf) <;> rfl) (by rfl) ?_); clear I; intro g w I) | ((with_reducible refine galloc ?_); refine w_alloc I ?_; clear I; intro g w I) | ((with_reducible refine gload ?_); first | refine w_loadB I (by rfl) (by first | (with_reducible repeat (first | exact .here | apply At.there)); done | repeat (first | exact .here | apply At.there)) (by rfl) ?_ | refine w_loadBR I (by rfl) (by first | (with_reducible repeat (first | exact .here | apply At.there)); done | repeat (first | exact .here | apply At.there)) (by rfl) ?_ | refine w_load0 I (by rfl) (by assumption) ?_) | ((with_reducible refine gstore ?_); (first | refine w_storeB I (by rfl) (by (conv => lhs; whnf) <;> rfl) (by first | (with_reducible repeat (first | exact .here | apply Upd.there)); done | repeat (first | exact .here | apply Upd.there)) (by rfl) (by rfl) (by simp only [List.set_cons_zero, List.set_cons_succ] <;> rfl) ?_ | refine w_storeBR I (by rfl) (by rfl) (by first | (with_reducible repeat (first | exact .here | apply Upd.there)); done | repeat (first | exact .here | apply Upd.there)) (by rfl) (by rfl) (by rfl) ?_); clear I; intro w I)) | (go_at_call 82; go_must (refine (HA.out _ _ _ I (by first | (with_reducible repeat (first | exact .here | apply At.there)); done | repeat (first | exact .here | apply At.there))).mono ?_; rintro _ w1 ⟨Ar, mr, cr, rfl, S1⟩)) | (go_at_call 83; go_must (refine (HC.out _ _ _ HV.out S1 (by first | (with_reducible repeat (first | exact .here | apply At.there)); done | repeat (first | exact .here | apply At.there))).mono ?_; rintro _ w1 ⟨vr, rfl, hr, S2⟩)) | (go_at_call 26; go_must (refine (ref03_Same _ _ q.1 q.1 _ (S2.slv (by first | (with_reducible repeat (first | exact .here | apply At.there)); done | repeat (first | exact .here | apply At.there)) encB_len) (hr.frF S2.fr)).mono ?_; rintro _ w1 ⟨rfl, hf⟩; simp only [beq_self_eq_true]; replace S2 := S2.still hf.fr; clear hf)))
          replace I := (S2.take (A := Re gr q.2) (by first | (with_reducible repeat (first | exact .here | apply At.there)); done | repeat (first | exact .here | apply At.there)))
          replace I := I.drop (A := OwnS 5 1 encB (.slice Ar mr cr) q.1) (by first | (with_reducible repeat (first | exact .here | apply At.there)); done | repeat (first | exact .here | apply At.there))
          clear S1 S2
          generalize q.1 = n at *
          generalize q.2 = s' at *
          clear HA HC
          go_wp2_with (first | (go_at_call 84; go_must (refine (octets_RLeft gr s' w0 _ _ _ I (by first | (with_reducible repeat (first | exact .here | apply At.there)); done | repeat (first | exact .here | apply At.there))).mono ?_; rintro _ w1 ⟨rfl, rfl⟩)) | (go_at_call 86; go_must (refine (octets_RDone gr s' w0 _ _ _ I (by first | (with_reducible repeat (first | exact .here | apply At.there)); done | repeat (first | exact .here | apply At.there))).mono ?_; rintro _ w1 ⟨rfl, rfl⟩)) | (go_at_call 85; go_must (refine (ref04_RLeft gm _ bs s' w0 _ _ _ HV.out I (by first | (with_reducible repeat (first | exact .here | apply At.there)); done | repeat (first | exact .here | apply At.there))).mono ?_; rintro _ w1 ⟨rfl, hf⟩; replace I := I.still hf.fr; clear hf)) | (go_at_call 87; go_must (refine (ref04_RDone gm _ bs s' w0 _ _ _ HV.out I (by first | (with_reducible repeat (first | exact .here | apply At.there)); done | repeat (first | exact .here | apply At.there))).mono ?_; rintro _ w1 ⟨rfl, hf⟩; replace I := I.still hf.fr; clear hf)))
          go_roundw
          case rel => exact ⟨k + 1, s', by go_num, by omega, by omega, I⟩
          case measure => simp [intOf]; omega
      · obtain rfl : k = l.length := by omega
        have hkk : ¬ (l.length : Int) < (l.length : Int) := by omega
        go_wp2_with (first | (go_at_call 64; go_must (refine (law04_alive _).mono ?_; rintro _ w1 ⟨rfl, hf⟩; replace I := I.still hf; clear hf)) | (go_at_call 76; go_must (refine (nil_Num3 _).mono ?_; rintro _ w1 ⟨rfl, rfl⟩)) | (go_at_call 78; go_must (refine (nil_Int _).mono ?_; rintro _ w1 ⟨rfl, rfl⟩)) | (go_at_call 80; go_must (refine (nil_Bool _).mono ?_; rintro _ w1 ⟨rfl, rfl⟩)) | (go_at_call 82; go_must (refine (nil_Run _).mono ?_; rintro _ w1 ⟨rfl, rfl⟩)) | (go_at_call 84; go_must (refine (nil_Left _).mono ?_; rintro _ w1 ⟨rfl, rfl⟩)) | (go_at_call 86; go_must (refine (nil_Done _).mono ?_; rintro _ w1 ⟨rfl, rfl⟩)))
        go_ret
        exact ⟨rfl, I.fr⟩

set_option maxRecDepth 100000 in
theorem walk {H : Type} {enc : TypeId × Value → H} (W : World) (base : Nat) (args : Array Value) (ds : List (DataW H)) (ps : List MemPlace) (hval : ∀ (j : Nat) t v, Try.f13.params[j]? = some t → args[j]? = some v → Value.okWide Try.prog W .any base t v)
    (hA : DataW.TrodAll enc Try.prog W 0 (fun _ => true) true Try.f13.params.toList args.toList ds ps) : Calls Try.prog 13 args W fun e W' => e = .returned (.bool true) ∧ Fr W W' := by
  rw [Try.params13] at hA
  obtain ⟨v0, vs0, d0, ds0, p0, q0, hargs, rfl, rfl, h0, r0⟩ := trodAll_cons hA
  obtain ⟨v1, vs1, d1, ds1, p1, q1, rfl, rfl, rfl, h1, r1⟩ := trodAll_cons r0
  obtain ⟨rfl, rfl, rfl⟩ := trodAll_nil r1
  obtain rfl : args = #[v0, v1] := by cases args; simp_all
  rw [Try.params13] at hval
  obtain ⟨bs, hb⟩ := open_slv_arg Try.underlying35 (hval 0 _ v0 rfl rfl) h0 opens_bytes
  obtain ⟨l, h⟩ := open_slv_arg Try.underlying87 (hval 1 _ v1 rfl rfl) h1 opens_things
  exact law v0 v1 bs l W hb h

theorem own : ownKnob Try.prog.godebug = none := by kernel_rfl

set_option maxRecDepth 100000 in
theorem lifted (os : Os) (started : os.Started) (H : Type) (enc : TypeId × Value → H) :
    ReturnsInHanded {} Try.checked os 13 .any (Rows.octetsReadsSpec.pre6 enc Try.prog Try.f13 Rows.octetsReadsRow.domain false) (Rows.octetsReadsSpec.post enc Try.prog Try.f13 false true false false) :=
  Hf.law_lifted (C := Try.checked) own started (by kernel_rfl) Try.func13
    (ChangeSpec.witness6 (enc := enc) (C := Try.checked) false ⟨#[], #[.slice none 0 0, .slice none 0 0], []⟩ 8 (by kernel_rfl) (by kernel_rfl) (by kernel_rfl) (by kernel_rfl))
    rfl (by kernel_rfl) Try.underlying4 (by kernel_rfl) (by kernel_rfl)
    (by intro ds h; rw [Try.params13] at h; match ds, h with | [_, _], _ => rfl) walk

theorem over : Rows.octetsReadsRow.holds Try.pinned (OpenSpec.ofChange Rows.octetsReadsSpec) :=
  OpenClaim.holds_of_wide 13 Try.f13 rfl rfl rfl rfl rfl rfl rfl ⟨rfl, rfl, rfl, rfl, rfl⟩ rfl rfl rfl rfl rfl (by kernel_rfl) Try.func13 (by kernel_rfl)
    (of_decide_eq_true (by kernel_rfl)) (by unfold Func.isWrapper; first | (rw [if_pos (by decide +kernel)]; kernel_rfl) | (rw [if_neg (by decide +kernel)]; exact ⟨rfl, rfl⟩))
    (fun os started H enc _ => lifted os started H enc)

/-- The statement. -/
theorem proved : Rows.OctetsReadsSaid := over
#print axioms proved
end Go.Proofs.Ythgmnlkblomcaaa.octetsReads
