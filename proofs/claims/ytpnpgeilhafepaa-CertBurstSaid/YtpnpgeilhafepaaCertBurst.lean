
/- CertBurst: the bytes of any certificate that may be, of which any bits are turned, one at least, within 16 in a row, at any place, are ErrSum. -/
import Derived.Test.YtpnpgeilhafepaaCrtA
import Derived.Test.YtpnpgeilhafepaaCrtO
import Derived.Test.YtpnpgeilhafepaaFrame
namespace Go.Proofs.Ytpnpgeilhafepaa.certBurst
open Go.ChangeShapes Go.WideShapes Go.ChangeAt Go.RowKit Go.Hf
open Go.ChangeMaps (open_string shut_string)

theorem half (b k : Nat) : b / 2 ^ (k + 1) = b / 2 ^ k / 2 := by rw [Nat.pow_succ, Nat.div_div_eq_div_mul]
theorem decode_turned (c : Cert) (p burst : Nat) (hp : p < 513) (hb : burst < 65536) (h0 : burst ≠ 0) : Crt.decode (Crc.turned (Crc.sealed (Crt.raw c)) p burst 16) = (⟨0, 0, 0, 0, 0, 0, 0, 0⟩, 3) := by
  have hl : (Crc.sealed (Crt.raw c)).length = 66 := by rw [Crc.sealed_len, Crt.raw_len]
  have hg := Crc.good_turned (Crt.raw c) p burst (by omega) hb
  rw [decide_eq_false h0] at hg
  unfold Crt.decode
  rw [if_neg (by rw [Crc.turned_length, hl]; simp), if_pos hg]
  rfl

set_option maxRecDepth 100000 in
set_option maxHeartbeats 8000000 in
theorem law (c : Cert) (at_ burst : Nat) (w0 : World) (ha : at_ < 65536) (hb : burst < 65536) :
    Calls Try.prog 6 #[aggC c, .int .u16 (at_ : Int), .int .u16 (burst : Int)] w0 fun en w' => en = .returned (.bool true) ∧ Fr w0 w' := by
  have I := St.refl w0
  cases hr : Crt.right c with
  | false =>
    have HR := Lib.hid hr
    clear hr
    go_enter Try.func6, Try.ntmps6
    try dsimp only [List.append]
    go_wp2_with (first | (first | ((with_reducible refine gguard ?_); (first | refine w_guardT (by rfl) (fun hb => ?_) (fun hb => ?_) | refine w_guardF (by rfl) (fun hb => ?_) (fun hb => ?_)) <;> first | (cases hb; done) | cases hb | ((try rw [hb]) <;> (try simp at hb) <;> go_prune <;> (try (with_reducible replace hb := eqPair hb)))) | (((with_reducible refine gbox ?_); first | refine w_boxA I (by rfl) ?_ | refine w_box1 I (by (conv => lhs; whnf) <;> rfl) (by rfl) ?_); clear I; intro g w I) | ((with_reducible refine galloc ?_); refine w_alloc I ?_; clear I; intro g w I) | ((with_reducible refine gload ?_); first | refine w_loadB I (by rfl) (by first | (with_reducible repeat (first | exact .here | apply At.there)); done | repeat (first | exact .here | apply At.there)) (by rfl) ?_ | refine w_loadBR I (by rfl) (by first | (with_reducible repeat (first | exact .here | apply At.there)); done | repeat (first | exact .here | apply At.there)) (by rfl) ?_ | refine w_load0 I (by rfl) (by assumption) ?_) | ((with_reducible refine gstore ?_); (first | refine w_storeB I (by rfl) (by (conv => lhs; whnf) <;> rfl) (by first | (with_reducible repeat (first | exact .here | apply Upd.there)); done | repeat (first | exact .here | apply Upd.there)) (by rfl) (by rfl) (by simp only [List.set_cons_zero, List.set_cons_succ] <;> rfl) ?_ | refine w_storeBR I (by rfl) (by rfl) (by first | (with_reducible repeat (first | exact .here | apply Upd.there)); done | repeat (first | exact .here | apply Upd.there)) (by rfl) (by rfl) (by rfl) ?_); clear I; intro w I)) | (go_at_call 18; go_must (refine (ref17_Right c _).mono ?_; rintro _ w1 ⟨rfl, hf⟩; replace I := I.still hf; clear hf; rw [HR.out])) | (go_at_call 17; go_must (refine (law17_alive _).mono ?_; rintro _ w1 ⟨rfl, hf⟩; replace I := I.still hf; clear hf)))
    go_ret
    exact ⟨rfl, I.fr⟩
  | true =>
    have HR := Lib.hid hr
    have hx : Crt.encode c = (Crc.sealed (Crt.raw c), 0) := by unfold Crt.encode; rw [hr]; rfl
    clear hr
    by_cases h0 : burst = 0
    · have hb0 : ((burst : Int) == 0) = true := by simp [h0]
      clear h0
      go_enter Try.func6, Try.ntmps6
      try dsimp only [List.append]
      go_wp2_with (first | (first | ((with_reducible refine gguard ?_); (first | refine w_guardT (by rfl) (fun hb => ?_) (fun hb => ?_) | refine w_guardF (by rfl) (fun hb => ?_) (fun hb => ?_)) <;> first | (cases hb; done) | cases hb | ((try rw [hb]) <;> (try simp at hb) <;> go_prune <;> (try (with_reducible replace hb := eqPair hb)))) | (((with_reducible refine gbox ?_); first | refine w_boxA I (by rfl) ?_ | refine w_box1 I (by (conv => lhs; whnf) <;> rfl) (by rfl) ?_); clear I; intro g w I) | ((with_reducible refine galloc ?_); refine w_alloc I ?_; clear I; intro g w I) | ((with_reducible refine gload ?_); first | refine w_loadB I (by rfl) (by first | (with_reducible repeat (first | exact .here | apply At.there)); done | repeat (first | exact .here | apply At.there)) (by rfl) ?_ | refine w_loadBR I (by rfl) (by first | (with_reducible repeat (first | exact .here | apply At.there)); done | repeat (first | exact .here | apply At.there)) (by rfl) ?_ | refine w_load0 I (by rfl) (by assumption) ?_) | ((with_reducible refine gstore ?_); (first | refine w_storeB I (by rfl) (by (conv => lhs; whnf) <;> rfl) (by first | (with_reducible repeat (first | exact .here | apply Upd.there)); done | repeat (first | exact .here | apply Upd.there)) (by rfl) (by rfl) (by simp only [List.set_cons_zero, List.set_cons_succ] <;> rfl) ?_ | refine w_storeBR I (by rfl) (by rfl) (by first | (with_reducible repeat (first | exact .here | apply Upd.there)); done | repeat (first | exact .here | apply Upd.there)) (by rfl) (by rfl) (by rfl) ?_); clear I; intro w I)) | (go_at_call 18; go_must (refine (ref17_Right c _).mono ?_; rintro _ w1 ⟨rfl, hf⟩; replace I := I.still hf; clear hf; rw [HR.out])) | (go_at_call 17; go_must (refine (law17_alive _).mono ?_; rintro _ w1 ⟨rfl, hf⟩; replace I := I.still hf; clear hf)))
      go_ret
      exact ⟨rfl, I.fr⟩
    · have hb0 : ((burst : Int) == 0) = false := by simp [h0]
      have HGT := Lib.hid (fun p hp => decode_turned c p burst hp hb h0)
      have HX := Lib.hid (fun wx => cert_Encode c wx)
      rw [hx] at HX
      dsimp only at HX
      have hSl : (Crc.sealed (Crt.raw c)).length = 66 := by rw [Crc.sealed_len, Crt.raw_len]
      generalize Crc.sealed (Crt.raw c) = S at HX HGT hSl
      have HSL := Lib.hid hSl
      have HSN : Hid (S ≠ []) := Lib.hid (by intro h; rw [h] at hSl; cases hSl)
      clear hx hSl h0
      obtain ⟨p, hpe⟩ : ∃ p : Nat, at_ % 513 = p := ⟨_, rfl⟩
      have hpz : (at_ : Int) % 513 = (p : Int) := by omega
      have hp : p < 513 := by omega
      clear hpe
      go_enter Try.func6, Try.ntmps6
      try dsimp only [List.append]
      go_wp2_with (first | (first | ((with_reducible refine gguard ?_); (first | refine w_guardT (by rfl) (fun hb => ?_) (fun hb => ?_) | refine w_guardF (by rfl) (fun hb => ?_) (fun hb => ?_)) <;> first | (cases hb; done) | cases hb | ((try rw [hb]) <;> (try simp at hb) <;> go_prune <;> (try (with_reducible replace hb := eqPair hb)))) | (((with_reducible refine gbox ?_); first | refine w_boxA I (by rfl) ?_ | refine w_box1 I (by (conv => lhs; whnf) <;> rfl) (by rfl) ?_); clear I; intro g w I) | ((with_reducible refine galloc ?_); refine w_alloc I ?_; clear I; intro g w I) | ((with_reducible refine gload ?_); first | refine w_loadB I (by rfl) (by first | (with_reducible repeat (first | exact .here | apply At.there)); done | repeat (first | exact .here | apply At.there)) (by rfl) ?_ | refine w_loadBR I (by rfl) (by first | (with_reducible repeat (first | exact .here | apply At.there)); done | repeat (first | exact .here | apply At.there)) (by rfl) ?_ | refine w_load0 I (by rfl) (by assumption) ?_) | ((with_reducible refine gstore ?_); (first | refine w_storeB I (by rfl) (by (conv => lhs; whnf) <;> rfl) (by first | (with_reducible repeat (first | exact .here | apply Upd.there)); done | repeat (first | exact .here | apply Upd.there)) (by rfl) (by rfl) (by simp only [List.set_cons_zero, List.set_cons_succ] <;> rfl) ?_ | refine w_storeBR I (by rfl) (by rfl) (by first | (with_reducible repeat (first | exact .here | apply Upd.there)); done | repeat (first | exact .here | apply Upd.there)) (by rfl) (by rfl) (by rfl) ?_); clear I; intro w I)) | (go_at_call 18; go_must (refine (ref17_Right c _).mono ?_; rintro _ w1 ⟨rfl, hf⟩; replace I := I.still hf; clear hf; rw [HR.out])) | (go_at_call 19; go_must (refine (HX.out _).mono ?_; rintro _ w1 ⟨vx, rfl, S1⟩; replace I := I.then1 S1; clear S1; obtain ⟨g2, c2, rfl, hg2, _, hgc2⟩ := (I.own .here).base_of HSN.out; rw [HSL.out] at I ⊢)))
      have h1 := I.own .here
      have HB := I.fr
      go_loopw [11, 12] (fun bi i wr => ∃ k : Nat, bi = .int .i64 ((burst / 2 ^ k : Nat) : Int) ∧ i = .int .i64 k ∧ k ≤ 16 ∧ Own w0.heap.size 5 1 encB wr (.slice (some ⟨g2, 0, none⟩) 66 c2) (Crc.turned S p burst k) ∧ Fr w0 wr) (fun _ i _ => 16 - (intOf i).toNat)
      case atStart => exact ⟨0, by simp, rfl, by omega, h1, HB⟩
      case round =>
        clear h1 HB I
        obtain ⟨k, rfl, rfl, hk, ho, hf⟩ := hrel
        rename World => wr
        have HO := Lib.hid ho
        clear ho
        by_cases hlt : k < 16
        · have HQL := Lib.hid (show burst / 2 ^ k ≤ 65536 from Nat.le_trans (Nat.div_le_self _ _) (by omega))
          have HD := Lib.hid (half burst k)
          have HT := Lib.hid (show Crc.turned S p burst (k + 1) = if burst / 2 ^ k % 2 = 1 then Crc.flip (Crc.turned S p burst k) (p + k) else Crc.turned S p burst k from rfl)
          have HTL := Lib.hid ((Crc.turned_length S p burst k).trans HSL.out)
          generalize burst / 2 ^ k = q at *
          generalize Crc.turned S p burst k = T at *
          have HbL : Hid (q ≤ 65536) := HQL.out
          by_cases hq : q % 2 = 1
          · have hq1 : ((q : Int) % 2 == 1) = true := by simp; omega
            have HQ := Lib.hid hq
            clear hq
            have hj : (p + k) / 8 < T.length := by rw [HTL.out]; omega
            have HJ := Lib.hid hj
            have hc := HO.out.cellB ((p + k) / 8) hj
            have hfz := HO.out.frozen ((p + k) / 8)
            have hgw : g2 < wr.heap.size := (HO.out.lt g2 rfl).2
            have HX := Lib.hid (fun h => Crc.xor_bit T[(p + k) / 8] ((p + k) % 8) h)
            have HF := Lib.hid (show Crc.flip T (p + k) = T.set ((p + k) / 8) (T[(p + k) / 8] ^^^ Crc.bit ((p + k) % 8)) from by unfold Crc.flip; rw [List.getD_eq_getElem?_getD, List.getElem?_eq_getElem hj, Option.getD_some]; rfl)
            have HSet := Lib.hid (fun x => HO.out.setB ((p + k) / 8) hj x)
            have hxlt := T[(p + k) / 8].toNat_lt
            generalize T[(p + k) / 8] = x at *
            have hql : (q : Int) ≤ 65536 := by have := HbL.out; omega
            have hjs : (p + k) / 8 < 66 := by rw [← HTL.out]; exact hj
            clear hj
            go_wp2_with fail
            go_loopw [14, 15] (fun bi n wq => ∃ j : Nat, bi = .int .u8 ((2 ^ j : Nat) : Int) ∧ n = .int .i64 j ∧ j ≤ 7 - (p + k) % 8 ∧ wq = wr) (fun _ n _ => 8 - (intOf n).toNat)
            case atStart => exact ⟨0, by simp, rfl, by omega, rfl⟩
            case round =>
              obtain ⟨j, rfl, rfl, hj7, rfl⟩ := hrel
              by_cases hjt : j < 7 - (p + k) % 8
              · have hp2 : 2 ^ j ≤ 64 := Nat.le_trans (Nat.pow_le_pow_right (by omega) (show j ≤ 6 by omega)) (by decide)
                have HP2 := Lib.hid (show 2 ^ (j + 1) = 2 * 2 ^ j from by rw [Nat.pow_succ]; omega)
                generalize 2 ^ j = P at *
                go_wp2_with fail
                go_roundw
                case rel => exact ⟨j + 1, by rw [HP2.out]; go_num, by go_num, by omega, by first | rfl | trivial⟩
                case measure => simp [intOf]; omega
              · obtain rfl : j = 7 - (p + k) % 8 := by omega
                have hp2 : 2 ^ (7 - (p + k) % 8) ≤ 128 := Nat.le_trans (Nat.pow_le_pow_right (by omega) (show 7 - (p + k) % 8 ≤ 7 by omega)) (by decide)
                have hp3 := Nat.two_pow_pos (7 - (p + k) % 8)
                replace HX := Lib.hid (HX.out (Nat.mod_lt _ (by omega)))
                generalize 2 ^ (7 - (p + k) % 8) = P at *
                by_cases hx : x.toNat / P % 2 = 1
                · rw [Hid, if_pos hx] at HX
                  have hxp : P ≤ x.toNat := by
                    rcases Nat.lt_or_ge x.toNat P with h | h
                    · rw [Nat.div_eq_of_lt h] at hx; simp at hx
                    · exact h
                  have HV : Hid (((x ^^^ Crc.bit ((p + k) % 8)).toNat : Int) = (x.toNat : Int) - (P : Int)) := by unfold Hid; omega
                  have HS2 := Lib.hid (HSet.out (x ^^^ Crc.bit ((p + k) % 8)))
                  rw [HV.out] at HS2
                  go_wp2_with fail
                  go_roundw
                  case rel => exact ⟨k + 1, by rw [HD.out]; go_num, by go_num, by omega, by rw [HT.out, if_pos HQ.out, HF.out]; exact HS2.out, hf.set hg2 _⟩
                  case measure => simp [intOf]; omega
                · rw [Hid, if_neg hx] at HX
                  have HV : Hid (((x ^^^ Crc.bit ((p + k) % 8)).toNat : Int) = (x.toNat : Int) + (P : Int)) := by unfold Hid; omega
                  have hxl2 := (x ^^^ Crc.bit ((p + k) % 8)).toNat_lt
                  have hxs : (x.toNat : Int) + (P : Int) ≤ 255 := by have := HV.out; omega
                  clear hxl2
                  have HS2 := Lib.hid (HSet.out (x ^^^ Crc.bit ((p + k) % 8)))
                  rw [HV.out] at HS2
                  have hx0 : ¬ (((x.toNat : Int) / (P : Int) % 2 == 1) = true) := by simp; omega
                  go_wp2_with fail
                  go_roundw
                  case rel => exact ⟨k + 1, by rw [HD.out]; go_num, by go_num, by omega, by rw [HT.out, if_pos HQ.out, HF.out]; exact HS2.out, hf.set hg2 _⟩
                  case measure => simp [intOf]; omega
          · have hq1 : ((q : Int) % 2 == 1) = false := by simp; omega
            have HQ := Lib.hid hq
            clear hq
            have hql : (q : Int) ≤ 65536 := by have := HbL.out; omega
            go_wp2_with fail
            go_roundw
            case rel => exact ⟨k + 1, by rw [HD.out]; go_num, by go_num, by omega, by rw [HT.out, if_neg HQ.out]; exact HO.out, hf⟩
            case measure => simp [intOf]; omega
        · obtain rfl : k = 16 := by omega
          have HG := Lib.hid (HGT.out p hp)
          have HTL := Lib.hid ((Crc.turned_length S p burst 16).trans HSL.out)
          have he := eq_cert ⟨0, 0, 0, 0, 0, 0, 0, 0⟩ ⟨0, 0, 0, 0, 0, 0, 0, 0⟩
          rw [decide_eq_true rfl] at he
          generalize Crc.turned S p burst 16 = T at *
          clear hb
          have I := St.refl wr
          go_wp2_with (first | (first | ((with_reducible refine gguard ?_); (first | refine w_guardT (by rfl) (fun hb => ?_) (fun hb => ?_) | refine w_guardF (by rfl) (fun hb => ?_) (fun hb => ?_)) <;> first | (cases hb; done) | cases hb | ((try rw [hb]) <;> (try simp at hb) <;> go_prune <;> (try (with_reducible replace hb := eqPair hb)))) | (((with_reducible refine gbox ?_); first | refine w_boxA I (by rfl) ?_ | refine w_box1 I (by (conv => lhs; whnf) <;> rfl) (by rfl) ?_); clear I; intro g w I) | ((with_reducible refine galloc ?_); refine w_alloc I ?_; clear I; intro g w I) | ((with_reducible refine gload ?_); first | refine w_loadB I (by rfl) (by first | (with_reducible repeat (first | exact .here | apply At.there)); done | repeat (first | exact .here | apply At.there)) (by rfl) ?_ | refine w_loadBR I (by rfl) (by first | (with_reducible repeat (first | exact .here | apply At.there)); done | repeat (first | exact .here | apply At.there)) (by rfl) ?_ | refine w_load0 I (by rfl) (by assumption) ?_) | ((with_reducible refine gstore ?_); (first | refine w_storeB I (by rfl) (by (conv => lhs; whnf) <;> rfl) (by first | (with_reducible repeat (first | exact .here | apply Upd.there)); done | repeat (first | exact .here | apply Upd.there)) (by rfl) (by rfl) (by simp only [List.set_cons_zero, List.set_cons_succ] <;> rfl) ?_ | refine w_storeBR I (by rfl) (by rfl) (by first | (with_reducible repeat (first | exact .here | apply Upd.there)); done | repeat (first | exact .here | apply Upd.there)) (by rfl) (by rfl) (by rfl) ?_); clear I; intro w I)) | (go_at_call 17; go_must (refine (law17_alive _).mono ?_; rintro _ w1 ⟨rfl, hf2⟩; replace I := I.still hf2; clear hf2)) | (go_at_call 21; go_must (refine (decode_is _ T _ _ _ ((HO.out.slv encB_len).frF I.fr) (by rw [HTL.out]; decide) HG.out).mono ?_; rintro _ w1 ⟨rfl, hf2⟩; replace I := I.still hf2; clear hf2)))
          go_ret
          exact ⟨rfl, hf.trans I.fr⟩

set_option maxRecDepth 100000 in
theorem walk {H : Type} {enc : TypeId × Value → H} (W : World) (base : Nat) (args : Array Value) (ds : List (DataW H)) (ps : List MemPlace) (hval : ∀ (j : Nat) t v, Try.f6.params[j]? = some t → args[j]? = some v → Value.okWide Try.prog W .any base t v)
    (hA : DataW.TrodAll enc Try.prog W 0 (fun _ => true) true Try.f6.params.toList args.toList ds ps) : Calls Try.prog 6 args W fun e W' => e = .returned (.bool true) ∧ Fr W W' := by
  rw [Try.params6] at hA
  obtain ⟨v0, vs0, d0, ds0, p0, q0, hargs, rfl, rfl, h0, r0⟩ := trodAll_cons hA
  obtain ⟨v1, vs1, d1, ds1, p1, q1, rfl, rfl, rfl, h1, r1⟩ := trodAll_cons r0
  obtain ⟨v2, vs2, d2, ds2, p2, q2, rfl, rfl, rfl, h2, r2⟩ := trodAll_cons r1
  obtain ⟨rfl, rfl, rfl⟩ := trodAll_nil r2
  obtain rfl : args = #[v0, v1, v2] := by cases args; simp_all
  rw [Try.params6] at hval
  obtain ⟨c, rfl⟩ := open_cert (hval 0 _ v0 rfl rfl) h0
  obtain ⟨a1, rfl, rfl, rfl, w1⟩ := open_int Try.underlying23 (hval 1 _ v1 rfl rfl) h1
  obtain ⟨a2, rfl, rfl, rfl, w2⟩ := open_int Try.underlying23 (hval 2 _ v2 rfl rfl) h2
  have b1 : 0 ≤ a1 ∧ a1 ≤ 65535 := by simpa [Lit.wf, IntKind.min, IntKind.max, IntKind.signed, IntKind.bits] using w1
  have b2 : 0 ≤ a2 ∧ a2 ≤ 65535 := by simpa [Lit.wf, IntKind.min, IntKind.max, IntKind.signed, IntKind.bits] using w2
  obtain ⟨n1, rfl⟩ := Int.eq_ofNat_of_zero_le b1.1
  obtain ⟨n2, rfl⟩ := Int.eq_ofNat_of_zero_le b2.1
  exact law c n1 n2 W (by omega) (by omega)

theorem own : ownKnob Try.prog.godebug = none := by kernel_rfl

set_option maxRecDepth 100000 in
theorem lifted (os : Os) (started : os.Started) (H : Type) (enc : TypeId × Value → H) :
    ReturnsInHanded {} Try.checked os 6 .any (Rows.certBurstSpec.pre6 enc Try.prog Try.f6 Rows.certBurstRow.domain false) (Rows.certBurstSpec.post enc Try.prog Try.f6 false true false false) :=
  Hf.law_lifted (C := Try.checked) own started (by kernel_rfl) Try.func6
    (ChangeSpec.witness6 (enc := enc) (C := Try.checked) false ⟨#[], #[aggC Crt.zero, .int .u16 0, .int .u16 0], []⟩ 8 (by kernel_rfl) (by kernel_rfl) (by kernel_rfl) (by kernel_rfl))
    rfl (by kernel_rfl) Try.underlying4 (by kernel_rfl) (by kernel_rfl)
    (by intro ds h; rw [Try.params6] at h; match ds, h with | [_, _, _], _ => rfl) walk

theorem over : Rows.certBurstRow.holds Try.pinned (OpenSpec.ofChange Rows.certBurstSpec) :=
  OpenClaim.holds_of_wide 6 Try.f6 rfl rfl rfl rfl rfl rfl rfl ⟨rfl, rfl, rfl, rfl, rfl⟩ rfl rfl rfl rfl rfl (by kernel_rfl) Try.func6 (by kernel_rfl)
    (of_decide_eq_true (by kernel_rfl)) (by unfold Func.isWrapper; first | (rw [if_pos (by decide +kernel)]; kernel_rfl) | (rw [if_neg (by decide +kernel)]; exact ⟨rfl, rfl⟩))
    (fun os started H enc _ => lifted os started H enc)

/-- The statement. -/
theorem proved : Rows.CertBurstSaid := over
#print axioms proved
end Go.Proofs.Ytpnpgeilhafepaa.certBurst
