
/- Numbers that stop at the most (layer 2): products, what is taken away; the reference's. -/
import Derived.Test.YtpnpgeilhafepaaDoorSatP
import Derived.Test.YtpnpgeilhafepaaDoorStN
import Derived.Test.YtpnpgeilhafepaaDoorTypes
import Derived.Deep.CutBlock
namespace Go.Proofs.YtpnpgeilhafepaaDoor
open Go.RowKit Go.Hf

theorem ref02_Less (a b : Int) (w : World) : Calls Tryd.prog 25 #[.int .i64 a, .int .i64 b] w fun e w' => e = .returned (.int .i64 (Sat.less a b)) ∧ w = w' := by
  rw [Sat.less_by]
  have a0 := Sat.fit_ge a
  have b0 := Sat.fit_ge b
  have a1 := Sat.fit_le a
  have b1 := Sat.fit_le b
  by_cases h : Sat.fit a < Sat.fit b
  · rw [if_pos h]
    go_enter Tryd.func25, Tryd.ntmps25
    go_wp2_with (go_at_call 21; go_must (refine (ref02_Fit _ _).mono ?_; rintro _ w1 ⟨rfl, rfl⟩))
    go_ret
    exact ⟨rfl, rfl⟩
  · rw [if_neg h]
    go_enter Tryd.func25, Tryd.ntmps25
    go_wp2_with (go_at_call 21; go_must (refine (ref02_Fit _ _).mono ?_; rintro _ w1 ⟨rfl, rfl⟩))
    all_goals first | (go_ret; exact ⟨rfl, rfl⟩) | omega
theorem sat_Less (a b : Int) (w : World) : Calls Tryd.prog 24 #[.int .i64 a, .int .i64 b] w fun e w' => e = .returned (.int .i64 (Sat.less a b)) ∧ w = w' := by
  have a0 := Sat.fit_ge a
  have b0 := Sat.fit_ge b
  have a1 := Sat.fit_le a
  have b1 := Sat.fit_le b
  unfold Sat.less
  go_enter Tryd.func24, Tryd.ntmps24
  go_wp2_with (go_at_call 20; go_must (refine (sat_Fit _ _).mono ?_; rintro _ w1 ⟨rfl, rfl⟩))
  go_ret
  exact ⟨rfl, rfl⟩
theorem ref02_Mul (a b : Int) (w : World) : Calls Tryd.prog 23 #[.int .i64 a, .int .i64 b] w fun e w' => e = .returned (.int .i64 (Sat.mul a b)) ∧ w = w' := by
  have HM := Lib.hid (Sat.mul_by a b)
  have HL := Lib.hid (Sat.mul_le a b)
  obtain ⟨r, hr⟩ : ∃ r, Sat.mul a b = r := ⟨_, rfl⟩
  rw [hr] at HM HL ⊢
  clear hr
  have a0 := Sat.fit_ge a
  have b0 := Sat.fit_ge b
  have a1 := Sat.fit_le a
  have b1 := Sat.fit_le b
  have HFa := Lib.hid (ref02_Fit a w)
  have HFb := Lib.hid (ref02_Fit b w)
  generalize Sat.fit a = x at *
  generalize Sat.fit b = y at *
  by_cases hx : x = 0
  · have HE : Hid (r = 0) := Lib.hid (by rw [HM.out, if_pos (.inl hx)])
    have hxb : (x == 0) = true := by simpa using hx
    clear HM HL hx
    go_enter Tryd.func23, Tryd.ntmps23
    go_wp2_with (first | (go_at_call 21; ((with_reducible refine (HFa.out).mono ?_); rintro _ w1 ⟨rfl, rfl⟩)) | (go_at_call 21; ((with_reducible refine (HFb.out).mono ?_); rintro _ w1 ⟨rfl, rfl⟩)))
    go_ret
    exact ⟨by rw [HE.out]; rfl, rfl⟩
  · have hxb : (x == 0) = false := by simpa using hx
    by_cases hy : y = 0
    · have HE : Hid (r = 0) := Lib.hid (by rw [HM.out, if_pos (.inr hy)])
      have hyb : (y == 0) = true := by simpa using hy
      clear HM HL hx hy
      go_enter Tryd.func23, Tryd.ntmps23
      go_wp2_with (first | (go_at_call 21; ((with_reducible refine (HFa.out).mono ?_); rintro _ w1 ⟨rfl, rfl⟩)) | (go_at_call 21; ((with_reducible refine (HFb.out).mono ?_); rintro _ w1 ⟨rfl, rfl⟩)))
      go_ret
      exact ⟨by rw [HE.out]; rfl, rfl⟩
    · have hyb : (y == 0) = false := by simpa using hy
      have hyp : 0 < y := by omega
      have hM2 : r = if 4611686018427387904 / y < x then 4611686018427387904 else x * y := by rw [HM.out, if_neg (by omega)]
      have hdiv : (4611686018427387904 : Int).tdiv y = 4611686018427387904 / y := Int.tdiv_eq_ediv_of_nonneg (by omega)
      have hd0 : 0 ≤ 4611686018427387904 / y := Int.ediv_nonneg (by omega) (by omega)
      have hd1 : 4611686018427387904 / y ≤ 4611686018427387904 := Int.ediv_le_self _ (by omega)
      have HD := Lib.hid hdiv
      by_cases hlt : 4611686018427387904 / y < x
      · have HE : Hid (r = 4611686018427387904) := Lib.hid (by rw [hM2, if_pos hlt])
        clear HM HL hx hM2 hdiv
        go_enter Tryd.func23, Tryd.ntmps23
        go_wp2_with (first | (go_at_call 21; ((with_reducible refine (HFa.out).mono ?_); rintro _ w1 ⟨rfl, rfl⟩)) | (go_at_call 21; ((with_reducible refine (HFb.out).mono ?_); rintro _ w1 ⟨rfl, rfl⟩)))
        all_goals first | (go_ret; exact ⟨by rw [HE.out]; rfl, rfl⟩) | omega
      · have HE : Hid (r = x * y) := Lib.hid (by rw [hM2, if_neg hlt])
        have hm0 : 0 ≤ x * y := Int.mul_nonneg a0 b0
        have hm1 : x * y ≤ 4611686018427387904 := by rw [← HE.out]; exact HL.out
        clear HM HL hx hM2 hdiv
        go_enter Tryd.func23, Tryd.ntmps23
        go_wp2_with (first | (go_at_call 21; ((with_reducible refine (HFa.out).mono ?_); rintro _ w1 ⟨rfl, rfl⟩)) | (go_at_call 21; ((with_reducible refine (HFb.out).mono ?_); rintro _ w1 ⟨rfl, rfl⟩)))
        all_goals first | (go_ret; exact ⟨by rw [HE.out]; rfl, rfl⟩) | omega
theorem ref02_Add (v : Value) (l : List Int) (w : World) (h : SlV 1 (flat encI) w v l) : Calls Tryd.prog 27 #[v] w fun e w' => e = .returned (.int .i64 (Sat.add l)) ∧ w = w' := by
  have hm := h.len_le
  unfold maxLen at hm
  obtain ⟨A, _, c, rfl, rfl, _, _, _, hs⟩ := h
  have HS := Lib.hid hs
  clear hs
  go_enter Tryd.func27, Tryd.ntmps27
  go_wp2_with fail
  go_loop [3, 4] (fun o i => ∃ (k : Nat) (u : Int), i = .int .i64 k ∧ o = .int .i64 u ∧ k ≤ l.length ∧ 0 ≤ u ∧ u ≤ 4611686018427387904 ∧ Hid (Sat.addF u (l.drop k) = Sat.add l)) (fun _ i => l.length - (intOf i).toNat)
  case atStart => exact ⟨0, 0, rfl, rfl, by omega, by omega, by omega, Lib.hid rfl⟩
  case round =>
    obtain ⟨k, u, rfl, rfl, hk, hu0, hu1, HA⟩ := hrel
    by_cases hlt : k < l.length
    · obtain ⟨b, o, rfl, hc⟩ := HS.out.atI k hlt
      have HN := Lib.hid (Sat.addF_drop u l k hlt)
      have hkl : (k : Int) < (l.length : Int) := by omega
      generalize l[k] = x at *
      have HT := Lib.hid (ref02_Two u x w)
      have h0 := Sat.two_ge u x
      have h1 := Sat.two_le u x
      have HE : Hid (u + min (Sat.fit x) (4611686018427387904 - u) = Sat.two u x) := Lib.hid (by
        have := Sat.fit_ge x; have := Sat.fit_le x
        unfold Sat.two
        rw [Sat.fit_id u hu0 hu1]
        split <;> omega)
      generalize Sat.two u x = t at *
      go_wp2_with (go_at_call 49; go_must (refine (HT.out).mono ?_; rintro _ w1 ⟨rfl, rfl⟩))
      all_goals go_round
      case rel => exact ⟨k + 1, t, by go_num, rfl, by omega, by omega, by omega, Lib.hid (by rw [← HA.out, HN.out, HE.out])⟩
      case measure => simp [intOf]; omega
    · obtain rfl : k = l.length := by omega
      have HE : Hid (u = Sat.add l) := Lib.hid (by have := HA.out; rw [List.drop_length] at this; exact this)
      go_wp2_with fail
      go_ret
      exact ⟨by rw [HE.out]; rfl, rfl⟩
set_option maxHeartbeats 1000000 in
theorem sat_Mul (a b : Int) (w0 : World) : Calls Tryd.prog 22 #[.int .i64 a, .int .i64 b] w0 fun e w' => e = .returned (.int .i64 (Sat.mul a b)) ∧ Fr w0 w' := by
  have I := St.refl w0
  have HE : Hid (min (0 + Sat.fit a * Sat.fit b) 4611686018427387904 = Sat.mul a b) := Lib.hid (by rw [Int.zero_add]; rfl)
  obtain ⟨r, hr⟩ : ∃ r, Sat.mul a b = r := ⟨_, rfl⟩
  rw [hr] at HE ⊢
  clear hr
  have a0 := Sat.fit_ge a
  have b0 := Sat.fit_ge b
  have a1 := Sat.fit_le a
  have b1 := Sat.fit_le b
  have HFa := Lib.hid (fun w => sat_Fit a w)
  have HFb := Lib.hid (fun w => sat_Fit b w)
  generalize Sat.fit a = x at *
  generalize Sat.fit b = y at *
  go_enter Tryd.func22, Tryd.ntmps22
  go_wp2_with fail
  go_step3
  go_wp2_with (first | (go_at_call 20; ((with_reducible refine (HFa.out _).mono ?_); rintro _ w1 ⟨rfl, rfl⟩)) | (go_at_call 20; ((with_reducible refine (HFb.out _).mono ?_); rintro _ w1 ⟨rfl, rfl⟩)) | (first | ((with_reducible refine gguard ?_); (first | refine w_guardT (by rfl) (fun hb => ?_) (fun hb => ?_) | refine w_guardF (by rfl) (fun hb => ?_) (fun hb => ?_)) <;> first | (cases hb; done) | cases hb | ((try rw [hb]) <;> (try simp at hb) <;> go_prune <;> (try (with_reducible replace hb := eqPair hb)))) | (((with_reducible refine gbox ?_); first | refine w_boxA I (by rfl) ?_ | refine w_box1 I (by (conv => lhs; whnf) <;> rfl) (by rfl) ?_); clear I; intro g w I) | ((with_reducible refine galloc ?_); refine w_alloc I ?_; clear I; intro g w I) | ((with_reducible refine gload ?_); first | refine w_loadB I (by rfl) (by first | (with_reducible repeat (first | exact .here | apply At.there)); done | repeat (first | exact .here | apply At.there)) (by rfl) ?_ | refine w_loadBR I (by rfl) (by first | (with_reducible repeat (first | exact .here | apply At.there)); done | repeat (first | exact .here | apply At.there)) (by rfl) ?_ | refine w_load0 I (by rfl) (by assumption) ?_) | ((with_reducible refine gstore ?_); (first | refine w_storeB I (by rfl) (by (conv => lhs; whnf) <;> rfl) (by first | (with_reducible repeat (first | exact .here | apply Upd.there)); done | repeat (first | exact .here | apply Upd.there)) (by rfl) (by rfl) (by simp only [List.set_cons_zero, List.set_cons_succ] <;> rfl) ?_ | refine w_storeBR I (by rfl) (by rfl) (by first | (with_reducible repeat (first | exact .here | apply Upd.there)); done | repeat (first | exact .here | apply Upd.there)) (by rfl) (by rfl) (by rfl) ?_); clear I; intro w I)))
  go_step3
  go_wp2_with fail
  go_loopw [0, 1, 5] (fun va vb vo wr => ∃ p q o : Int, va = .int .i64 p ∧ vb = .int .i64 q ∧ vo = .int .i64 o ∧ 0 ≤ p ∧ p ≤ 4611686018427387904 ∧ 0 ≤ q ∧ q ≤ 4611686018427387904 ∧ 0 ≤ o ∧ o ≤ 4611686018427387904 ∧ Hid (min (o + p * q) 4611686018427387904 = r) ∧ Fr w0 wr) (fun va _ _ _ => (intOf va).toNat)
  case atStart => exact ⟨x, y, 0, rfl, rfl, rfl, a0, a1, b0, b1, by decide, by decide, HE, I.fr⟩
  case round =>
    clear HE a0 a1 b0 b1 HFa HFb I
    obtain ⟨p, q, o, rfl, rfl, rfl, p0, p1, q0, q1, o0, o1, HR, hf⟩ := hrel
    rename World => wr
    by_cases hp : 0 < p
    · have HQ : Hid (Sat.add [q, q] = min (q + q) 4611686018427387904) := Lib.hid (by rw [Sat.add_two', Sat.fit_id q q0 q1])
      have HO : Hid (Sat.add [o, q] = min (o + q) 4611686018427387904) := Lib.hid (by rw [Sat.add_two', Sat.fit_id q q0 q1, Sat.fit_id o o0 o1])
      have hd : p.tdiv 2 = p / 2 := Int.tdiv_eq_ediv_of_nonneg p0
      have hmd : p.tmod 2 = p % 2 := Int.tmod_eq_emod_of_nonneg p0
      have I : St w0 wr [] := (St.of_fr hf)
      have hdc : (0 : Int) ≤ p / 2 ∧ p / 2 ≤ 4611686018427387904 ∧ p / 2 < p := by omega
      obtain ⟨hd0, hd1, hd2⟩ := hdc
      have hq2 : min (q + q) 4611686018427387904 ≤ 4611686018427387904 ∧ 0 ≤ min (q + q) 4611686018427387904 := by omega
      have ho2 : min (o + q) 4611686018427387904 ≤ 4611686018427387904 ∧ 0 ≤ min (o + q) 4611686018427387904 := by omega
      obtain ⟨qq, hqq⟩ : ∃ qq, min (q + q) 4611686018427387904 = qq := ⟨_, rfl⟩
      rw [hqq] at HQ hq2
      have HQQ := Lib.hid hqq
      clear hqq
      obtain ⟨hq3, hq4⟩ := hq2
      by_cases hodd : p % 2 = 1
      · have hob : ((p.tmod 2) == 1) = true := by rw [hmd]; simpa using hodd
        obtain ⟨oo, hoo⟩ : ∃ oo, min (o + q) 4611686018427387904 = oo := ⟨_, rfl⟩
        rw [hoo] at HO ho2
        have HStep := Lib.hid (Sat.round_mul o p q o0 q0 hp oo qq (by rw [if_pos hodd]; exact hoo.symm) HQQ.out.symm)
        clear hoo hodd
        obtain ⟨ho3, ho4⟩ := ho2
        by_cases hmost : oo = 4611686018427387904
        · have hmb : (oo == 4611686018427387904) = true := by simpa using hmost
          have HF : Hid (r = 4611686018427387904) := Lib.hid (by
            have h1 := HStep.out
            rw [HR.out] at h1
            have h2 : 0 ≤ p / 2 * qq := Int.mul_nonneg hd0 hq4
            omega)
          have HM := Lib.hid hmost
          clear hmost
          go_wp2_with (first | (((with_reducible refine gbsr ?_); refine w_bsv (enc := encI) [o, q] (Value.int .i64) (fun _ => rfl) encI_len I (by rfl) (by rfl) (by decide) (by decide) (by decide) ?_); clear I; intro g w I) | (((with_reducible refine gbsr ?_); refine w_bsv (enc := encI) [q, q] (Value.int .i64) (fun _ => rfl) encI_len I (by rfl) (by rfl) (by decide) (by decide) (by decide) ?_); clear I; intro g w I) | (first | ((with_reducible refine gguard ?_); (first | refine w_guardT (by rfl) (fun hb => ?_) (fun hb => ?_) | refine w_guardF (by rfl) (fun hb => ?_) (fun hb => ?_)) <;> first | (cases hb; done) | cases hb | ((try rw [hb]) <;> (try simp at hb) <;> go_prune <;> (try (with_reducible replace hb := eqPair hb)))) | (((with_reducible refine gbox ?_); first | refine w_boxA I (by rfl) ?_ | refine w_box1 I (by (conv => lhs; whnf) <;> rfl) (by rfl) ?_); clear I; intro g w I) | ((with_reducible refine galloc ?_); refine w_alloc I ?_; clear I; intro g w I) | ((with_reducible refine gload ?_); first | refine w_loadB I (by rfl) (by first | (with_reducible repeat (first | exact .here | apply At.there)); done | repeat (first | exact .here | apply At.there)) (by rfl) ?_ | refine w_loadBR I (by rfl) (by first | (with_reducible repeat (first | exact .here | apply At.there)); done | repeat (first | exact .here | apply At.there)) (by rfl) ?_ | refine w_load0 I (by rfl) (by assumption) ?_) | ((with_reducible refine gstore ?_); (first | refine w_storeB I (by rfl) (by (conv => lhs; whnf) <;> rfl) (by first | (with_reducible repeat (first | exact .here | apply Upd.there)); done | repeat (first | exact .here | apply Upd.there)) (by rfl) (by rfl) (by simp only [List.set_cons_zero, List.set_cons_succ] <;> rfl) ?_ | refine w_storeBR I (by rfl) (by rfl) (by first | (with_reducible repeat (first | exact .here | apply Upd.there)); done | repeat (first | exact .here | apply Upd.there)) (by rfl) (by rfl) (by rfl) ?_); clear I; intro w I)) | (go_at_call 26; ((with_reducible refine (sat_Add _ [o, q] _ (I.slv .here encI_len)).mono ?_); rintro _ w1 ⟨rfl, rfl⟩; rw [HO.out])) | (go_at_call 26; ((with_reducible refine (sat_Add _ [q, q] _ (I.slv .here encI_len)).mono ?_); rintro _ w1 ⟨rfl, rfl⟩; rw [HQ.out])))
          all_goals try omega
          try rw [Exit.noGoto_ret]
          go_ret
          exact ⟨by rw [HF.out, ← HM.out]; rfl, I.fr⟩
        · have hmb : (oo == 4611686018427387904) = false := by simpa using hmost
          clear hmost
          go_wp2_with (first | (((with_reducible refine gbsr ?_); refine w_bsv (enc := encI) [o, q] (Value.int .i64) (fun _ => rfl) encI_len I (by rfl) (by rfl) (by decide) (by decide) (by decide) ?_); clear I; intro g w I) | (((with_reducible refine gbsr ?_); refine w_bsv (enc := encI) [q, q] (Value.int .i64) (fun _ => rfl) encI_len I (by rfl) (by rfl) (by decide) (by decide) (by decide) ?_); clear I; intro g w I) | (first | ((with_reducible refine gguard ?_); (first | refine w_guardT (by rfl) (fun hb => ?_) (fun hb => ?_) | refine w_guardF (by rfl) (fun hb => ?_) (fun hb => ?_)) <;> first | (cases hb; done) | cases hb | ((try rw [hb]) <;> (try simp at hb) <;> go_prune <;> (try (with_reducible replace hb := eqPair hb)))) | (((with_reducible refine gbox ?_); first | refine w_boxA I (by rfl) ?_ | refine w_box1 I (by (conv => lhs; whnf) <;> rfl) (by rfl) ?_); clear I; intro g w I) | ((with_reducible refine galloc ?_); refine w_alloc I ?_; clear I; intro g w I) | ((with_reducible refine gload ?_); first | refine w_loadB I (by rfl) (by first | (with_reducible repeat (first | exact .here | apply At.there)); done | repeat (first | exact .here | apply At.there)) (by rfl) ?_ | refine w_loadBR I (by rfl) (by first | (with_reducible repeat (first | exact .here | apply At.there)); done | repeat (first | exact .here | apply At.there)) (by rfl) ?_ | refine w_load0 I (by rfl) (by assumption) ?_) | ((with_reducible refine gstore ?_); (first | refine w_storeB I (by rfl) (by (conv => lhs; whnf) <;> rfl) (by first | (with_reducible repeat (first | exact .here | apply Upd.there)); done | repeat (first | exact .here | apply Upd.there)) (by rfl) (by rfl) (by simp only [List.set_cons_zero, List.set_cons_succ] <;> rfl) ?_ | refine w_storeBR I (by rfl) (by rfl) (by first | (with_reducible repeat (first | exact .here | apply Upd.there)); done | repeat (first | exact .here | apply Upd.there)) (by rfl) (by rfl) (by rfl) ?_); clear I; intro w I)) | (go_at_call 26; ((with_reducible refine (sat_Add _ [o, q] _ (I.slv .here encI_len)).mono ?_); rintro _ w1 ⟨rfl, rfl⟩; rw [HO.out])) | (go_at_call 26; ((with_reducible refine (sat_Add _ [q, q] _ (I.slv .here encI_len)).mono ?_); rintro _ w1 ⟨rfl, rfl⟩; rw [HQ.out])))
          all_goals try omega
          go_roundw
          case rel => exact ⟨p / 2, qq, oo, rfl, rfl, rfl, hd0, hd1, hq4, hq3, ho4, ho3, Lib.hid (by rw [HStep.out, HR.out]), I.fr⟩
          case measure => simp [intOf]; omega
      · have hob : ((p.tmod 2) == 1) = false := by rw [hmd]; simpa using hodd
        have HStep := Lib.hid (Sat.round_mul o p q o0 q0 hp o qq (by rw [if_neg hodd]) HQQ.out.symm)
        clear hodd ho2
        by_cases hmost : o = 4611686018427387904
        · have hmb : (o == 4611686018427387904) = true := by simpa using hmost
          have HF : Hid (r = 4611686018427387904) := Lib.hid (by
            have h1 := HStep.out
            rw [HR.out] at h1
            have h2 : 0 ≤ p / 2 * qq := Int.mul_nonneg hd0 hq4
            omega)
          have HM := Lib.hid hmost
          clear hmost
          go_wp2_with (first | (((with_reducible refine gbsr ?_); refine w_bsv (enc := encI) [q, q] (Value.int .i64) (fun _ => rfl) encI_len I (by rfl) (by rfl) (by decide) (by decide) (by decide) ?_); clear I; intro g w I) | (first | ((with_reducible refine gguard ?_); (first | refine w_guardT (by rfl) (fun hb => ?_) (fun hb => ?_) | refine w_guardF (by rfl) (fun hb => ?_) (fun hb => ?_)) <;> first | (cases hb; done) | cases hb | ((try rw [hb]) <;> (try simp at hb) <;> go_prune <;> (try (with_reducible replace hb := eqPair hb)))) | (((with_reducible refine gbox ?_); first | refine w_boxA I (by rfl) ?_ | refine w_box1 I (by (conv => lhs; whnf) <;> rfl) (by rfl) ?_); clear I; intro g w I) | ((with_reducible refine galloc ?_); refine w_alloc I ?_; clear I; intro g w I) | ((with_reducible refine gload ?_); first | refine w_loadB I (by rfl) (by first | (with_reducible repeat (first | exact .here | apply At.there)); done | repeat (first | exact .here | apply At.there)) (by rfl) ?_ | refine w_loadBR I (by rfl) (by first | (with_reducible repeat (first | exact .here | apply At.there)); done | repeat (first | exact .here | apply At.there)) (by rfl) ?_ | refine w_load0 I (by rfl) (by assumption) ?_) | ((with_reducible refine gstore ?_); (first | refine w_storeB I (by rfl) (by (conv => lhs; whnf) <;> rfl) (by first | (with_reducible repeat (first | exact .here | apply Upd.there)); done | repeat (first | exact .here | apply Upd.there)) (by rfl) (by rfl) (by simp only [List.set_cons_zero, List.set_cons_succ] <;> rfl) ?_ | refine w_storeBR I (by rfl) (by rfl) (by first | (with_reducible repeat (first | exact .here | apply Upd.there)); done | repeat (first | exact .here | apply Upd.there)) (by rfl) (by rfl) (by rfl) ?_); clear I; intro w I)) | (go_at_call 26; ((with_reducible refine (sat_Add _ [q, q] _ (I.slv .here encI_len)).mono ?_); rintro _ w1 ⟨rfl, rfl⟩; rw [HQ.out])))
          all_goals try omega
          try rw [Exit.noGoto_ret]
          go_ret
          exact ⟨by rw [HF.out, ← HM.out]; rfl, I.fr⟩
        · have hmb : (o == 4611686018427387904) = false := by simpa using hmost
          clear hmost
          go_wp2_with (first | (((with_reducible refine gbsr ?_); refine w_bsv (enc := encI) [q, q] (Value.int .i64) (fun _ => rfl) encI_len I (by rfl) (by rfl) (by decide) (by decide) (by decide) ?_); clear I; intro g w I) | (first | ((with_reducible refine gguard ?_); (first | refine w_guardT (by rfl) (fun hb => ?_) (fun hb => ?_) | refine w_guardF (by rfl) (fun hb => ?_) (fun hb => ?_)) <;> first | (cases hb; done) | cases hb | ((try rw [hb]) <;> (try simp at hb) <;> go_prune <;> (try (with_reducible replace hb := eqPair hb)))) | (((with_reducible refine gbox ?_); first | refine w_boxA I (by rfl) ?_ | refine w_box1 I (by (conv => lhs; whnf) <;> rfl) (by rfl) ?_); clear I; intro g w I) | ((with_reducible refine galloc ?_); refine w_alloc I ?_; clear I; intro g w I) | ((with_reducible refine gload ?_); first | refine w_loadB I (by rfl) (by first | (with_reducible repeat (first | exact .here | apply At.there)); done | repeat (first | exact .here | apply At.there)) (by rfl) ?_ | refine w_loadBR I (by rfl) (by first | (with_reducible repeat (first | exact .here | apply At.there)); done | repeat (first | exact .here | apply At.there)) (by rfl) ?_ | refine w_load0 I (by rfl) (by assumption) ?_) | ((with_reducible refine gstore ?_); (first | refine w_storeB I (by rfl) (by (conv => lhs; whnf) <;> rfl) (by first | (with_reducible repeat (first | exact .here | apply Upd.there)); done | repeat (first | exact .here | apply Upd.there)) (by rfl) (by rfl) (by simp only [List.set_cons_zero, List.set_cons_succ] <;> rfl) ?_ | refine w_storeBR I (by rfl) (by rfl) (by first | (with_reducible repeat (first | exact .here | apply Upd.there)); done | repeat (first | exact .here | apply Upd.there)) (by rfl) (by rfl) (by rfl) ?_); clear I; intro w I)) | (go_at_call 26; ((with_reducible refine (sat_Add _ [q, q] _ (I.slv .here encI_len)).mono ?_); rintro _ w1 ⟨rfl, rfl⟩; rw [HQ.out])))
          all_goals try omega
          go_roundw
          case rel => exact ⟨p / 2, qq, o, rfl, rfl, rfl, hd0, hd1, hq4, hq3, o0, o1, Lib.hid (by rw [HStep.out, HR.out]), I.fr⟩
          case measure => simp [intOf]; omega
    · have hz : p = 0 := by omega
      have HF : Hid (r = o) := Lib.hid (by have := HR.out; rw [hz, Int.zero_mul] at this; omega)
      go_wp2_with fail
      try rw [Exit.noGoto_ret]
      go_ret
      exact ⟨by rw [HF.out]; rfl, hf⟩
end Go.Proofs.YtpnpgeilhafepaaDoor
