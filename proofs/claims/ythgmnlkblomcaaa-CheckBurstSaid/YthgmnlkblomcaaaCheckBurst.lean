/- CheckBurst: any bytes, at most 300 of them, sealed, are good, and opened they are those; with any bits turned within 16 in a row, one at least, at any place, they are not good. -/
import Derived.Test.YthgmnlkblomcaaaCheck
import Derived.Test.YthgmnlkblomcaaaBurst
import Derived.Test.YthgmnlkblomcaaaFrame
namespace Go.Proofs.Ythgmnlkblomcaaa.checkBurst
open Go.ChangeShapes Go.WideShapes Go.ChangeAt Go.RowKit Go.Hf
open Go.ChangeMaps (open_string shut_string)

theorem half (b k : Nat) : b / 2 ^ (k + 1) = b / 2 ^ k / 2 := by rw [Nat.pow_succ, Nat.div_div_eq_div_mul]
theorem low (b k : Nat) : decide (b % 2 ^ (k + 1) ≠ 0) = if b / 2 ^ k % 2 = 1 then true else decide (b % 2 ^ k ≠ 0) := by
  rw [Nat.pow_succ, Nat.mod_mul]
  have := Nat.two_pow_pos k
  split
  · rename_i h; rw [h]; simp
  · rename_i h; have : b / 2 ^ k % 2 = 0 := by omega
    rw [this]; simp

set_option maxRecDepth 100000 in
set_option maxHeartbeats 2000000 in
theorem law (v : Value) (l : List UInt8) (at_ burst : Nat) (w : World) (h : Bytes w v l) (ha : at_ < 65536) (hb : burst < 65536) :
    Calls Try.prog 6 #[v, .int .u16 (at_ : Int), .int .u16 (burst : Int)] w fun en w' => en = .returned (.bool true) ∧ Fr w w' := by
  have hm := h.len_le
  unfold maxLen at hm
  have HB := Fr.refl w
  obtain ⟨A, _, c, rfl, rfl, hl, hcm, hA, hs⟩ := h
  have HV : Hid (Bytes w (.slice A l.length c) l) := ⟨A, _, c, rfl, rfl, hl, hcm, hA, hs⟩
  clear hcm hA hs
  by_cases hl3 : 300 < l.length
  · go_enter Try.func6, Try.ntmps6
    go_wp2_with (go_at_call 23; go_must (refine (law03_alive _).mono ?_; rintro _ w1 ⟨rfl, hb⟩; replace HB := HB.trans hb; clear hb))
    go_ret
    exact ⟨rfl, HB⟩
  · have HL : Hid (l.length ≤ 140737488355000) := by unfold Hid; omega
    have hsl := Crc.sealed_len l
    have hg := Crc.good_sealed l
    have hbs := Crc.body_sealed l
    have HGT := Lib.hid (Crc.good_turned l · burst · hb)
    generalize hS : Crc.sealed l = S at *
    have HS := Lib.hid hS
    clear hS
    have HL2 : Hid (S.length ≤ 140737488355000) := by unfold Hid; omega
    have HSN : Hid (S ≠ []) := by unfold Hid; rw [← List.length_pos_iff]; omega
    have hne : ((S.length : Int) != (l.length : Int) + 2) = false := by simp; omega
    have hs1 : S.length ≤ l.length + 2 := by omega
    have hs2 : l.length + 2 ≤ S.length := by omega
    clear hsl
    go_enter Try.func6, Try.ntmps6
    go_wp2_with (first | (go_at_call 27; go_must (refine (check_Seal _ l _ HL.out (HV.out.frF HB)).mono ?_; rintro _ w1 ⟨v1, rfl, hv1, hb⟩; replace HB := HB.trans hb; rw [HS.out] at hv1; (obtain ⟨g1, c1, rfl, hg0, hg1, hgc⟩ := hv1.base_of HSN.out); have HV1 := Lib.hid (hv1.slv encB_len); clear hb hv1)) | (go_at_call 25; go_must (refine (check_Open _ S _ HL2.out (HV1.out)).mono ?_; rintro _ w1 ⟨v2, rfl, hv2, hb⟩; replace HB := HB.trans hb; replace HV1 := Lib.hid (HV1.out.frF hb); simp only [hg, hbs, if_true] at hv2 ⊢; clear hb)) | (go_at_call 26; go_must (refine (ref03_Same _ _ l l _ (hv2.slv encB_len) (HV.out.frF HB)).mono ?_; rintro _ w1 ⟨rfl, hb⟩; replace HB := HB.trans hb.fr; replace HV1 := Lib.hid (HV1.out.frF hb.fr); simp only [beq_self_eq_true]; clear hb hv2)) | (go_at_call 31; go_must (refine (check_Good _ S _ HL2.out HV1.out).mono ?_; rintro _ w1 ⟨rfl, hb⟩; replace HB := HB.trans hb; replace HV1 := Lib.hid (HV1.out.frF hb); simp only [hg]; clear hb)) | ((with_reducible refine gate (.call { callee := .builtin .append, args := #[.tmp 52, .tmp 53], argTypes := #[35, 35] }) rfl ?_); go_must (refine wpList_app rfl (.tmp 52) (.tmp 53) 35 rfl (w.heap.size) 5 (.int .u8 0) 1 1 Try.underlying35 (by kernel_rfl) rfl (by decide) encB_len encB_one (l2 := S) rfl (Own.lit _ _ _ _ _ #[] [] HB.size (Nat.zero_le _) encB_len rfl) rfl (hgc) (((HV1.out.sla.fr (flat_stays _) ((Fr.refl _).alloc _))).raw encB_len (by decide)) (fun h => (by cases h)) ?_ ?_ ?_ ?_)))
    · have := HL2.out; simp; omega
    · have := HL2.out; simp [maxLen]; omega
    · have := HB.size; simp; omega
    · intro v2 w2 h1 h2 _
      replace HB := Fr.grown (HB.alloc (.cells #[] 5)) h2 (fun k hk => by simp [Value.ownBlock] at hk; have := HB.size; omega)
      try rw [List.nil_append] at h1
      clear h2 HV1
      obtain ⟨g2, c2, rfl, hg2, _, hgc2⟩ := h1.base_of HSN.out
      have hp0 : 0 ≤ (at_ : Int) % (8 * (S.length : Int) - 15) := Int.emod_nonneg _ (by omega)
      have hp1 : (at_ : Int) % (8 * (S.length : Int) - 15) < 8 * (S.length : Int) - 15 := Int.emod_lt_of_pos _ (by omega)
      go_wp2_with fail
      generalize (at_ : Int) % (8 * (S.length : Int) - 15) = pz at hp0 hp1 ⊢
      obtain ⟨p, rfl⟩ := Int.eq_ofNat_of_zero_le hp0
      have hp : p + 16 ≤ 8 * S.length := by omega
      clear hp0 hp1 ha
      go_loopw [13, 14, 15] (fun so bi i wr => ∃ k : Nat, so = .bool (decide (burst % 2 ^ k ≠ 0)) ∧ bi = .int .i64 ((burst / 2 ^ k : Nat) : Int) ∧ i = .int .i64 k ∧ k ≤ 16 ∧ Own w.heap.size 5 1 encB wr (.slice (some ⟨g2, 0, none⟩) S.length c2) (Crc.turned S p burst k) ∧ Fr w wr) (fun _ _ i _ => 16 - (intOf i).toNat)
      case atStart => exact ⟨0, by simp [Nat.mod_one], by simp, rfl, by omega, h1, HB⟩
      case round =>
        clear h1 HB
        obtain ⟨k, rfl, rfl, rfl, hk, ho, hf⟩ := hrel
        have HO := Lib.hid ho
        clear ho
        by_cases hlt : k < 16
        · have HQL := Lib.hid (show burst / 2 ^ k ≤ 65536 from Nat.le_trans (Nat.div_le_self _ _) (by omega))
          have HD := Lib.hid (half burst k)
          have HT := Lib.hid (show Crc.turned S p burst (k + 1) = if burst / 2 ^ k % 2 = 1 then Crc.flip (Crc.turned S p burst k) (p + k) else Crc.turned S p burst k from rfl)
          have HTL := Lib.hid (Crc.turned_length S p burst k)
          have HM := Lib.hid (low burst k)
          generalize burst / 2 ^ k = q at *
          generalize burst % 2 ^ k = z at *
          generalize Crc.turned S p burst k = T at *
          have HbL : Hid (q ≤ 65536) := HQL.out
          by_cases hq : q % 2 = 1
          · have hq1 : ((q : Int) % 2 == 1) = true := by simp; omega
            have HQ := Lib.hid hq
            clear hq
            have hj : (p + k) / 8 < T.length := by rw [HTL.out]; omega
            have HJ := Lib.hid hj
            have hc := HO.out.cellB ((p + k) / 8) hj
            have hfz := HO.out.frozen ((p + k) / 8)
            have hgw : g2 < wr.heap.size := (HO.out.lt g2 rfl).2
            have HX := Lib.hid (fun h => Crc.xor_bit T[(p + k) / 8] ((p + k) % 8) h)
            have HF := Lib.hid (show Crc.flip T (p + k) = T.set ((p + k) / 8) (T[(p + k) / 8] ^^^ Crc.bit ((p + k) % 8)) from by unfold Crc.flip; rw [List.getD_eq_getElem?_getD, List.getElem?_eq_getElem hj, Option.getD_some]; rfl)
            have HSet := Lib.hid (fun x => HO.out.setB ((p + k) / 8) hj x)
            have hxlt := T[(p + k) / 8].toNat_lt
            generalize T[(p + k) / 8] = x at *
            have hql : (q : Int) ≤ 65536 := by have := HbL.out; omega
            have hjs : (p + k) / 8 < S.length := by rw [← HTL.out]; exact hj
            clear hj
            go_wp2_with fail
            go_loopw [17, 18] (fun bi n wq => ∃ j : Nat, bi = .int .u8 ((2 ^ j : Nat) : Int) ∧ n = .int .i64 j ∧ j ≤ 7 - (p + k) % 8 ∧ wq = wr) (fun _ n _ => 8 - (intOf n).toNat)
            case atStart => exact ⟨0, by simp, rfl, by omega, rfl⟩
            case round =>
              obtain ⟨j, rfl, rfl, hj7, rfl⟩ := hrel
              by_cases hjt : j < 7 - (p + k) % 8
              · have hp2 : 2 ^ j ≤ 64 := Nat.le_trans (Nat.pow_le_pow_right (by omega) (show j ≤ 6 by omega)) (by decide)
                have HP2 := Lib.hid (show 2 ^ (j + 1) = 2 * 2 ^ j from by rw [Nat.pow_succ]; omega)
                generalize 2 ^ j = P at *
                go_wp2_with fail
                go_roundw
                case rel => exact ⟨j + 1, by rw [HP2.out]; go_num, by go_num, by omega, by first | rfl | trivial⟩
                case measure => simp [intOf]; omega
              · obtain rfl : j = 7 - (p + k) % 8 := by omega
                have hp2 : 2 ^ (7 - (p + k) % 8) ≤ 128 := Nat.le_trans (Nat.pow_le_pow_right (by omega) (show 7 - (p + k) % 8 ≤ 7 by omega)) (by decide)
                have hp3 := Nat.two_pow_pos (7 - (p + k) % 8)
                replace HX := Lib.hid (HX.out (Nat.mod_lt _ (by omega)))
                generalize 2 ^ (7 - (p + k) % 8) = P at *
                by_cases hx : x.toNat / P % 2 = 1
                · rw [Hid, if_pos hx] at HX
                  have hxp : P ≤ x.toNat := by
                    rcases Nat.lt_or_ge x.toNat P with h | h
                    · rw [Nat.div_eq_of_lt h] at hx; simp at hx
                    · exact h
                  have HV : Hid (((x ^^^ Crc.bit ((p + k) % 8)).toNat : Int) = (x.toNat : Int) - (P : Int)) := by unfold Hid; omega
                  have HS2 := Lib.hid (HSet.out (x ^^^ Crc.bit ((p + k) % 8)))
                  rw [HV.out] at HS2
                  go_wp2_with fail
                  go_roundw
                  case rel => exact ⟨k + 1, by rw [HM.out, if_pos HQ.out], by rw [HD.out]; go_num, by go_num, by omega, by rw [HT.out, if_pos HQ.out, HF.out]; exact HS2.out, hf.set hg2 _⟩
                  case measure => simp [intOf]; omega
                · rw [Hid, if_neg hx] at HX
                  have HV : Hid (((x ^^^ Crc.bit ((p + k) % 8)).toNat : Int) = (x.toNat : Int) + (P : Int)) := by unfold Hid; omega
                  have hxl2 := (x ^^^ Crc.bit ((p + k) % 8)).toNat_lt
                  have hxs : (x.toNat : Int) + (P : Int) ≤ 255 := by have := HV.out; omega
                  clear hxl2
                  have HS2 := Lib.hid (HSet.out (x ^^^ Crc.bit ((p + k) % 8)))
                  rw [HV.out] at HS2
                  have hx0 : ¬ (((x.toNat : Int) / (P : Int) % 2 == 1) = true) := by simp; omega
                  go_wp2_with fail
                  go_roundw
                  case rel => exact ⟨k + 1, by rw [HM.out, if_pos HQ.out], by rw [HD.out]; go_num, by go_num, by omega, by rw [HT.out, if_pos HQ.out, HF.out]; exact HS2.out, hf.set hg2 _⟩
                  case measure => simp [intOf]; omega
          · have hq1 : ((q : Int) % 2 == 1) = false := by simp; omega
            have HQ := Lib.hid hq
            clear hq
            have hql : (q : Int) ≤ 65536 := by have := HbL.out; omega
            go_wp2_with fail
            go_roundw
            case rel => exact ⟨k + 1, by rw [HM.out, if_neg HQ.out], by rw [HD.out]; go_num, by go_num, by omega, by rw [HT.out, if_neg HQ.out]; exact HO.out, hf⟩
            case measure => simp [intOf]; omega
        · obtain rfl : k = 16 := by omega
          have HG := Lib.hid (HGT.out p hp)
          have HTL := Lib.hid (Crc.turned_length S p burst 16)
          have he : (decide (burst = 0) == !decide (burst % 2 ^ 16 ≠ 0)) = true := by
            rw [Nat.mod_eq_of_lt (show burst < 2 ^ 16 from hb)]; simp
          generalize decide (burst % 2 ^ 16 ≠ 0) = z at *
          generalize decide (burst = 0) = y at *
          generalize Crc.turned S p burst 16 = T at *
          clear hb
          go_wp2_with (first | (go_at_call 23; go_must (refine (law03_alive _).mono ?_; rintro _ w1 ⟨rfl, hb⟩; replace hf := hf.trans hb; replace HO := Lib.hid (HO.out.fr hb); clear hb)) | (go_at_call 31; go_must (refine (check_Good _ T _ (by rw [HTL.out]; exact HL2.out) (by have := HO.out.slv encB_len; exact this)).mono ?_; rintro _ w1 ⟨rfl, hb⟩; replace hf := hf.trans hb; rw [HG.out]; clear hb)))
          go_ret
          exact ⟨rfl, hf⟩

theorem opens : Opens Try.prog 35 (slR 1 (flat encB)) :=
  opens_slice Try.underlying35 (by kernel_rfl) (by omega) (opens_byte Try.underlying5)

set_option maxRecDepth 100000 in
theorem walk {H : Type} {enc : TypeId × Value → H} (W : World) (base : Nat) (args : Array Value) (ds : List (DataW H)) (ps : List MemPlace) (hval : ∀ (j : Nat) t v, Try.f6.params[j]? = some t → args[j]? = some v → Value.okWide Try.prog W .any base t v)
    (hA : DataW.TrodAll enc Try.prog W 0 (fun _ => true) true Try.f6.params.toList args.toList ds ps) : Calls Try.prog 6 args W fun e W' => e = .returned (.bool true) ∧ Fr W W' := by
  rw [Try.params6] at hA
  obtain ⟨v0, vs0, d0, ds0, p0, q0, hargs, rfl, rfl, h0, r0⟩ := trodAll_cons hA
  obtain ⟨v1, vs1, d1, ds1, p1, q1, rfl, rfl, rfl, h1, r1⟩ := trodAll_cons r0
  obtain ⟨v2, vs2, d2, ds2, p2, q2, rfl, rfl, rfl, h2, r2⟩ := trodAll_cons r1
  obtain ⟨rfl, rfl, rfl⟩ := trodAll_nil r2
  obtain rfl : args = #[v0, v1, v2] := by cases args; simp_all
  rw [Try.params6] at hval
  obtain ⟨l, h⟩ := open_slv_arg Try.underlying35 (hval 0 _ v0 rfl rfl) h0 opens
  obtain ⟨a1, rfl, rfl, rfl, w1⟩ := open_int Try.underlying41 (hval 1 _ v1 rfl rfl) h1
  obtain ⟨a2, rfl, rfl, rfl, w2⟩ := open_int Try.underlying41 (hval 2 _ v2 rfl rfl) h2
  have b1 : 0 ≤ a1 ∧ a1 ≤ 65535 := by simpa [Lit.wf, IntKind.min, IntKind.max, IntKind.signed, IntKind.bits] using w1
  have b2 : 0 ≤ a2 ∧ a2 ≤ 65535 := by simpa [Lit.wf, IntKind.min, IntKind.max, IntKind.signed, IntKind.bits] using w2
  obtain ⟨n1, rfl⟩ := Int.eq_ofNat_of_zero_le b1.1
  obtain ⟨n2, rfl⟩ := Int.eq_ofNat_of_zero_le b2.1
  exact law v0 l n1 n2 W h (by omega) (by omega)

theorem own : ownKnob Try.prog.godebug = none := by kernel_rfl

set_option maxRecDepth 100000 in
theorem lifted (os : Os) (started : os.Started) (H : Type) (enc : TypeId × Value → H) :
    ReturnsInHanded {} Try.checked os 6 .any (Rows.checkBurstSpec.pre6 enc Try.prog Try.f6 Rows.checkBurstRow.domain false) (Rows.checkBurstSpec.post enc Try.prog Try.f6 false true false false) :=
  Hf.law_lifted (C := Try.checked) own started (by kernel_rfl) Try.func6
    (ChangeSpec.witness6 (enc := enc) (C := Try.checked) false ⟨#[], #[.slice none 0 0, .int .u16 0, .int .u16 0], []⟩ 8 (by kernel_rfl) (by kernel_rfl) (by kernel_rfl) (by kernel_rfl))
    rfl (by kernel_rfl) Try.underlying4 (by kernel_rfl) (by kernel_rfl)
    (by intro ds h; rw [Try.params6] at h; match ds, h with | [_, _, _], _ => rfl) walk

theorem over : Rows.checkBurstRow.holds Try.pinned (OpenSpec.ofChange Rows.checkBurstSpec) :=
  OpenClaim.holds_of_wide 6 Try.f6 rfl rfl rfl rfl rfl rfl rfl ⟨rfl, rfl, rfl, rfl, rfl⟩ rfl rfl rfl rfl rfl (by kernel_rfl) Try.func6 (by kernel_rfl)
    (of_decide_eq_true (by kernel_rfl)) (by unfold Func.isWrapper; first | (rw [if_pos (by decide +kernel)]; kernel_rfl) | (rw [if_neg (by decide +kernel)]; exact ⟨rfl, rfl⟩))
    (fun os started H enc _ => lifted os started H enc)

/-- The statement. -/
theorem proved : Rows.CheckBurstSaid := over
#print axioms proved
end Go.Proofs.Ythgmnlkblomcaaa.checkBurst
