/- CheckTells: for any bytes, at most 300 of them, package check answers as its reference does: the sum, what is sealed, whether bytes are good, and what was sealed. -/
import Derived.Test.YthgmnlkblomcaaaCheck
import Derived.Test.YthgmnlkblomcaaaFrame
namespace Go.Proofs.Ythgmnlkblomcaaa.checkTells
open Go.ChangeShapes Go.WideShapes Go.ChangeAt Go.RowKit Go.Hf
open Go.ChangeMaps (open_string shut_string)

set_option maxRecDepth 100000 in
set_option maxHeartbeats 2000000 in
theorem law (v : Value) (l : List UInt8) (w : World) (h : Bytes w v l) :
    Calls Try.prog 5 #[v] w fun en w' => en = .returned (.bool true) ∧ Fr w w' := by
  have hm := h.len_le
  unfold maxLen at hm
  have HB := Fr.refl w
  obtain ⟨A, _, c, rfl, rfl, hl, hcm, hA, hs⟩ := h
  have HV : Hid (Bytes w (.slice A l.length c) l) := ⟨A, _, c, rfl, rfl, hl, hcm, hA, hs⟩
  clear hcm hA hs
  by_cases hl3 : 300 < l.length
  · go_enter Try.func5, Try.ntmps5
    go_wp2_with (go_at_call 23; go_must (refine (law03_alive _).mono ?_; rintro _ w1 ⟨rfl, hb⟩; replace HB := HB.trans hb; clear hb))
    go_ret
    exact ⟨rfl, HB⟩
  · have HL : Hid (l.length ≤ 140737488355000) := by unfold Hid; omega
    cases hg : Crc.good l with
    | true =>
      have h2 : 2 ≤ l.length := by unfold Crc.good at hg; simp at hg; exact hg.1
      have HT : Hid (Bytes w (.slice A (l.length - 2) c) (Crc.body l)) := HV.out.take _ (by omega)
      have hn : ((l.length : Int) - 2).toNat = l.length - 2 := by omega
      go_enter Try.func5, Try.ntmps5
      go_wp2_with (first | (go_at_call 23; go_must (refine (law03_alive _).mono ?_; rintro _ w1 ⟨rfl, hb⟩; replace HB := HB.trans hb; clear hb)) | (go_at_call 24; go_must (refine (ref03_Good _ l _ (HV.out.frF HB)).mono ?_; rintro _ w1 ⟨rfl, hb⟩; replace HB := HB.trans hb.fr; clear hb)) | (go_at_call 25; go_must (refine (check_Open _ l _ HL.out (HV.out.frF HB)).mono ?_; rintro _ w1 ⟨v1, rfl, hv1, hb⟩; replace HB := HB.trans hb; simp only [hg, if_true] at hv1; clear hb)) | (go_at_call 26; ((with_reducible refine (ref03_Same _ _ (Crc.body l) (Crc.body l) _ (hv1.slv encB_len) (HT.out.frF HB)).mono ?_); rintro _ w1 ⟨rfl, hb⟩; replace HB := HB.trans hb.fr; simp only [beq_self_eq_true]; clear hb hv1)) | (go_at_call 27; go_must (refine (check_Seal _ l _ HL.out (HV.out.frF HB)).mono ?_; rintro _ w1 ⟨v2, rfl, hv2, hb⟩; replace HB := HB.trans hb; clear hb)) | (go_at_call 28; go_must (refine (ref03_Seal _ l _ HL.out (HV.out.frF HB)).mono ?_; rintro _ w1 ⟨v3, rfl, hv3, hb⟩; replace HB := HB.trans hb; replace hv2 := hv2.fr hb; clear hb)) | (go_at_call 26; ((with_reducible refine (ref03_Same _ _ _ _ _ (hv2.slv encB_len) (hv3.slv encB_len)).mono ?_); rintro _ w1 ⟨rfl, hb⟩; replace HB := HB.trans hb.fr; simp only [beq_self_eq_true]; clear hb)) | (go_at_call 29; go_must (refine (check_Of _ l _ (HV.out.frF HB)).mono ?_; rintro _ w1 ⟨rfl, rfl⟩)) | (go_at_call 30; go_must (refine (ref03_Of _ l _ (HV.out.frF HB)).mono ?_; rintro _ w1 ⟨rfl, hb⟩; replace HB := HB.trans hb.fr; clear hb)) | (go_at_call 31; go_must (refine (check_Good _ l _ HL.out (HV.out.frF HB)).mono ?_; rintro _ w1 ⟨rfl, hb⟩; replace HB := HB.trans hb; clear hb)))
      go_ret
      exact ⟨rfl, HB⟩
    | false =>
      go_enter Try.func5, Try.ntmps5
      go_wp2_with (first | (go_at_call 23; go_must (refine (law03_alive _).mono ?_; rintro _ w1 ⟨rfl, hb⟩; replace HB := HB.trans hb; clear hb)) | (go_at_call 24; go_must (refine (ref03_Good _ l _ (HV.out.frF HB)).mono ?_; rintro _ w1 ⟨rfl, hb⟩; replace HB := HB.trans hb.fr; clear hb)) | (go_at_call 25; go_must (refine (check_Open _ l _ HL.out (HV.out.frF HB)).mono ?_; rintro _ w1 ⟨v1, rfl, hv1, hb⟩; replace HB := HB.trans hb; simp only [hg, Bool.false_eq_true, if_false] at hv1; clear hb)) | (go_at_call 26; ((with_reducible refine (ref03_Same _ _ [] [] _ (hv1.slv encB_len) (SlV.nil _ _ _)).mono ?_); rintro _ w1 ⟨rfl, hb⟩; replace HB := HB.trans hb.fr; simp only [beq_self_eq_true]; clear hb hv1)) | (go_at_call 27; go_must (refine (check_Seal _ l _ HL.out (HV.out.frF HB)).mono ?_; rintro _ w1 ⟨v2, rfl, hv2, hb⟩; replace HB := HB.trans hb; clear hb)) | (go_at_call 28; go_must (refine (ref03_Seal _ l _ HL.out (HV.out.frF HB)).mono ?_; rintro _ w1 ⟨v3, rfl, hv3, hb⟩; replace HB := HB.trans hb; replace hv2 := hv2.fr hb; clear hb)) | (go_at_call 26; ((with_reducible refine (ref03_Same _ _ _ _ _ (hv2.slv encB_len) (hv3.slv encB_len)).mono ?_); rintro _ w1 ⟨rfl, hb⟩; replace HB := HB.trans hb.fr; simp only [beq_self_eq_true]; clear hb)) | (go_at_call 29; go_must (refine (check_Of _ l _ (HV.out.frF HB)).mono ?_; rintro _ w1 ⟨rfl, rfl⟩)) | (go_at_call 30; go_must (refine (ref03_Of _ l _ (HV.out.frF HB)).mono ?_; rintro _ w1 ⟨rfl, hb⟩; replace HB := HB.trans hb.fr; clear hb)) | (go_at_call 31; go_must (refine (check_Good _ l _ HL.out (HV.out.frF HB)).mono ?_; rintro _ w1 ⟨rfl, hb⟩; replace HB := HB.trans hb; clear hb)))
      go_ret
      exact ⟨rfl, HB⟩

theorem opens : Opens Try.prog 35 (slR 1 (flat encB)) :=
  opens_slice Try.underlying35 (by kernel_rfl) (by omega) (opens_byte Try.underlying5)

set_option maxRecDepth 100000 in
theorem walk {H : Type} {enc : TypeId × Value → H} (W : World) (base : Nat) (args : Array Value) (ds : List (DataW H)) (ps : List MemPlace) (hval : ∀ (j : Nat) t v, Try.f5.params[j]? = some t → args[j]? = some v → Value.okWide Try.prog W .any base t v)
    (hA : DataW.TrodAll enc Try.prog W 0 (fun _ => true) true Try.f5.params.toList args.toList ds ps) : Calls Try.prog 5 args W fun e W' => e = .returned (.bool true) ∧ Fr W W' := by
  rw [Try.params5] at hA
  obtain ⟨v0, vs0, d0, ds0, p0, q0, hargs, rfl, rfl, h0, r0⟩ := trodAll_cons hA
  obtain ⟨rfl, rfl, rfl⟩ := trodAll_nil r0
  obtain rfl : args = #[v0] := by cases args; simp_all
  rw [Try.params5] at hval
  obtain ⟨l, h⟩ := open_slv_arg Try.underlying35 (hval 0 _ v0 rfl rfl) h0 opens
  exact law v0 l W h

theorem own : ownKnob Try.prog.godebug = none := by kernel_rfl

set_option maxRecDepth 100000 in
theorem lifted (os : Os) (started : os.Started) (H : Type) (enc : TypeId × Value → H) :
    ReturnsInHanded {} Try.checked os 5 .any (Rows.checkTellsSpec.pre6 enc Try.prog Try.f5 Rows.checkTellsRow.domain false) (Rows.checkTellsSpec.post enc Try.prog Try.f5 false true false false) :=
  Hf.law_lifted (C := Try.checked) own started (by kernel_rfl) Try.func5
    (ChangeSpec.witness6 (enc := enc) (C := Try.checked) false ⟨#[], #[.slice none 0 0], []⟩ 8 (by kernel_rfl) (by kernel_rfl) (by kernel_rfl) (by kernel_rfl))
    rfl (by kernel_rfl) Try.underlying4 (by kernel_rfl) (by kernel_rfl)
    (by intro ds h; rw [Try.params5] at h; match ds, h with | [_], _ => rfl) walk

theorem over : Rows.checkTellsRow.holds Try.pinned (OpenSpec.ofChange Rows.checkTellsSpec) :=
  OpenClaim.holds_of_wide 5 Try.f5 rfl rfl rfl rfl rfl rfl rfl ⟨rfl, rfl, rfl, rfl, rfl⟩ rfl rfl rfl rfl rfl (by kernel_rfl) Try.func5 (by kernel_rfl)
    (of_decide_eq_true (by kernel_rfl)) (by unfold Func.isWrapper; first | (rw [if_pos (by decide +kernel)]; kernel_rfl) | (rw [if_neg (by decide +kernel)]; exact ⟨rfl, rfl⟩))
    (fun os started H enc _ => lifted os started H enc)

/-- The statement. -/
theorem proved : Rows.CheckTellsSaid := over
#print axioms proved
end Go.Proofs.Ythgmnlkblomcaaa.checkTells
