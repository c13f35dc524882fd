/- OrderLists: whether any list, of at most 200 orders, may be a book's, and the book of it, are as the reference's. -/
import Derived.Test.YthgmnlkblomcaaaOrderD
import Derived.Test.YthgmnlkblomcaaaFrame
namespace Go.Proofs.Ythgmnlkblomcaaa.orderLists
open Go.ChangeShapes Go.WideShapes Go.ChangeAt Go.RowKit Go.Hf
open Go.ChangeMaps (open_string shut_string)

set_option maxRecDepth 100000 in
set_option maxHeartbeats 4000000 in
theorem law (v : Value) (l : List Ord) (w : World) (h : Orders w v l) :
    Calls Try.prog 9 #[v] w fun en w' => en = .returned (.bool true) ∧ Fr w w' := by
  have hm := h.len_le
  unfold maxLen at hm
  have HB := Fr.refl w
  have HV := Lib.hid h
  obtain ⟨A, _, c, rfl, rfl, hl, hcm, hA, hs⟩ := h
  clear hcm hA hs
  by_cases hl3 : 200 < l.length
  · go_enter Try.func9, Try.ntmps9
    go_wp2_with (go_at_call 32; go_must (refine (law16_alive _).mono ?_; rintro _ w1 ⟨rfl, hb⟩; replace HB := HB.trans hb; clear hb))
    go_ret
    exact ⟨rfl, HB⟩
  · have hl4 : l.length ≤ 1000 := by omega
    by_cases hr : Order.Right l
    · have HR := Lib.hid (decide_eq_true hr)
      have HP := Lib.hid hr
      clear hr
      go_enter Try.func9, Try.ntmps9
      go_wp2_with (first | (go_at_call 44; go_must (refine (ref16_Right _ l _ (HV.out.frF HB)).mono ?_; rintro _ w1 ⟨rfl, hb⟩; rw [HR.out]; replace HB := HB.trans hb; clear hb)) | (go_at_call 45; go_must (refine (order_Of _ l _ (HV.out.frF HB) hl4).mono ?_; rintro _ w1 ⟨h1, _, hb⟩; obtain ⟨g, rfl, F, hbk⟩ := h1 HP.out; replace HB := HB.trans hb; replace hbk := Lib.hid hbk; clear hb h1)) | (go_at_call 46; go_must (refine (order_Right _ l _ (HV.out.frF HB)).mono ?_; rintro _ w1 ⟨rfl, hb⟩; rw [HR.out]; replace HB := HB.trans hb; replace hbk := Lib.hid (hbk.out.fr hb); clear hb)) | (go_at_call 41; go_must (refine (order_Orders _ _ l _ _ hbk.out hl4).mono ?_; rintro _ w1 ⟨v2, rfl, hv2, hb⟩; replace HB := HB.trans hb; clear hb)) | (go_at_call 40; go_must (refine (ref16_Same _ _ l l _ (hv2.slv encO_len) (HV.out.frF HB)).mono ?_; rintro _ w1 ⟨rfl, hb⟩; simp only [beq_self_eq_true]; replace HB := HB.trans hb.fr; clear hb hv2)) | (go_at_call 32; go_must (refine (law16_alive _).mono ?_; rintro _ w1 ⟨rfl, hb⟩; replace HB := HB.trans hb; clear hb)))
      go_ret
      exact ⟨rfl, HB⟩
    · have HR := Lib.hid (decide_eq_false hr)
      have HP := Lib.hid hr
      clear hr
      go_enter Try.func9, Try.ntmps9
      go_wp2_with (first | (go_at_call 44; go_must (refine (ref16_Right _ l _ (HV.out.frF HB)).mono ?_; rintro _ w1 ⟨rfl, hb⟩; rw [HR.out]; replace HB := HB.trans hb; clear hb)) | (go_at_call 45; go_must (refine (order_Of _ l _ (HV.out.frF HB) hl4).mono ?_; rintro _ w1 ⟨_, h1, hb⟩; obtain rfl := h1 HP.out; replace HB := HB.trans hb; clear hb h1)) | (go_at_call 46; go_must (refine (order_Right _ l _ (HV.out.frF HB)).mono ?_; rintro _ w1 ⟨rfl, hb⟩; rw [HR.out]; replace HB := HB.trans hb; clear hb)) | (go_at_call 32; go_must (refine (law16_alive _).mono ?_; rintro _ w1 ⟨rfl, hb⟩; replace HB := HB.trans hb; clear hb)))
      go_ret
      exact ⟨rfl, HB⟩

set_option maxRecDepth 100000 in
theorem opens_ord : Opens Try.prog 61 (flat encO) := fun enc w fuel cs x h => by
  obtain ⟨hl, hf⟩ := field_opens Try.underlying61 h
  obtain ⟨k, hk⟩ := hf 0 _ rfl (opens_i64 Try.underlying3)
  obtain ⟨a, ha⟩ := hf 1 _ rfl (opens_i64 Try.underlying3)
  obtain ⟨b, hb⟩ := hf 2 _ rfl (opens_i64 Try.underlying3)
  obtain ⟨c, hc⟩ := hf 3 _ rfl (opens_i64 Try.underlying3)
  refine ⟨⟨k, a, b, c⟩, ?_⟩
  have e0 : Try.prog.cellsOf 61 = 4 := by kernel_rfl
  have e2 : Try.prog.cellsOf 3 = 1 := by kernel_rfl
  rw [e0] at hl
  match cs, hl with
  | [c0, c1, c2, c3], _ =>
    replace hk : ([c0, c1, c2, c3].drop 0).take (Try.prog.cellsOf 3) = encI k := hk
    replace ha : ([c0, c1, c2, c3].drop 1).take (Try.prog.cellsOf 3) = encI a := ha
    replace hb : ([c0, c1, c2, c3].drop 2).take (Try.prog.cellsOf 3) = encI b := hb
    replace hc : ([c0, c1, c2, c3].drop 3).take (Try.prog.cellsOf 3) = encI c := hc
    rw [e2] at hk ha hb hc
    simp only [List.drop, List.take] at hk ha hb hc
    simp only [encI, List.cons.injEq, and_true] at hk ha hb hc
    subst hk ha hb hc
    rfl
theorem opens : Opens Try.prog 48 (slR 4 (flat encO)) :=
  opens_slice Try.underlying48 (by kernel_rfl) (by omega) opens_ord

set_option maxRecDepth 100000 in
theorem walk {H : Type} {enc : TypeId × Value → H} (W : World) (base : Nat) (args : Array Value) (ds : List (DataW H)) (ps : List MemPlace) (hval : ∀ (j : Nat) t v, Try.f9.params[j]? = some t → args[j]? = some v → Value.okWide Try.prog W .any base t v)
    (hA : DataW.TrodAll enc Try.prog W 0 (fun _ => true) true Try.f9.params.toList args.toList ds ps) : Calls Try.prog 9 args W fun e W' => e = .returned (.bool true) ∧ Fr W W' := by
  rw [Try.params9] at hA
  obtain ⟨v0, vs0, d0, ds0, p0, q0, hargs, rfl, rfl, h0, r0⟩ := trodAll_cons hA
  obtain ⟨rfl, rfl, rfl⟩ := trodAll_nil r0
  obtain rfl : args = #[v0] := by cases args; simp_all
  rw [Try.params9] at hval
  obtain ⟨l, h⟩ := open_slv_arg Try.underlying48 (hval 0 _ v0 rfl rfl) h0 opens
  exact law v0 l W h

theorem own : ownKnob Try.prog.godebug = none := by kernel_rfl

set_option maxRecDepth 100000 in
theorem lifted (os : Os) (started : os.Started) (H : Type) (enc : TypeId × Value → H) :
    ReturnsInHanded {} Try.checked os 9 .any (Rows.orderListsSpec.pre6 enc Try.prog Try.f9 Rows.orderListsRow.domain false) (Rows.orderListsSpec.post enc Try.prog Try.f9 false true false false) :=
  Hf.law_lifted (C := Try.checked) own started (by kernel_rfl) Try.func9
    (ChangeSpec.witness6 (enc := enc) (C := Try.checked) false ⟨#[], #[.slice none 0 0], []⟩ 8 (by kernel_rfl) (by kernel_rfl) (by kernel_rfl) (by kernel_rfl))
    rfl (by kernel_rfl) Try.underlying4 (by kernel_rfl) (by kernel_rfl)
    (by intro ds h; rw [Try.params9] at h; match ds, h with | [_], _ => rfl) walk

theorem over : Rows.orderListsRow.holds Try.pinned (OpenSpec.ofChange Rows.orderListsSpec) :=
  OpenClaim.holds_of_wide 9 Try.f9 rfl rfl rfl rfl rfl rfl rfl ⟨rfl, rfl, rfl, rfl, rfl⟩ rfl rfl rfl rfl rfl (by kernel_rfl) Try.func9 (by kernel_rfl)
    (of_decide_eq_true (by kernel_rfl)) (by unfold Func.isWrapper; first | (rw [if_pos (by decide +kernel)]; kernel_rfl) | (rw [if_neg (by decide +kernel)]; exact ⟨rfl, rfl⟩))
    (fun os started H enc _ => lifted os started H enc)

/-- The statement. -/
theorem proved : Rows.OrderListsSaid := over
#print axioms proved
end Go.Proofs.Ythgmnlkblomcaaa.orderLists
