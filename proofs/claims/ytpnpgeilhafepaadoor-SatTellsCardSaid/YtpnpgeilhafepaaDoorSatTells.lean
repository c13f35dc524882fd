
/- SatTells: any number fitted, any two multiplied, and taken away, any numbers added (at most 200), and the text of any, are as the reference's. Condition: three tables of the library hold what the program's text lays in them. -/
import Derived.Test.YtpnpgeilhafepaaDoorSatA
import Derived.Test.YtpnpgeilhafepaaDoorCards
import Derived.Test.YtpnpgeilhafepaaDoorTie
namespace Go.Proofs.YtpnpgeilhafepaaDoor.satTells
open Go.ChangeShapes Go.WideShapes Go.ChangeAt Go.RowKit Go.Hf
open Go.ChangeMaps (open_string shut_string)

set_option maxRecDepth 100000 in
set_option maxHeartbeats 8000000 in
theorem law (a b : Int) (v : Value) (l : List Int) (w0 : World) (h : SlV 1 (flat encI) w0 v l) (hT : Pow w0) :
    Calls Tryd.prog 5 #[.int .i64 a, .int .i64 b, v] w0 fun en w' => en = .returned (.bool true) ∧ Fr w0 w' := by
  have HT := Lib.hid hT
  have HV := Lib.hid h
  have hm := h.len_le
  unfold maxLen at hm
  obtain ⟨A, _, cp, rfl, rfl, hl, hcm, hA, hs⟩ := h
  clear hs hA hT
  unfold maxLen at hcm
  have I := St.refl w0
  by_cases hl3 : 200 < l.length
  · go_enter Tryd.func5, Tryd.ntmps5
    try dsimp only [List.append]
    go_wp2_with (first | (first | ((with_reducible refine gguard ?_); (first | refine w_guardT (by rfl) (fun hb => ?_) (fun hb => ?_) | refine w_guardF (by rfl) (fun hb => ?_) (fun hb => ?_)) <;> first | (cases hb; done) | cases hb | ((try rw [hb]) <;> (try simp at hb) <;> go_prune <;> (try (with_reducible replace hb := eqPair hb)))) | (((with_reducible refine gbox ?_); first | refine w_boxA I (by rfl) ?_ | refine w_box1 I (by (conv => lhs; whnf) <;> rfl) (by rfl) ?_); clear I; intro g w I) | ((with_reducible refine galloc ?_); refine w_alloc I ?_; clear I; intro g w I) | ((with_reducible refine gload ?_); first | refine w_loadB I (by rfl) (by first | (with_reducible repeat (first | exact .here | apply At.there)); done | repeat (first | exact .here | apply At.there)) (by rfl) ?_ | refine w_loadBR I (by rfl) (by first | (with_reducible repeat (first | exact .here | apply At.there)); done | repeat (first | exact .here | apply At.there)) (by rfl) ?_ | refine w_load0 I (by rfl) (by assumption) ?_) | ((with_reducible refine gstore ?_); (first | refine w_storeB I (by rfl) (by (conv => lhs; whnf) <;> rfl) (by first | (with_reducible repeat (first | exact .here | apply Upd.there)); done | repeat (first | exact .here | apply Upd.there)) (by rfl) (by rfl) (by simp only [List.set_cons_zero, List.set_cons_succ] <;> rfl) ?_ | refine w_storeBR I (by rfl) (by rfl) (by first | (with_reducible repeat (first | exact .here | apply Upd.there)); done | repeat (first | exact .here | apply Upd.there)) (by rfl) (by rfl) (by rfl) ?_); clear I; intro w I)) | (go_at_call 19; go_must (refine (law02_alive _ (HT.out.fr I.fr)).mono ?_; rintro _ w1 ⟨rfl, hf⟩; replace I := I.still hf; clear hf)))
    all_goals try omega
    go_ret
    exact ⟨rfl, I.fr⟩
  · have HF := Lib.hid (fun w => sat_Fit a w)
    have HF2 := Lib.hid (fun w => ref02_Fit a w)
    have HM := Lib.hid (fun w => sat_Mul a b w)
    have HM2 := Lib.hid (fun w => ref02_Mul a b w)
    have HL := Lib.hid (fun w => sat_Less a b w)
    have HL2 := Lib.hid (fun w => ref02_Less a b w)
    have HA := Lib.hid (fun w (hf : Fr w0 w) => sat_Add _ l w (HV.out.fr (flat_stays _) hf))
    have HA2 := Lib.hid (fun w (hf : Fr w0 w) => ref02_Add _ l w (HV.out.fr (flat_stays _) hf))
    have HX := Lib.hid (fun w (hf : Fr w0 w) => sat_Text a w (HT.out.fr hf))
    have HX2 := Lib.hid (fun w => ref02_Text _ a (Nat.le_refl _) w)
    generalize Sat.text a = q5 at HX HX2
    generalize Sat.add l = q4 at HA HA2
    generalize Sat.less a b = q3 at HL HL2
    generalize Sat.mul a b = q2 at HM HM2
    generalize Sat.fit a = q1 at HF HF2
    go_enter Tryd.func5, Tryd.ntmps5
    try dsimp only [List.append]
    go_wp2_with (first | (first | ((with_reducible refine gguard ?_); (first | refine w_guardT (by rfl) (fun hb => ?_) (fun hb => ?_) | refine w_guardF (by rfl) (fun hb => ?_) (fun hb => ?_)) <;> first | (cases hb; done) | cases hb | ((try rw [hb]) <;> (try simp at hb) <;> go_prune <;> (try (with_reducible replace hb := eqPair hb)))) | (((with_reducible refine gbox ?_); first | refine w_boxA I (by rfl) ?_ | refine w_box1 I (by (conv => lhs; whnf) <;> rfl) (by rfl) ?_); clear I; intro g w I) | ((with_reducible refine galloc ?_); refine w_alloc I ?_; clear I; intro g w I) | ((with_reducible refine gload ?_); first | refine w_loadB I (by rfl) (by first | (with_reducible repeat (first | exact .here | apply At.there)); done | repeat (first | exact .here | apply At.there)) (by rfl) ?_ | refine w_loadBR I (by rfl) (by first | (with_reducible repeat (first | exact .here | apply At.there)); done | repeat (first | exact .here | apply At.there)) (by rfl) ?_ | refine w_load0 I (by rfl) (by assumption) ?_) | ((with_reducible refine gstore ?_); (first | refine w_storeB I (by rfl) (by (conv => lhs; whnf) <;> rfl) (by first | (with_reducible repeat (first | exact .here | apply Upd.there)); done | repeat (first | exact .here | apply Upd.there)) (by rfl) (by rfl) (by simp only [List.set_cons_zero, List.set_cons_succ] <;> rfl) ?_ | refine w_storeBR I (by rfl) (by rfl) (by first | (with_reducible repeat (first | exact .here | apply Upd.there)); done | repeat (first | exact .here | apply Upd.there)) (by rfl) (by rfl) (by rfl) ?_); clear I; intro w I)) | (go_at_call 19; go_must (refine (law02_alive _ (HT.out.fr I.fr)).mono ?_; rintro _ w1 ⟨rfl, hf⟩; replace I := I.still hf; clear hf)) | (go_at_call 20; go_must (refine (HF.out _).mono ?_; rintro _ w1 ⟨rfl, rfl⟩)) | (go_at_call 21; go_must (refine (HF2.out _).mono ?_; rintro _ w1 ⟨rfl, rfl⟩)) | (go_at_call 22; go_must (refine (HM.out _).mono ?_; rintro _ w1 ⟨rfl, hf⟩; replace I := I.still hf; clear hf)) | (go_at_call 23; go_must (refine (HM2.out _).mono ?_; rintro _ w1 ⟨rfl, rfl⟩)) | (go_at_call 24; go_must (refine (HL.out _).mono ?_; rintro _ w1 ⟨rfl, rfl⟩)) | (go_at_call 25; go_must (refine (HL2.out _).mono ?_; rintro _ w1 ⟨rfl, rfl⟩)) | (go_at_call 26; go_must (refine (HA.out _ I.fr).mono ?_; rintro _ w1 ⟨rfl, rfl⟩)) | (go_at_call 27; go_must (refine (HA2.out _ I.fr).mono ?_; rintro _ w1 ⟨rfl, rfl⟩)) | (go_at_call 28; go_must (refine (HX.out _ I.fr).mono ?_; rintro _ w1 ⟨rfl, hf⟩; replace I := I.still hf; clear hf)) | (go_at_call 29; go_must (refine (HX2.out _).mono ?_; rintro _ w1 ⟨rfl, hf⟩; replace I := I.still hf; clear hf)))
    all_goals try omega
    go_ret
    exact ⟨rfl, I.fr⟩

set_option maxRecDepth 100000 in
theorem walk {H : Type} {enc : TypeId × Value → H} (W : World) (base : Nat) (args : Array Value) (ds : List (DataW H)) (ps : List MemPlace) (hval : ∀ (j : Nat) t v, Tryd.f5.params[j]? = some t → args[j]? = some v → Value.okWide Tryd.prog W .any base t v)
    (hA : DataW.TrodAll enc Tryd.prog W 0 (fun _ => true) true Tryd.f5.params.toList args.toList ds ps) (hL : laidMetH Tryd.prog laid3 W) : Calls Tryd.prog 5 args W fun e W' => e = .returned (.bool true) ∧ Fr W W' := by
  rw [Tryd.params5] at hA
  obtain ⟨v0, vs0, d0, ds0, p0, q0, hargs, rfl, rfl, h0, r0⟩ := trodAll_cons hA
  obtain ⟨v1, vs1, d1, ds1, p1, q1, rfl, rfl, rfl, h1, r1⟩ := trodAll_cons r0
  obtain ⟨v2, vs2, d2, ds2, p2, q2, rfl, rfl, rfl, h2, r2⟩ := trodAll_cons r1
  obtain ⟨rfl, rfl, rfl⟩ := trodAll_nil r2
  obtain rfl : args = #[v0, v1, v2] := by cases args; simp_all
  rw [Tryd.params5] at hval
  obtain ⟨a, rfl, rfl, rfl, _⟩ := open_int Tryd.underlying3 (hval 0 _ v0 rfl rfl) h0
  obtain ⟨b, rfl, rfl, rfl, _⟩ := open_int Tryd.underlying3 (hval 1 _ v1 rfl rfl) h1
  obtain ⟨l, h⟩ := open_slv_arg Tryd.underlying38 (hval 2 _ v2 rfl rfl) h2 (opens_slice (n := 1) (R := flat encI) Tryd.underlying38 (by kernel_rfl) (by omega) (opens_i64 Tryd.underlying3))
  exact law a b v2 l W h (pow_of_laid hL)

theorem own : ownKnob Tryd.prog.godebug = none := by kernel_rfl

set_option maxRecDepth 100000 in
theorem lifted (os : Os) (started : os.Started) (H : Type) (enc : TypeId × Value → H) :
    ReturnsInHanded {} Tryd.checked os 5 .any (fun w args => (Rows.satTellsSpec.pre enc Tryd.prog Tryd.f5 [] false w args ∧ laidMetH Tryd.prog laid3 w) ∧ sizedMet enc Tryd.prog Tryd.f5 (OpenSpec.ofChange Rows.satTellsSpec) false w args) (Rows.satTellsSpec.post enc Tryd.prog Tryd.f5 false true false false) :=
  Hf.law_lifted_laid (C := Tryd.checked) (X := fun w => laidMetH Tryd.prog laid3 w) (fun _ _ hh h => h.of_heap hh) own started (by kernel_rfl) Tryd.func5
    (ChangeSpec.witness_shaped (enc := enc) (C := Tryd.checked) (os := os) (X := fun w _ => laidMetH Tryd.prog laid3 w) false (World.doorLaid Tryd.prog 400 os) #[.int .i64 0, .int .i64 0, .slice none 0 0] 8 rfl (World.shaped_of_RefB (by kernel_rfl) (by kernel_rfl)) (by kernel_rfl) (by kernel_rfl) (by kernel_rfl) (door_met3 os _))
    rfl (by kernel_rfl) Tryd.underlying4 (by kernel_rfl) (by kernel_rfl)
    (by intro ds h; rw [Tryd.params5] at h; match ds, h with | [_, _, _], _ => rfl) walk

/-- The row. -/
theorem over : Rows.satTellsRow.holds Tryd.pinned (OpenSpec.ofChange Rows.satTellsSpec) :=
  OpenClaim.holds_of_wide 5 Tryd.f5 rfl rfl rfl rfl rfl rfl rfl ⟨rfl, rfl, rfl, rfl, rfl⟩ rfl rfl rfl rfl rfl (by kernel_rfl) Tryd.func5 (by kernel_rfl)
    (of_decide_eq_true (by kernel_rfl)) (by unfold Func.isWrapper; first | (rw [if_pos (by decide +kernel)]; kernel_rfl) | (rw [if_neg (by decide +kernel)]; exact ⟨rfl, rfl⟩))
    (fun os started H enc _ => lifted os started H enc)

/-- The statement: the tied card. -/
theorem proved : Rows.SatTellsCardSaid :=
  Claim7.holds_tied_plain_at .later [] [.data, .data, .data] true Rows.satTellsCard.stood.harness Rows.satTellsCard.stood.looks
    over (fun _ h => by cases h) (by kernel_rfl) (fun _ h => by cases h) satTells_row_tie rfl ⟨rfl, rfl⟩ (by kernel_rfl) rfl
    (fun f fn hf hfn => by
      obtain rfl : f = 5 := Option.some.inj ((show Tryd.prog.funcNamed "hoarfrost/hoarfrostlaw02.SatTells" = some 5 by kernel_rfl).symm.trans hf) |>.symm
      obtain rfl : fn = Tryd.f5 := (Option.some.inj (Tryd.func5.symm.trans hfn)).symm
      refine ⟨by kernel_rfl, fun j t ht => ?_⟩
      rw [Tryd.params5] at ht
      exact match j, ht with
        | 0, ht => by obtain rfl := Option.some.inj ht; kernel_rfl
        | 1, ht => by obtain rfl := Option.some.inj ht; kernel_rfl
        | 2, ht => by obtain rfl := Option.some.inj ht; kernel_rfl
        | _ + 3, ht => by simp at ht)
    (by kernel_rfl)
#print axioms proved
end Go.Proofs.YtpnpgeilhafepaaDoor.satTells
