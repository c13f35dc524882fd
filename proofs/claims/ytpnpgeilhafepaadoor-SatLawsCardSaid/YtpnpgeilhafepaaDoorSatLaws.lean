
/- SatLaws: of any three numbers: sums and products hang neither on the order, nor on which are done first; a sum is not below any of its numbers, fitted; what was added, if the most was not met, is taken away again; a product with 1 is the number, fitted, with 0 it is 0. Condition: three tables of the library hold what the program's text lays in them. -/
import Derived.Test.YtpnpgeilhafepaaDoorSatA
import Derived.Test.YtpnpgeilhafepaaDoorCards
import Derived.Test.YtpnpgeilhafepaaDoorTie
namespace Go.Proofs.YtpnpgeilhafepaaDoor.satLaws
open Go.ChangeShapes Go.WideShapes Go.ChangeAt Go.RowKit Go.Hf
open Go.ChangeMaps (open_string shut_string)

set_option maxRecDepth 100000 in
set_option maxHeartbeats 8000000 in
theorem law (a b c : Int) (w0 : World) (hT : Pow w0) :
    Calls Tryd.prog 6 #[.int .i64 a, .int .i64 b, .int .i64 c] w0 fun en w' => en = .returned (.bool true) ∧ Fr w0 w' := by
  have HT := Lib.hid hT
  clear hT
  have I := St.refl w0
  have E1 := Sat.add_comm b a
  have E2 := Sat.add_left a b c
  have E3 := Sat.add_right a b c
  have E4 := Sat.mul_comm b a
  have E5 := Sat.mul_assoc a b c
  have E6 := Sat.sum_ge a b
  have E7 := Sat.sum_less a b
  have E8 := Sat.mul_1 a
  have E9 := Sat.mul_0 a
  have E10 := Sat.add_one a
  have E11 := Sat.fit_fit a
  have E12 := Sat.add_le [a, b]
  have AB := Lib.hid (fun v w (h : SlV 1 (flat encI) w v [a, b]) => sat_Add v [a, b] w h)
  have BA := Lib.hid (fun v w (h : SlV 1 (flat encI) w v [b, a]) => add_is v [b, a] _ E1 w h)
  have MAB := Lib.hid (fun w => sat_Mul a b w)
  have MBA := Lib.hid (fun w => mul_is b a _ E4 w)
  have BC := Lib.hid (fun v w (h : SlV 1 (flat encI) w v [b, c]) => sat_Add v [b, c] w h)
  have ABC := Lib.hid (fun v w (h : SlV 1 (flat encI) w v [a, b, c]) => sat_Add v [a, b, c] w h)
  have SC := Lib.hid (fun v w (h : SlV 1 (flat encI) w v [Sat.add [a, b], c]) => add_is v _ _ E2 w h)
  have AS := Lib.hid (fun v w (h : SlV 1 (flat encI) w v [a, Sat.add [b, c]]) => add_is v _ _ E3 w h)
  have MBC := Lib.hid (fun w => sat_Mul b c w)
  have MPC := Lib.hid (fun w => mul_is (Sat.mul a b) c _ E5 w)
  have MAQ := Lib.hid (fun w => sat_Mul a (Sat.mul b c) w)
  have FA := Lib.hid (fun w => sat_Fit a w)
  have FB := Lib.hid (fun w => sat_Fit b w)
  have FFA := Lib.hid (fun w => fit_is (Sat.fit a) _ E11 w)
  have LB := Lib.hid (fun h w => less_is (Sat.add [a, b]) b _ (E7 h).1 w)
  have LA := Lib.hid (fun h w => less_is (Sat.add [a, b]) a _ (E7 h).2 w)
  have M1 := Lib.hid (fun w => mul_is a 1 _ E8 w)
  have M0 := Lib.hid (fun w => mul_is a 0 _ E9 w)
  have A1 := Lib.hid (fun v w (h : SlV 1 (flat encI) w v [a]) => add_is v [a] _ E10 w h)
  have A0 := Lib.hid (fun w => add_is (.slice none 0 0) [] 0 rfl w (SlV.nil _ _ _))
  clear E1 E2 E3 E4 E5 E7 E8 E9 E10 E11
  generalize Sat.add [a, b, c] = sabc at *
  generalize Sat.add [a, b] = s at *
  generalize Sat.add [b, c] = sbc at *
  generalize Sat.mul a (Sat.mul b c) = pabc at *
  generalize Sat.mul a b = p at *
  generalize Sat.mul b c = pbc at *
  generalize Sat.fit a = fa at *
  generalize Sat.fit b = fb at *
  obtain ⟨e1, e2⟩ := E6
  have d1 : decide (s < fa) = false := decide_eq_false (by omega)
  have d2 : decide (s < fb) = false := decide_eq_false (by omega)
  by_cases hs : s < 4611686018427387904
  · have d3 : decide (s < 4611686018427387904) = true := decide_eq_true hs
    have HS := Lib.hid hs
    go_enter Tryd.func6, Tryd.ntmps6
    try dsimp only [List.append]
    go_wp2_with (first | (((with_reducible refine gbsr ?_); refine w_bsv (enc := encI) [a, b] (Value.int .i64) (fun _ => rfl) encI_len I (by rfl) (by rfl) (by decide) (by decide) (by decide) ?_); clear I; intro g w I) | (((with_reducible refine gbsr ?_); refine w_bsv (enc := encI) [b, a] (Value.int .i64) (fun _ => rfl) encI_len I (by rfl) (by rfl) (by decide) (by decide) (by decide) ?_); clear I; intro g w I) | (((with_reducible refine gbsr ?_); refine w_bsv (enc := encI) [s, c] (Value.int .i64) (fun _ => rfl) encI_len I (by rfl) (by rfl) (by decide) (by decide) (by decide) ?_); clear I; intro g w I) | (((with_reducible refine gbsr ?_); refine w_bsv (enc := encI) [b, c] (Value.int .i64) (fun _ => rfl) encI_len I (by rfl) (by rfl) (by decide) (by decide) (by decide) ?_); clear I; intro g w I) | (((with_reducible refine gbsr ?_); refine w_bsv (enc := encI) [a, sbc] (Value.int .i64) (fun _ => rfl) encI_len I (by rfl) (by rfl) (by decide) (by decide) (by decide) ?_); clear I; intro g w I) | (((with_reducible refine gbsr ?_); refine w_bsv (enc := encI) [a, b, c] (Value.int .i64) (fun _ => rfl) encI_len I (by rfl) (by rfl) (by decide) (by decide) (by decide) ?_); clear I; intro g w I) | (((with_reducible refine gbs ?_); refine w_bs1 (enc := encI) (b := a) encI_len I (by rfl) (by rfl) (by rfl) ?_); clear I; intro g w I) | (first | ((with_reducible refine gguard ?_); (first | refine w_guardT (by rfl) (fun hb => ?_) (fun hb => ?_) | refine w_guardF (by rfl) (fun hb => ?_) (fun hb => ?_)) <;> first | (cases hb; done) | cases hb | ((try rw [hb]) <;> (try simp at hb) <;> go_prune <;> (try (with_reducible replace hb := eqPair hb)))) | (((with_reducible refine gbox ?_); first | refine w_boxA I (by rfl) ?_ | refine w_box1 I (by (conv => lhs; whnf) <;> rfl) (by rfl) ?_); clear I; intro g w I) | ((with_reducible refine galloc ?_); refine w_alloc I ?_; clear I; intro g w I) | ((with_reducible refine gload ?_); first | refine w_loadB I (by rfl) (by first | (with_reducible repeat (first | exact .here | apply At.there)); done | repeat (first | exact .here | apply At.there)) (by rfl) ?_ | refine w_loadBR I (by rfl) (by first | (with_reducible repeat (first | exact .here | apply At.there)); done | repeat (first | exact .here | apply At.there)) (by rfl) ?_ | refine w_load0 I (by rfl) (by assumption) ?_) | ((with_reducible refine gstore ?_); (first | refine w_storeB I (by rfl) (by (conv => lhs; whnf) <;> rfl) (by first | (with_reducible repeat (first | exact .here | apply Upd.there)); done | repeat (first | exact .here | apply Upd.there)) (by rfl) (by rfl) (by simp only [List.set_cons_zero, List.set_cons_succ] <;> rfl) ?_ | refine w_storeBR I (by rfl) (by rfl) (by first | (with_reducible repeat (first | exact .here | apply Upd.there)); done | repeat (first | exact .here | apply Upd.there)) (by rfl) (by rfl) (by rfl) ?_); clear I; intro w I)) | (go_at_call 19; go_must (refine (law02_alive _ (HT.out.fr I.fr)).mono ?_; rintro _ w1 ⟨rfl, hf⟩; replace I := I.still hf; clear hf)) | (go_at_call 26; ((with_reducible refine (AB.out _ _ (I.slv .here encI_len)).mono ?_); rintro _ w1 ⟨rfl, rfl⟩)) | (go_at_call 26; ((with_reducible refine (BA.out _ _ (I.slv .here encI_len)).mono ?_); rintro _ w1 ⟨rfl, rfl⟩)) | (go_at_call 26; ((with_reducible refine (SC.out _ _ (I.slv .here encI_len)).mono ?_); rintro _ w1 ⟨rfl, rfl⟩)) | (go_at_call 26; ((with_reducible refine (SC.out _ _ (I.slv (.there .here) encI_len)).mono ?_); rintro _ w1 ⟨rfl, rfl⟩)) | (go_at_call 26; ((with_reducible refine (BC.out _ _ (I.slv .here encI_len)).mono ?_); rintro _ w1 ⟨rfl, rfl⟩)) | (go_at_call 26; ((with_reducible refine (AS.out _ _ (I.slv .here encI_len)).mono ?_); rintro _ w1 ⟨rfl, rfl⟩)) | (go_at_call 26; ((with_reducible refine (ABC.out _ _ (I.slv .here encI_len)).mono ?_); rintro _ w1 ⟨rfl, rfl⟩)) | (go_at_call 26; ((with_reducible refine (ABC.out _ _ (I.slv (.there .here) encI_len)).mono ?_); rintro _ w1 ⟨rfl, rfl⟩)) | (go_at_call 26; ((with_reducible refine (A1.out _ _ (I.slv .here encI_len)).mono ?_); rintro _ w1 ⟨rfl, rfl⟩)) | (go_at_call 26; ((with_reducible refine (A0.out _).mono ?_); rintro _ w1 ⟨rfl, rfl⟩)) | (go_at_call 22; ((with_reducible refine (MAB.out _).mono ?_); rintro _ w1 ⟨rfl, hf⟩; replace I := I.still hf; clear hf)) | (go_at_call 22; ((with_reducible refine (MBA.out _).mono ?_); rintro _ w1 ⟨rfl, hf⟩; replace I := I.still hf; clear hf)) | (go_at_call 22; ((with_reducible refine (MPC.out _).mono ?_); rintro _ w1 ⟨rfl, hf⟩; replace I := I.still hf; clear hf)) | (go_at_call 22; ((with_reducible refine (MBC.out _).mono ?_); rintro _ w1 ⟨rfl, hf⟩; replace I := I.still hf; clear hf)) | (go_at_call 22; ((with_reducible refine (MAQ.out _).mono ?_); rintro _ w1 ⟨rfl, hf⟩; replace I := I.still hf; clear hf)) | (go_at_call 22; ((with_reducible refine (M1.out _).mono ?_); rintro _ w1 ⟨rfl, hf⟩; replace I := I.still hf; clear hf)) | (go_at_call 22; ((with_reducible refine (M0.out _).mono ?_); rintro _ w1 ⟨rfl, hf⟩; replace I := I.still hf; clear hf)) | (go_at_call 20; ((with_reducible refine (FA.out _).mono ?_); rintro _ w1 ⟨rfl, rfl⟩)) | (go_at_call 20; ((with_reducible refine (FB.out _).mono ?_); rintro _ w1 ⟨rfl, rfl⟩)) | (go_at_call 20; ((with_reducible refine (FFA.out _).mono ?_); rintro _ w1 ⟨rfl, rfl⟩)) | (go_at_call 24; ((with_reducible refine (LB.out HS.out _).mono ?_); rintro _ w1 ⟨rfl, rfl⟩)) | (go_at_call 24; ((with_reducible refine (LA.out HS.out _).mono ?_); rintro _ w1 ⟨rfl, rfl⟩)))
    all_goals try omega
    go_ret
    exact ⟨rfl, I.fr⟩
  · have d3 : decide (s < 4611686018427387904) = false := decide_eq_false hs
    go_enter Tryd.func6, Tryd.ntmps6
    try dsimp only [List.append]
    go_wp2_with (first | (((with_reducible refine gbsr ?_); refine w_bsv (enc := encI) [a, b] (Value.int .i64) (fun _ => rfl) encI_len I (by rfl) (by rfl) (by decide) (by decide) (by decide) ?_); clear I; intro g w I) | (((with_reducible refine gbsr ?_); refine w_bsv (enc := encI) [b, a] (Value.int .i64) (fun _ => rfl) encI_len I (by rfl) (by rfl) (by decide) (by decide) (by decide) ?_); clear I; intro g w I) | (((with_reducible refine gbsr ?_); refine w_bsv (enc := encI) [s, c] (Value.int .i64) (fun _ => rfl) encI_len I (by rfl) (by rfl) (by decide) (by decide) (by decide) ?_); clear I; intro g w I) | (((with_reducible refine gbsr ?_); refine w_bsv (enc := encI) [b, c] (Value.int .i64) (fun _ => rfl) encI_len I (by rfl) (by rfl) (by decide) (by decide) (by decide) ?_); clear I; intro g w I) | (((with_reducible refine gbsr ?_); refine w_bsv (enc := encI) [a, sbc] (Value.int .i64) (fun _ => rfl) encI_len I (by rfl) (by rfl) (by decide) (by decide) (by decide) ?_); clear I; intro g w I) | (((with_reducible refine gbsr ?_); refine w_bsv (enc := encI) [a, b, c] (Value.int .i64) (fun _ => rfl) encI_len I (by rfl) (by rfl) (by decide) (by decide) (by decide) ?_); clear I; intro g w I) | (((with_reducible refine gbs ?_); refine w_bs1 (enc := encI) (b := a) encI_len I (by rfl) (by rfl) (by rfl) ?_); clear I; intro g w I) | (first | ((with_reducible refine gguard ?_); (first | refine w_guardT (by rfl) (fun hb => ?_) (fun hb => ?_) | refine w_guardF (by rfl) (fun hb => ?_) (fun hb => ?_)) <;> first | (cases hb; done) | cases hb | ((try rw [hb]) <;> (try simp at hb) <;> go_prune <;> (try (with_reducible replace hb := eqPair hb)))) | (((with_reducible refine gbox ?_); first | refine w_boxA I (by rfl) ?_ | refine w_box1 I (by (conv => lhs; whnf) <;> rfl) (by rfl) ?_); clear I; intro g w I) | ((with_reducible refine galloc ?_); refine w_alloc I ?_; clear I; intro g w I) | ((with_reducible refine gload ?_); first | refine w_loadB I (by rfl) (by first | (with_reducible repeat (first | exact .here | apply At.there)); done | repeat (first | exact .here | apply At.there)) (by rfl) ?_ | refine w_loadBR I (by rfl) (by first | (with_reducible repeat (first | exact .here | apply At.there)); done | repeat (first | exact .here | apply At.there)) (by rfl) ?_ | refine w_load0 I (by rfl) (by assumption) ?_) | ((with_reducible refine gstore ?_); (first | refine w_storeB I (by rfl) (by (conv => lhs; whnf) <;> rfl) (by first | (with_reducible repeat (first | exact .here | apply Upd.there)); done | repeat (first | exact .here | apply Upd.there)) (by rfl) (by rfl) (by simp only [List.set_cons_zero, List.set_cons_succ] <;> rfl) ?_ | refine w_storeBR I (by rfl) (by rfl) (by first | (with_reducible repeat (first | exact .here | apply Upd.there)); done | repeat (first | exact .here | apply Upd.there)) (by rfl) (by rfl) (by rfl) ?_); clear I; intro w I)) | (go_at_call 19; go_must (refine (law02_alive _ (HT.out.fr I.fr)).mono ?_; rintro _ w1 ⟨rfl, hf⟩; replace I := I.still hf; clear hf)) | (go_at_call 26; ((with_reducible refine (AB.out _ _ (I.slv .here encI_len)).mono ?_); rintro _ w1 ⟨rfl, rfl⟩)) | (go_at_call 26; ((with_reducible refine (BA.out _ _ (I.slv .here encI_len)).mono ?_); rintro _ w1 ⟨rfl, rfl⟩)) | (go_at_call 26; ((with_reducible refine (SC.out _ _ (I.slv .here encI_len)).mono ?_); rintro _ w1 ⟨rfl, rfl⟩)) | (go_at_call 26; ((with_reducible refine (SC.out _ _ (I.slv (.there .here) encI_len)).mono ?_); rintro _ w1 ⟨rfl, rfl⟩)) | (go_at_call 26; ((with_reducible refine (BC.out _ _ (I.slv .here encI_len)).mono ?_); rintro _ w1 ⟨rfl, rfl⟩)) | (go_at_call 26; ((with_reducible refine (AS.out _ _ (I.slv .here encI_len)).mono ?_); rintro _ w1 ⟨rfl, rfl⟩)) | (go_at_call 26; ((with_reducible refine (ABC.out _ _ (I.slv .here encI_len)).mono ?_); rintro _ w1 ⟨rfl, rfl⟩)) | (go_at_call 26; ((with_reducible refine (ABC.out _ _ (I.slv (.there .here) encI_len)).mono ?_); rintro _ w1 ⟨rfl, rfl⟩)) | (go_at_call 26; ((with_reducible refine (A1.out _ _ (I.slv .here encI_len)).mono ?_); rintro _ w1 ⟨rfl, rfl⟩)) | (go_at_call 26; ((with_reducible refine (A0.out _).mono ?_); rintro _ w1 ⟨rfl, rfl⟩)) | (go_at_call 22; ((with_reducible refine (MAB.out _).mono ?_); rintro _ w1 ⟨rfl, hf⟩; replace I := I.still hf; clear hf)) | (go_at_call 22; ((with_reducible refine (MBA.out _).mono ?_); rintro _ w1 ⟨rfl, hf⟩; replace I := I.still hf; clear hf)) | (go_at_call 22; ((with_reducible refine (MPC.out _).mono ?_); rintro _ w1 ⟨rfl, hf⟩; replace I := I.still hf; clear hf)) | (go_at_call 22; ((with_reducible refine (MBC.out _).mono ?_); rintro _ w1 ⟨rfl, hf⟩; replace I := I.still hf; clear hf)) | (go_at_call 22; ((with_reducible refine (MAQ.out _).mono ?_); rintro _ w1 ⟨rfl, hf⟩; replace I := I.still hf; clear hf)) | (go_at_call 22; ((with_reducible refine (M1.out _).mono ?_); rintro _ w1 ⟨rfl, hf⟩; replace I := I.still hf; clear hf)) | (go_at_call 22; ((with_reducible refine (M0.out _).mono ?_); rintro _ w1 ⟨rfl, hf⟩; replace I := I.still hf; clear hf)) | (go_at_call 20; ((with_reducible refine (FA.out _).mono ?_); rintro _ w1 ⟨rfl, rfl⟩)) | (go_at_call 20; ((with_reducible refine (FB.out _).mono ?_); rintro _ w1 ⟨rfl, rfl⟩)) | (go_at_call 20; ((with_reducible refine (FFA.out _).mono ?_); rintro _ w1 ⟨rfl, rfl⟩)))
    all_goals try omega
    go_ret
    exact ⟨rfl, I.fr⟩

set_option maxRecDepth 100000 in
theorem walk {H : Type} {enc : TypeId × Value → H} (W : World) (base : Nat) (args : Array Value) (ds : List (DataW H)) (ps : List MemPlace) (hval : ∀ (j : Nat) t v, Tryd.f6.params[j]? = some t → args[j]? = some v → Value.okWide Tryd.prog W .any base t v)
    (hA : DataW.TrodAll enc Tryd.prog W 0 (fun _ => true) true Tryd.f6.params.toList args.toList ds ps) (hL : laidMetH Tryd.prog laid3 W) : Calls Tryd.prog 6 args W fun e W' => e = .returned (.bool true) ∧ Fr W W' := by
  rw [Tryd.params6] at hA
  obtain ⟨v0, vs0, d0, ds0, p0, q0, hargs, rfl, rfl, h0, r0⟩ := trodAll_cons hA
  obtain ⟨v1, vs1, d1, ds1, p1, q1, rfl, rfl, rfl, h1, r1⟩ := trodAll_cons r0
  obtain ⟨v2, vs2, d2, ds2, p2, q2, rfl, rfl, rfl, h2, r2⟩ := trodAll_cons r1
  obtain ⟨rfl, rfl, rfl⟩ := trodAll_nil r2
  obtain rfl : args = #[v0, v1, v2] := by cases args; simp_all
  rw [Tryd.params6] at hval
  obtain ⟨a, rfl, rfl, rfl, _⟩ := open_int Tryd.underlying3 (hval 0 _ v0 rfl rfl) h0
  obtain ⟨b, rfl, rfl, rfl, _⟩ := open_int Tryd.underlying3 (hval 1 _ v1 rfl rfl) h1
  obtain ⟨c, rfl, rfl, rfl, _⟩ := open_int Tryd.underlying3 (hval 2 _ v2 rfl rfl) h2
  exact law a b c W (pow_of_laid hL)

theorem own : ownKnob Tryd.prog.godebug = none := by kernel_rfl

set_option maxRecDepth 100000 in
theorem lifted (os : Os) (started : os.Started) (H : Type) (enc : TypeId × Value → H) :
    ReturnsInHanded {} Tryd.checked os 6 .any (fun w args => (Rows.satLawsSpec.pre enc Tryd.prog Tryd.f6 [] false w args ∧ laidMetH Tryd.prog laid3 w) ∧ sizedMet enc Tryd.prog Tryd.f6 (OpenSpec.ofChange Rows.satLawsSpec) false w args) (Rows.satLawsSpec.post enc Tryd.prog Tryd.f6 false true false false) :=
  Hf.law_lifted_laid (C := Tryd.checked) (X := fun w => laidMetH Tryd.prog laid3 w) (fun _ _ hh h => h.of_heap hh) own started (by kernel_rfl) Tryd.func6
    (ChangeSpec.witness_shaped (enc := enc) (C := Tryd.checked) (os := os) (X := fun w _ => laidMetH Tryd.prog laid3 w) false (World.doorLaid Tryd.prog 400 os) #[.int .i64 0, .int .i64 0, .int .i64 0] 8 rfl (World.shaped_of_RefB (by kernel_rfl) (by kernel_rfl)) (by kernel_rfl) (by kernel_rfl) (by kernel_rfl) (door_met3 os _))
    rfl (by kernel_rfl) Tryd.underlying4 (by kernel_rfl) (by kernel_rfl)
    (by intro ds h; rw [Tryd.params6] at h; match ds, h with | [_, _, _], _ => rfl) walk

/-- The row. -/
theorem over : Rows.satLawsRow.holds Tryd.pinned (OpenSpec.ofChange Rows.satLawsSpec) :=
  OpenClaim.holds_of_wide 6 Tryd.f6 rfl rfl rfl rfl rfl rfl rfl ⟨rfl, rfl, rfl, rfl, rfl⟩ rfl rfl rfl rfl rfl (by kernel_rfl) Tryd.func6 (by kernel_rfl)
    (of_decide_eq_true (by kernel_rfl)) (by unfold Func.isWrapper; first | (rw [if_pos (by decide +kernel)]; kernel_rfl) | (rw [if_neg (by decide +kernel)]; exact ⟨rfl, rfl⟩))
    (fun os started H enc _ => lifted os started H enc)

/-- The statement: the tied card. -/
theorem proved : Rows.SatLawsCardSaid :=
  Claim7.holds_tied_plain_at .later [] [.data, .data, .data] true Rows.satLawsCard.stood.harness Rows.satLawsCard.stood.looks
    over (fun _ h => by cases h) (by kernel_rfl) (fun _ h => by cases h) satLaws_row_tie rfl ⟨rfl, rfl⟩ (by kernel_rfl) rfl
    (fun f fn hf hfn => by
      obtain rfl : f = 6 := Option.some.inj ((show Tryd.prog.funcNamed "hoarfrost/hoarfrostlaw02.SatLaws" = some 6 by kernel_rfl).symm.trans hf) |>.symm
      obtain rfl : fn = Tryd.f6 := (Option.some.inj (Tryd.func6.symm.trans hfn)).symm
      refine ⟨by kernel_rfl, fun j t ht => ?_⟩
      rw [Tryd.params6] at ht
      exact match j, ht with
        | 0, ht => by obtain rfl := Option.some.inj ht; kernel_rfl
        | 1, ht => by obtain rfl := Option.some.inj ht; kernel_rfl
        | 2, ht => by obtain rfl := Option.some.inj ht; kernel_rfl
        | _ + 3, ht => by simp at ht)
    (by kernel_rfl)
#print axioms proved
end Go.Proofs.YtpnpgeilhafepaaDoor.satLaws
