/- KeepTells: the allowance of any lot, of at most 60 stays, whether it is held, and may be shipped, and what is made of it, are as the reference's. -/
import Derived.Test.YthgmnlkblomcaaaKeepK
namespace Go.Proofs.Ythgmnlkblomcaaa.keepTells
open Go.ChangeShapes Go.WideShapes Go.ChangeAt Go.RowKit Go.Hf

theorem reads {w0 w w' : World} {A : Option Addr} {n c : Nat} {r : Lot × Int} {en : Ending} {ss : List Stay} (hs : Stays w0 (.slice A n c) ss) (h : RefPost w A n c r en w') : ∃ A' n' c', en = .returned (.tuple #[aggL r.1 A' n' c', .int .i64 r.2]) ∧ Stays w0 (.slice A' n' c') (if r.2 = 0 then ss else []) ∧ St w w' [] := by
  obtain ⟨A', n', c', h1, h2, h3, h4⟩ := h
  refine ⟨A', n', c', h1, ?_, h2⟩
  by_cases h : r.2 = 0
  · obtain ⟨rfl, rfl, rfl⟩ := h3 h; rw [if_pos h]; exact hs
  · obtain ⟨rfl, rfl, rfl⟩ := h4 h; rw [if_neg h]; exact SlV.nil _ _ _

set_option maxRecDepth 100000 in
set_option maxHeartbeats 4000000 in
theorem law (p : Prod) (d : Lot) (A : Option Addr) (n c : Nat) (ss : List Stay) (x0 x1 x2 : Int) (w : World) (h : Stays w (.slice A n c) ss) :
    Calls Try.prog 10 #[aggP p, aggL d A n c, .agg #[.int .i64 x0, .int .i64 x1, .int .i64 x2]] w fun en w' => en = .returned (.bool true) ∧ Fr w w' := by
  have hm := h.len_le
  unfold maxLen at hm
  have hn : ss.length = n := by obtain ⟨_, _, _, h1, h2, _⟩ := h; injection h1 with _ h3 _; omega
  subst hn
  have HV := Lib.hid h
  clear h
  have I := St.refl w
  by_cases hl3 : 60 < ss.length
  · go_enter Try.func10, Try.ntmps10
    try dsimp only [List.append]
    go_wp2_with (first | (first | ((with_reducible refine gguard ?_); first | refine w_want (by rfl) ?_ | (refine w_guard (by rfl) (fun hb => ?_) (fun hb => ?_) <;> (try simp only [decide_eq_true_eq, decide_eq_false_iff_not, Bool.not_true, Bool.not_false, Bool.and_eq_true, Bool.or_eq_true, Bool.and_eq_false_iff, Bool.or_eq_false_iff] at hb) <;> go_prune)) | (((with_reducible refine gbox ?_); first | refine w_boxA I (by rfl) ?_ | refine w_box1 I (by (conv => lhs; whnf) <;> rfl) (by rfl) ?_); clear I; intro g w I) | ((with_reducible refine galloc ?_); refine w_alloc I ?_; clear I; intro g w I) | ((with_reducible refine gload ?_); first | refine w_loadB I (by rfl) (by first | (with_reducible repeat (first | exact .here | apply At.there)); done | repeat (first | exact .here | apply At.there)) (by rfl) ?_ | refine w_loadBR I (by rfl) (by first | (with_reducible repeat (first | exact .here | apply At.there)); done | repeat (first | exact .here | apply At.there)) (by rfl) ?_ | refine w_load0 I (by rfl) (by assumption) ?_) | ((with_reducible refine gstore ?_); (first | refine w_storeB I (by rfl) (by (conv => lhs; whnf) <;> rfl) (by first | (with_reducible repeat (first | exact .here | apply Upd.there)); done | repeat (first | exact .here | apply Upd.there)) (by rfl) (by rfl) (by simp only [List.set_cons_zero, List.set_cons_succ] <;> rfl) ?_ | refine w_storeBR I (by rfl) (by rfl) (by first | (with_reducible repeat (first | exact .here | apply Upd.there)); done | repeat (first | exact .here | apply Upd.there)) (by rfl) (by rfl) (by rfl) ?_); clear I; intro w I)) | (go_at_call 47; go_must (refine (law14_alive _).mono ?_; rintro _ w1 ⟨rfl, hf⟩; replace I := I.still hf; clear hf)))
    go_ret
    exact ⟨rfl, I.fr⟩
  · have hl4 : ss.length ≤ 1000 := by omega
    have hJ := fun wx (hx : Stays wx (.slice A ss.length c) ss) => keep_judge p d x0 A _ c ss wx hx hl4
    have hJ2 := fun wx => ref14_judge p d x0 A ss.length c wx
    generalize Keep.judge p d x0 = j at hJ hJ2
    have hR := fun wx (hx : Stays wx (.slice A ss.length c) ss) => keep_release p d x0 A _ c ss wx hx hl4
    have hR2 := fun wx => (ref14_release p d x0 A ss.length c wx).mono (fun _ _ h => reads HV.out h)
    generalize Keep.release p d x0 = r at hR hR2
    have hV := fun wx (hx : Stays wx (.slice A ss.length c) ss) => keep_review p d x0 x1 A _ c ss wx hx hl4
    have hV2 := fun wx => (ref14_review p d x0 x1 A ss.length c wx).mono (fun _ _ h => reads HV.out h)
    generalize Keep.review p d x0 x1 = v at hV hV2
    have hH := fun wx (hx : Stays wx (.slice A ss.length c) ss) => keep_hold d A _ c ss wx hx hl4
    have hH2 := fun wx => (ref14_hold d A ss.length c wx).mono (fun _ _ h => reads HV.out h)
    generalize Keep.hold d = hh at hH hH2
    have hX := fun wx (hx : Stays wx (.slice A ss.length c) ss) => keep_reject d A _ c ss wx hx hl4
    have hX2 := fun wx => (ref14_reject d A ss.length c wx).mono (fun _ _ h => reads HV.out h)
    generalize Keep.reject d = rj at hX hX2
    have HJ := Lib.hid hJ
    have HJ2 := Lib.hid hJ2
    have HR := Lib.hid hR
    have HR2 := Lib.hid hR2
    have HW := Lib.hid hV
    have HW2 := Lib.hid hV2
    have HH := Lib.hid hH
    have HH2 := Lib.hid hH2
    have HX := Lib.hid hX
    have HX2 := Lib.hid hX2
    clear hJ hJ2 hR hR2 hV hV2 hH hH2 hX hX2
    go_enter Try.func10, Try.ntmps10
    try dsimp only [List.append]
    go_wp2_with (first | ((with_reducible refine gbox (ty := 70) ?_); (first | refine w_boxA I (by rfl) ?_ | refine w_box1 I (by (conv => lhs; whnf) <;> rfl) (by rfl) ?_); clear I; intro gp w I) | ((with_reducible refine gbox (ty := 73) ?_); (first | refine w_boxA I (by rfl) ?_ | refine w_box1 I (by (conv => lhs; whnf) <;> rfl) (by rfl) ?_); clear I; intro gl w I) | ((with_reducible refine gbox (ty := 74) ?_); (first | refine w_boxA I (by rfl) ?_ | refine w_box1 I (by (conv => lhs; whnf) <;> rfl) (by rfl) ?_); clear I; intro g3 w I) | (first | ((with_reducible refine gguard ?_); first | refine w_want (by rfl) ?_ | (refine w_guard (by rfl) (fun hb => ?_) (fun hb => ?_) <;> (try simp only [decide_eq_true_eq, decide_eq_false_iff_not, Bool.not_true, Bool.not_false, Bool.and_eq_true, Bool.or_eq_true, Bool.and_eq_false_iff, Bool.or_eq_false_iff] at hb) <;> go_prune)) | (((with_reducible refine gbox ?_); first | refine w_boxA I (by rfl) ?_ | refine w_box1 I (by (conv => lhs; whnf) <;> rfl) (by rfl) ?_); clear I; intro g w I) | ((with_reducible refine galloc ?_); refine w_alloc I ?_; clear I; intro g w I) | ((with_reducible refine gload ?_); first | refine w_loadB I (by rfl) (by first | (with_reducible repeat (first | exact .here | apply At.there)); done | repeat (first | exact .here | apply At.there)) (by rfl) ?_ | refine w_loadBR I (by rfl) (by first | (with_reducible repeat (first | exact .here | apply At.there)); done | repeat (first | exact .here | apply At.there)) (by rfl) ?_ | refine w_load0 I (by rfl) (by assumption) ?_) | ((with_reducible refine gstore ?_); (first | refine w_storeB I (by rfl) (by (conv => lhs; whnf) <;> rfl) (by first | (with_reducible repeat (first | exact .here | apply Upd.there)); done | repeat (first | exact .here | apply Upd.there)) (by rfl) (by rfl) (by simp only [List.set_cons_zero, List.set_cons_succ] <;> rfl) ?_ | refine w_storeBR I (by rfl) (by rfl) (by first | (with_reducible repeat (first | exact .here | apply Upd.there)); done | repeat (first | exact .here | apply Upd.there)) (by rfl) (by rfl) (by rfl) ?_); clear I; intro w I)) | (go_at_call 48; go_must (refine (HJ.out _ (HV.out.frF I.fr)).mono ?_; rintro _ w1 ⟨A1, n1, c1, rfl, S⟩; replace I := I.then1 S; clear S)) | (go_at_call 49; go_must (refine (HJ2.out _).mono ?_; rintro _ w1 ⟨rfl, S⟩; replace I := I.then0 S; clear S)) | (go_at_call 50; go_must (refine (HR.out _ (HV.out.frF I.fr)).mono ?_; rintro _ w1 ⟨A2, n2, c2, rfl, S⟩; replace I := I.then1 S; clear S)) | (go_at_call 51; go_must (refine (HR2.out _).mono ?_; rintro _ w1 ⟨A3, n3, c3, rfl, s3, S⟩; replace I := I.then0 S; replace s3 := Lib.hid s3; clear S)) | (go_at_call 52; go_must (refine (HW.out _ (HV.out.frF I.fr)).mono ?_; rintro _ w1 ⟨A4, n4, c4, rfl, S⟩; replace I := I.then1 S; clear S)) | (go_at_call 53; go_must (refine (HW2.out _).mono ?_; rintro _ w1 ⟨A5, n5, c5, rfl, s5, S⟩; replace I := I.then0 S; replace s5 := Lib.hid s5; clear S)) | (go_at_call 54; go_must (refine (HH.out _ (HV.out.frF I.fr)).mono ?_; rintro _ w1 ⟨A6, n6, c6, rfl, S⟩; replace I := I.then1 S; clear S)) | (go_at_call 55; go_must (refine (HH2.out _).mono ?_; rintro _ w1 ⟨A7, n7, c7, rfl, s7, S⟩; replace I := I.then0 S; replace s7 := Lib.hid s7; clear S)) | (go_at_call 56; go_must (refine (HX.out _ (HV.out.frF I.fr)).mono ?_; rintro _ w1 ⟨A8, n8, c8, rfl, S⟩; replace I := I.then1 S; clear S)) | (go_at_call 57; go_must (refine (HX2.out _).mono ?_; rintro _ w1 ⟨A9, n9, c9, rfl, s9, S⟩; replace I := I.then0 S; replace s9 := Lib.hid s9; clear S)) | (go_at_call 58; ((with_reducible refine (ref12_One _ A1 A n1 _ c1 c ss _ (I.slv (by first | (with_reducible repeat (first | exact .here | apply At.there)); done | repeat (first | exact .here | apply At.there)) encS_len) (HV.out.frF I.fr)).mono ?_); rintro _ w1 ⟨rfl, hf⟩; replace I := I.still hf; clear hf)) | (go_at_call 58; ((with_reducible refine (ref12_One _ A2 A3 n2 n3 c2 c3 _ _ (I.slv (by first | (with_reducible repeat (first | exact .here | apply At.there)); done | repeat (first | exact .here | apply At.there)) encS_len) (s3.out.frF I.fr)).mono ?_); rintro _ w1 ⟨rfl, hf⟩; replace I := I.still hf; clear hf)) | (go_at_call 58; ((with_reducible refine (ref12_One _ A4 A5 n4 n5 c4 c5 _ _ (I.slv (by first | (with_reducible repeat (first | exact .here | apply At.there)); done | repeat (first | exact .here | apply At.there)) encS_len) (s5.out.frF I.fr)).mono ?_); rintro _ w1 ⟨rfl, hf⟩; replace I := I.still hf; clear hf)) | (go_at_call 58; ((with_reducible refine (ref12_One _ A6 A7 n6 n7 c6 c7 _ _ (I.slv (by first | (with_reducible repeat (first | exact .here | apply At.there)); done | repeat (first | exact .here | apply At.there)) encS_len) (s7.out.frF I.fr)).mono ?_); rintro _ w1 ⟨rfl, hf⟩; replace I := I.still hf; clear hf)) | (go_at_call 58; ((with_reducible refine (ref12_One _ A8 A9 n8 n9 c8 c9 _ _ (I.slv (by first | (with_reducible repeat (first | exact .here | apply At.there)); done | repeat (first | exact .here | apply At.there)) encS_len) (s9.out.frF I.fr)).mono ?_); rintro _ w1 ⟨rfl, hf⟩; replace I := I.still hf; clear hf)))
    have hp := fun w' (hf : Fr w1 w') i => (((I.still hf).cells (g := gp) (by first | (with_reducible repeat (first | exact .here | apply At.there)); done | repeat (first | exact .here | apply At.there))).1 i)
    have hl := fun w' (hf : Fr w1 w') i => (((I.still hf).cells (g := gl) (by first | (with_reducible repeat (first | exact .here | apply At.there)); done | repeat (first | exact .here | apply At.there))).1 i)
    have h3 := fun w' (hf : Fr w1 w') i => (((I.still hf).cells (g := g3) (by first | (with_reducible repeat (first | exact .here | apply At.there)); done | repeat (first | exact .here | apply At.there))).1 i)
    replace I := Lib.hid I
    go_region_held3 (fun w' => Fr w1 w') (first | assumption | exact (Fr.refl _).drew | exact Fr.trans (by assumption) (by assumption)) (first | (go_at_call 47; go_must (refine (law14_alive _).mono ?_; rintro _ w1 ⟨rfl, hf⟩)) | (go_at_call 59; go_must (refine (keep_Allowance p d A _ c _).mono ?_; rintro _ w1 ⟨rfl, hf⟩)) | (go_at_call 60; go_must (refine (ref14_Allowance p d A _ c _).mono ?_; rintro _ w1 ⟨rfl, hf⟩)) | (go_at_call 61; go_must (refine (keep_may p d x0 x2 A _ c _).mono ?_; rintro _ w1 ⟨rfl, S⟩; have hf := S.fr; clear S)) | (go_at_call 62; go_must (refine (ref14_may p d x0 x2 A _ c _).mono ?_; rintro _ w1 ⟨rfl, S⟩; have hf := S.fr; clear S)))
    replace I := I.out.still (by assumption)
    clear hp hl h3
    go_wp2_with (first | ((with_reducible refine gguard ?_); first | refine w_want (by rfl) ?_ | (refine w_guard (by rfl) (fun hb => ?_) (fun hb => ?_) <;> (try simp only [decide_eq_true_eq, decide_eq_false_iff_not, Bool.not_true, Bool.not_false, Bool.and_eq_true, Bool.or_eq_true, Bool.and_eq_false_iff, Bool.or_eq_false_iff] at hb) <;> go_prune)) | (((with_reducible refine gbox ?_); first | refine w_boxA I (by rfl) ?_ | refine w_box1 I (by (conv => lhs; whnf) <;> rfl) (by rfl) ?_); clear I; intro g w I) | ((with_reducible refine galloc ?_); refine w_alloc I ?_; clear I; intro g w I) | ((with_reducible refine gload ?_); first | refine w_loadB I (by rfl) (by first | (with_reducible repeat (first | exact .here | apply At.there)); done | repeat (first | exact .here | apply At.there)) (by rfl) ?_ | refine w_loadBR I (by rfl) (by first | (with_reducible repeat (first | exact .here | apply At.there)); done | repeat (first | exact .here | apply At.there)) (by rfl) ?_ | refine w_load0 I (by rfl) (by assumption) ?_) | ((with_reducible refine gstore ?_); (first | refine w_storeB I (by rfl) (by (conv => lhs; whnf) <;> rfl) (by first | (with_reducible repeat (first | exact .here | apply Upd.there)); done | repeat (first | exact .here | apply Upd.there)) (by rfl) (by rfl) (by simp only [List.set_cons_zero, List.set_cons_succ] <;> rfl) ?_ | refine w_storeBR I (by rfl) (by rfl) (by first | (with_reducible repeat (first | exact .here | apply Upd.there)); done | repeat (first | exact .here | apply Upd.there)) (by rfl) (by rfl) (by rfl) ?_); clear I; intro w I))
    go_ret
    exact ⟨rfl, I.fr⟩

set_option maxRecDepth 100000 in
theorem walk {H : Type} {enc : TypeId × Value → H} (W : World) (base : Nat) (args : Array Value) (ds : List (DataW H)) (ps : List MemPlace) (hval : ∀ (j : Nat) t v, Try.f10.params[j]? = some t → args[j]? = some v → Value.okWide Try.prog W .any base t v)
    (hA : DataW.TrodAll enc Try.prog W 0 (fun _ => true) true Try.f10.params.toList args.toList ds ps) : Calls Try.prog 10 args W fun e W' => e = .returned (.bool true) ∧ Fr W W' := by
  rw [Try.params10] at hA
  obtain ⟨v0, vs0, d0, ds0, p0, q0, hargs, rfl, rfl, h0, r0⟩ := trodAll_cons hA
  obtain ⟨v1, vs1, d1, ds1, p1, q1, rfl, rfl, rfl, h1, r1⟩ := trodAll_cons r0
  obtain ⟨v2, vs2, d2, ds2, p2, q2, rfl, rfl, rfl, h2, r2⟩ := trodAll_cons r1
  obtain ⟨rfl, rfl, rfl⟩ := trodAll_nil r2
  obtain rfl : args = #[v0, v1, v2] := by cases args; simp_all
  rw [Try.params10] at hval
  obtain ⟨p, rfl⟩ := open_prod (hval 0 _ v0 rfl rfl) h0
  obtain ⟨l, A, n, c, ss, rfl, hs⟩ := open_lot (hval 1 _ v1 rfl rfl) h1
  obtain ⟨cs, rfl, hf⟩ := open_flat_arg (ks := [.int .i64, .int .i64, .int .i64]) (by kernel_rfl) (hval 2 _ v2 rfl rfl) h2
  obtain ⟨x0, x1, x2, rfl⟩ := ints3 hf
  exact law p l A n c ss x0 x1 x2 W hs

theorem own : ownKnob Try.prog.godebug = none := by kernel_rfl

set_option maxRecDepth 100000 in
theorem lifted (os : Os) (started : os.Started) (H : Type) (enc : TypeId × Value → H) :
    ReturnsInHanded {} Try.checked os 10 .any (Rows.keepTellsSpec.pre6 enc Try.prog Try.f10 Rows.keepTellsRow.domain false) (Rows.keepTellsSpec.post enc Try.prog Try.f10 false true false false) :=
  Hf.law_lifted (C := Try.checked) own started (by kernel_rfl) Try.func10
    (ChangeSpec.witness6 (enc := enc) (C := Try.checked) false ⟨#[], #[aggP ⟨0, 0, 0⟩, aggL Lot.zero none 0 0, .agg #[.int .i64 0, .int .i64 0, .int .i64 0]], []⟩ 8 (by kernel_rfl) (by kernel_rfl) (by kernel_rfl) (by kernel_rfl))
    rfl (by kernel_rfl) Try.underlying4 (by kernel_rfl) (by kernel_rfl)
    (by intro ds h; rw [Try.params10] at h; match ds, h with | [_, _, _], _ => rfl) walk

theorem over : Rows.keepTellsRow.holds Try.pinned (OpenSpec.ofChange Rows.keepTellsSpec) :=
  OpenClaim.holds_of_wide 10 Try.f10 rfl rfl rfl rfl rfl rfl rfl ⟨rfl, rfl, rfl, rfl, rfl⟩ rfl rfl rfl rfl rfl (by kernel_rfl) Try.func10 (by kernel_rfl)
    (of_decide_eq_true (by kernel_rfl)) (by unfold Func.isWrapper; first | (rw [if_pos (by decide +kernel)]; kernel_rfl) | (rw [if_neg (by decide +kernel)]; exact ⟨rfl, rfl⟩))
    (fun os started H enc _ => lifted os started H enc)

/-- The statement. -/
theorem proved : Rows.KeepTellsSaid := over
#print axioms proved
end Go.Proofs.Ythgmnlkblomcaaa.keepTells
