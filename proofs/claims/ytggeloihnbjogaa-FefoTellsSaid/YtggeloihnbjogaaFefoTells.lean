
/- FefoTells: the order of any lots, and what is picked of them, or the error, are the reference's; so is the total of that; at most 60 lots. -/
import Derived.Test.YtggeloihnbjogaaRows
import Derived.Test.YtggeloihnbjogaaFefF
import Derived.Test.YtggeloihnbjogaaFrame
import Derived.Deep.RegionHeld3
namespace Go.Proofs.Ytggeloihnbjogaa.fefoTells
open Go.ChangeShapes Go.WideShapes Go.ChangeAt Go.RowKit Go.Hf
open Go.ChangeMaps (open_string shut_string)

theorem ints_at {w0 w : World} {L R : List Asr} {A : Option Addr} {n c : Nat} {K : List Int} (I : St w0 w L) (h : At (OwnS 3 1 encI (.slice A n c) K) L R) {i : Nat} (hi : i < K.length) : ∃ g, A = some ⟨g, 0, none⟩ ∧ w.cell? ⟨g, i, none⟩ = some (.int .i64 K[i]) := by
  obtain ⟨g, c', e, -, -, -⟩ := (I.own h).base_of (by intro e; rw [e] at hi; simp at hi)
  injection e with e1 e2 e3
  subst e1 e2 e3
  have := (I.own h).cell encI_len i hi 0 _ rfl
  rw [Nat.mul_one, Nat.add_zero] at this
  exact ⟨g, rfl, this⟩
theorem takes_at {e : TypeId} {w0 w : World} {L R : List Asr} {A : Option Addr} {n c : Nat} {K : List (Int × Int)} (I : St w0 w L) (h : At (OwnS e 2 encK (.slice A n c) K) L R) {i : Nat} (hi : i < K.length) : ∃ g, A = some ⟨g, 0, none⟩ ∧ w.cell? ⟨g, i * 2, none⟩ = some (.int .i64 K[i].1) ∧ w.cell? ⟨g, i * 2 + 1, none⟩ = some (.int .i64 K[i].2) := by
  obtain ⟨g, c', e, -, -, -⟩ := (I.own h).base_of (by intro e; rw [e] at hi; simp at hi)
  injection e with e1 e2 e3
  subst e1 e2 e3
  exact ⟨g, rfl, (I.own h).cell encK_len i hi 0 _ rfl, (I.own h).cell encK_len i hi 1 _ rfl⟩
set_option maxRecDepth 100000 in
set_option maxHeartbeats 8000000 in
theorem law (v : Value) (l : List Lt) (p u : Int) (hu : -9223372036854775808 ≤ u ∧ u ≤ 9223372036854775807) (hg : Fef.Tagged l) (w0 : World) (h : Lots w0 v l) :
    Calls Try.prog 4 #[v, .int .i64 p, .int .i64 u] w0 fun en w' => en = .returned (.bool true) ∧ Fr w0 w' := by
  have HV := Lib.hid h
  obtain ⟨A, _, cp, rfl, rfl, hl, hcm, hA, -⟩ := h
  clear hA
  unfold maxLen at hcm
  have I := St.refl w0
  by_cases hl3 : 60 < l.length
  · have d1 : decide ((60 : Int) < (l.length : Int)) = true := decide_eq_true (by omega)
    go_enter Try.func4, Try.ntmps4
    try dsimp only [List.append]
    go_wp2_with (first | (first | ((with_reducible refine gguard ?_); (first | refine w_guardT (by rfl) (fun hb => ?_) (fun hb => ?_) | refine w_guardF (by rfl) (fun hb => ?_) (fun hb => ?_)) <;> first | (cases hb; done) | cases hb | ((try rw [hb]) <;> (try simp at hb) <;> go_prune <;> (try (with_reducible replace hb := eqPair hb)))) | (((with_reducible refine gbox ?_); first | refine w_boxA I (by rfl) ?_ | refine w_box1 I (by (conv => lhs; whnf) <;> rfl) (by rfl) ?_); clear I; intro g w I) | ((with_reducible refine galloc ?_); refine w_alloc I ?_; clear I; intro g w I) | ((with_reducible refine gload ?_); first | refine w_loadB I (by rfl) (by first | (with_reducible repeat (first | exact .here | apply At.there)); done | repeat (first | exact .here | apply At.there)) (by rfl) ?_ | refine w_loadBR I (by rfl) (by first | (with_reducible repeat (first | exact .here | apply At.there)); done | repeat (first | exact .here | apply At.there)) (by rfl) ?_ | refine w_load0 I (by rfl) (by assumption) ?_) | ((with_reducible refine gstore ?_); (first | refine w_storeB I (by rfl) (by (conv => lhs; whnf) <;> rfl) (by first | (with_reducible repeat (first | exact .here | apply Upd.there)); done | repeat (first | exact .here | apply Upd.there)) (by rfl) (by rfl) (by simp only [List.set_cons_zero, List.set_cons_succ] <;> rfl) ?_ | refine w_storeBR I (by rfl) (by rfl) (by first | (with_reducible repeat (first | exact .here | apply Upd.there)); done | repeat (first | exact .here | apply Upd.there)) (by rfl) (by rfl) (by rfl) ?_); clear I; intro w I)) | (go_at_call 24; go_must (refine (law15_alive _).mono ?_; rintro _ w1 ⟨rfl, hf⟩; replace I := I.still hf; clear hf)))
    all_goals try omega
    go_ret
    exact ⟨rfl, I.fr⟩
  · have d1 : decide ((60 : Int) < (l.length : Int)) = false := decide_eq_false (by omega)
    have hl9 : l.length ≤ 1000 := by omega
    go_enter Try.func4, Try.ntmps4
    try dsimp only [List.append]
    go_upto_region 7 with (first | (first | ((with_reducible refine gguard ?_); (first | refine w_guardT (by rfl) (fun hb => ?_) (fun hb => ?_) | refine w_guardF (by rfl) (fun hb => ?_) (fun hb => ?_)) <;> first | (cases hb; done) | cases hb | ((try rw [hb]) <;> (try simp at hb) <;> go_prune <;> (try (with_reducible replace hb := eqPair hb)))) | (((with_reducible refine gbox ?_); first | refine w_boxA I (by rfl) ?_ | refine w_box1 I (by (conv => lhs; whnf) <;> rfl) (by rfl) ?_); clear I; intro g w I) | ((with_reducible refine galloc ?_); refine w_alloc I ?_; clear I; intro g w I) | ((with_reducible refine gload ?_); first | refine w_loadB I (by rfl) (by first | (with_reducible repeat (first | exact .here | apply At.there)); done | repeat (first | exact .here | apply At.there)) (by rfl) ?_ | refine w_loadBR I (by rfl) (by first | (with_reducible repeat (first | exact .here | apply At.there)); done | repeat (first | exact .here | apply At.there)) (by rfl) ?_ | refine w_load0 I (by rfl) (by assumption) ?_) | ((with_reducible refine gstore ?_); (first | refine w_storeB I (by rfl) (by (conv => lhs; whnf) <;> rfl) (by first | (with_reducible repeat (first | exact .here | apply Upd.there)); done | repeat (first | exact .here | apply Upd.there)) (by rfl) (by rfl) (by simp only [List.set_cons_zero, List.set_cons_succ] <;> rfl) ?_ | refine w_storeBR I (by rfl) (by rfl) (by first | (with_reducible repeat (first | exact .here | apply Upd.there)); done | repeat (first | exact .here | apply Upd.there)) (by rfl) (by rfl) (by rfl) ?_); clear I; intro w I)) | (go_at_call 25; go_must (refine (fefo_Order _ l hl9 hg _ (HV.out.frF I.fr)).mono ?_; rintro _ w1 ⟨va, M, rfl, HM, S⟩; replace I := I.then1 S; clear S)) | (go_at_call 26; go_must (refine (ref15_Order _ l M hl9 hg HM.out.1 HM.out.2 _ (HV.out.frF I.fr)).mono ?_; rintro _ w1 ⟨vb, rfl, S⟩; replace I := I.then1 S; clear S)) | (go_at_call 27; go_must (refine (fefo_Pick _ l p u hu hl9 hg _ (HV.out.frF I.fr)).mono ?_; rintro _ w1 ⟨Mp, vt, n1, HMp, rfl, Hn1, S⟩; replace I := I.then1 S; clear S)) | (go_at_call 28; go_must (refine (ref15_Pick _ l Mp p u hu hl9 hg HMp.out.1 HMp.out.2 _ (HV.out.frF I.fr)).mono ?_; rintro _ w1 ⟨vu, n2, rfl, Hn2, S⟩; replace I := I.then1 S; clear S)))
    all_goals try omega
    have hnn : n2 = n1 := Hn2.out.trans Hn1.out.symm
    subst hnn
    have HKl : Hid ((Fef.res Mp u).1.length ≤ 100000) := Lib.hid (by
      have hrl : ∀ (M : List Lt) (u : Int), (Fef.run M u).1.length ≤ M.length := fun M => by
        induction M with
        | nil => intro u; exact Nat.le_refl _
        | cons x M ih =>
          intro u
          rw [Fef.run]
          split
          · simp
          · have := ih (u - min x.units u); simp; omega
      have h1 := hrl Mp u
      have h2 := HMp.out.1.length_eq
      have h3 := List.length_filter_le (fun x => !Fef.other p x) l
      unfold Fef.res
      split
      · simp
      · split
        · simp
        · dsimp only; omega)
    have HMl : Hid ((M.map Lt.id).length ≤ 1000) := Lib.hid (by rw [List.length_map, HM.out.1.length_eq]; omega)
    clear Hn1 Hn2 HM HMp
    generalize M.map Lt.id = K at *
    generalize (Fef.res Mp u).1 = T at *
    obtain ⟨A1, c1, rfl, -, -, -, -⟩ := (I.own (e := 3) (n := 1) (enc := encI) (v := va) (l := K) (.there (.there (.there .here)))).reads encI_len
    obtain ⟨A2, c2, rfl, -, -, -, -⟩ := (I.own (e := 3) (n := 1) (enc := encI) (v := vb) (l := K) (.there (.there .here))).reads encI_len
    obtain ⟨A3, c3, rfl, -, -, -, -⟩ := (I.own (e := 52) (n := 2) (enc := encK) (v := vt) (l := T) (.there .here)).reads encK_len
    obtain ⟨A4, c4, rfl, -, -, -, -⟩ := (I.own (e := 53) (n := 2) (enc := encK) (v := vu) (l := T) .here).reads encK_len
    have hk1 := HMl.out
    have hk2 := HKl.out
    go_wp2_with fail
    go_loopw [14] (fun iv wr => ∃ i : Nat, iv = .int .i64 i ∧ i ≤ K.length ∧ St w0 wr [OwnS 53 2 encK (.slice A4 T.length c4) T, OwnS 52 2 encK (.slice A3 T.length c3) T, OwnS 3 1 encI (.slice A2 K.length c2) K, OwnS 3 1 encI (.slice A1 K.length c1) K]) (fun iv _ => K.length - (intOf iv).toNat)
    case atStart => exact ⟨0, rfl, by omega, I⟩
    case round =>
      clear I
      obtain ⟨i, rfl, hi, I⟩ := hrel
      rename World => wr
      by_cases hlt : i < K.length
      · have hlt2 : (i : Int) < (K.length : Int) := by omega
        obtain ⟨ga, rfl, x0⟩ := ints_at I (.there (.there (.there .here))) hlt
        obtain ⟨gb, rfl, y0⟩ := ints_at I (.there (.there .here)) hlt
        generalize K[i] = x at x0 y0
        have hxx : (x != x) = false := by simp
        go_upto_region 13 with fail
        go_quiet (fail)
        replace I := I.drewN nq
        clear x0 y0
        go_wp2_with fail
        go_roundw
        case rel => exact ⟨i + 1, by go_num, by omega, I⟩
        case measure => simp [intOf]; omega
      · obtain rfl : i = K.length := by omega
        have hlt2 : ¬ (K.length : Int) < (K.length : Int) := by omega
        go_wp2_with fail
        go_loopw [13, 15] (fun nv iv wr => ∃ (i : Nat) (n : Int), iv = .int .i64 i ∧ nv = .int .i64 n ∧ i ≤ T.length ∧ Hid (Fef.tot (T.take i) = n) ∧ St w0 wr [OwnS 53 2 encK (.slice A4 T.length c4) T, OwnS 52 2 encK (.slice A3 T.length c3) T, OwnS 3 1 encI (.slice A2 K.length c2) K, OwnS 3 1 encI (.slice A1 K.length c1) K]) (fun _ iv _ => T.length - (intOf iv).toNat)
        case atStart => exact ⟨0, 0, rfl, rfl, by omega, Lib.hid rfl, I⟩
        case round =>
          clear I
          obtain ⟨i, n, rfl, rfl, hi, HN, I⟩ := hrel
          rename World => wr
          by_cases hlt : i < T.length
          · have hlt2 : (i : Int) < (T.length : Int) := by omega
            obtain ⟨ga, rfl, x0, x1⟩ := takes_at (e := 52) I (.there .here) hlt
            obtain ⟨gb, rfl, y0, y1⟩ := takes_at (e := 53) I .here hlt
            have HN2 : Hid (Fef.tot (T.take (i + 1)) = IntKind.i64.wrap (n + T[i].2)) := Lib.hid (by rw [List.take_succ_eq_append_getElem hlt, Fef.tot_snoc, HN.out])
            generalize T[i] = t at x0 x1 y0 y1 HN2
            obtain ⟨m, hm⟩ : ∃ m, IntKind.i64.wrap (n + t.2) = m := ⟨_, rfl⟩
            rw [hm] at HN2
            have hx1 : (t.1 != t.1) = false := by simp
            have hx2 : (t.2 != t.2) = false := by simp
            go_upto_region 18 with fail
            go_quiet (fail)
            replace I := I.drewN nq
            go_wp2_with fail
            go_roundw
            case rel => exact ⟨i + 1, m, by go_num, rfl, by omega, HN2, I⟩
            case measure => simp [intOf]; omega
          · obtain rfl : i = T.length := by omega
            have hlt3 : ¬ (T.length : Int) < (T.length : Int) := by omega
            have HNt : Hid (Fef.tot T = n) := Lib.hid (by rw [← HN.out, List.take_length])
            have hnn : (n == n) = true := by simp
            go_wp2_with (first | (first | ((with_reducible refine gguard ?_); (first | refine w_guardT (by rfl) (fun hb => ?_) (fun hb => ?_) | refine w_guardF (by rfl) (fun hb => ?_) (fun hb => ?_)) <;> first | (cases hb; done) | cases hb | ((try rw [hb]) <;> (try simp at hb) <;> go_prune <;> (try (with_reducible replace hb := eqPair hb)))) | (((with_reducible refine gbox ?_); first | refine w_boxA I (by rfl) ?_ | refine w_box1 I (by (conv => lhs; whnf) <;> rfl) (by rfl) ?_); clear I; intro g w I) | ((with_reducible refine galloc ?_); refine w_alloc I ?_; clear I; intro g w I) | ((with_reducible refine gload ?_); first | refine w_loadB I (by rfl) (by first | (with_reducible repeat (first | exact .here | apply At.there)); done | repeat (first | exact .here | apply At.there)) (by rfl) ?_ | refine w_loadBR I (by rfl) (by first | (with_reducible repeat (first | exact .here | apply At.there)); done | repeat (first | exact .here | apply At.there)) (by rfl) ?_ | refine w_load0 I (by rfl) (by assumption) ?_) | ((with_reducible refine gstore ?_); (first | refine w_storeB I (by rfl) (by (conv => lhs; whnf) <;> rfl) (by first | (with_reducible repeat (first | exact .here | apply Upd.there)); done | repeat (first | exact .here | apply Upd.there)) (by rfl) (by rfl) (by simp only [List.set_cons_zero, List.set_cons_succ] <;> rfl) ?_ | refine w_storeBR I (by rfl) (by rfl) (by first | (with_reducible repeat (first | exact .here | apply Upd.there)); done | repeat (first | exact .here | apply Upd.there)) (by rfl) (by rfl) (by rfl) ?_); clear I; intro w I)) | (go_at_call 24; go_must (refine (law15_alive _).mono ?_; rintro _ w1 ⟨rfl, hf⟩; replace I := I.still hf; clear hf)) | (go_at_call 29; ((with_reducible refine (total_is _ T n HNt.out hk2 _ (I.slv (.there .here) encK_len)).mono ?_); rintro _ w1 ⟨rfl, hf⟩; replace I := I.still hf; clear hf)) | (go_at_call 29; ((with_reducible refine (total_is (.slice none 0 0) [] 0 rfl (by simp) _ (SlV.nil _ _ _)).mono ?_); rintro _ w1 ⟨rfl, hf⟩; replace I := I.still hf; clear hf)))
            all_goals try omega
            go_ret
            exact ⟨rfl, I.fr⟩

set_option maxRecDepth 100000 in
theorem walk {H : Type} {enc : TypeId × Value → H} (W : World) (base : Nat) (args : Array Value) (ds : List (DataW H)) (ps : List MemPlace) (hval : ∀ (j : Nat) t v, Try.f4.params[j]? = some t → args[j]? = some v → Value.okWide Try.prog W .any base t v)
    (hA : DataW.TrodAll enc Try.prog W 0 (fun _ => true) true Try.f4.params.toList args.toList ds ps) : Calls Try.prog 4 args W fun e W' => e = .returned (.bool true) ∧ Fr W W' := by
  rw [Try.params4] at hA
  obtain ⟨v0, vs0, d0, ds0, p0, q0, hargs, rfl, rfl, h0, r0⟩ := trodAll_cons hA
  obtain ⟨v1, vs1, d1, ds1, p1, q1, rfl, rfl, rfl, h1, r1⟩ := trodAll_cons r0
  obtain ⟨v2, vs2, d2, ds2, p2, q2, rfl, rfl, rfl, h2, r2⟩ := trodAll_cons r1
  obtain ⟨rfl, rfl, rfl⟩ := trodAll_nil r2
  obtain rfl : args = #[v0, v1, v2] := by cases args; simp_all
  rw [Try.params4] at hval
  obtain ⟨l, h⟩ := open_slv_arg Try.underlying42 (hval 0 _ v0 rfl rfl) h0 opens_lots
  obtain ⟨p, rfl, rfl, rfl, -⟩ := open_int Try.underlying3 (hval 1 _ v1 rfl rfl) h1
  obtain ⟨u, rfl, rfl, rfl, w1⟩ := open_int Try.underlying3 (hval 2 _ v2 rfl rfl) h2
  have w2 : -9223372036854775808 ≤ u ∧ u ≤ 9223372036854775807 := by simpa [Lit.wf, IntKind.min, IntKind.max, IntKind.signed, IntKind.bits] using w1
  exact law v0 (Fef.retag l) p u w2 (Fef.retag_tagged l) W (Lots.retag h)

theorem own : ownKnob Try.prog.godebug = none := by kernel_rfl

set_option maxRecDepth 100000 in
theorem lifted (os : Os) (started : os.Started) (H : Type) (enc : TypeId × Value → H) :
    ReturnsInHanded {} Try.checked os 4 .any (Rows.fefoTellsSpec.pre6 enc Try.prog Try.f4 Rows.fefoTellsRow.domain false) (Rows.fefoTellsSpec.post enc Try.prog Try.f4 false true false false) :=
  Hf.law_lifted (C := Try.checked) own started (by kernel_rfl) Try.func4
    (ChangeSpec.witness6 (enc := enc) (C := Try.checked) false ⟨#[], #[.slice none 0 0, .int .i64 0, .int .i64 0], []⟩ 8 (by kernel_rfl) (by kernel_rfl) (by kernel_rfl) (by kernel_rfl))
    rfl (by kernel_rfl) Try.underlying4 (by kernel_rfl) (by kernel_rfl)
    (by intro ds h; rw [Try.params4] at h; match ds, h with | [_, _, _], _ => rfl) walk

theorem over : Rows.fefoTellsRow.holds Try.pinned (OpenSpec.ofChange Rows.fefoTellsSpec) :=
  OpenClaim.holds_of_wide 4 Try.f4 rfl rfl rfl rfl rfl rfl rfl ⟨rfl, rfl, rfl, rfl, rfl⟩ rfl rfl rfl rfl rfl (by kernel_rfl) Try.func4 (by kernel_rfl)
    (of_decide_eq_true (by kernel_rfl)) (by unfold Func.isWrapper; first | (rw [if_pos (by decide +kernel)]; kernel_rfl) | (rw [if_neg (by decide +kernel)]; exact ⟨rfl, rfl⟩))
    (fun os started H enc _ => lifted os started H enc)

/-- The statement. -/
theorem proved : Rows.FefoTellsSaid := over
#print axioms proved
end Go.Proofs.Ytggeloihnbjogaa.fefoTells
