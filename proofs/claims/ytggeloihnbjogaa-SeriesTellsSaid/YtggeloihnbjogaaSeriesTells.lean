
/- SeriesTells: any readings, put in any series: what each put tells, and behind all of them the readings, the air of any minute, and its Next, are the reference's; so is whether there can be such a series; a clone is another one; no series: ErrArg, 0, nothing, -1. -/
import Derived.Test.YtggeloihnbjogaaRows
import Derived.Test.YtggeloihnbjogaaSerJ
import Derived.Test.YtggeloihnbjogaaFrame
import Derived.Deep.RegionHeld3
namespace Go.Proofs.Ytggeloihnbjogaa.seriesTells
open Go.ChangeShapes Go.WideShapes Go.ChangeAt Go.RowKit Go.Hf
open Go.ChangeMaps (open_string shut_string)

set_option maxRecDepth 100000 in
set_option maxHeartbeats 8000000 in
theorem law (a b : Int) (v : Value) (L : List Rd) (mi : Int) (hmi : -9223372036854775808 ≤ mi ∧ mi ≤ 9223372036854775807) (w0 : World) (h : Rds w0 v L) :
    Calls Try.prog 3 #[.agg #[.int .i64 a, .int .i64 b], v, .int .i64 mi] w0 fun en w' => en = .returned (.bool true) ∧ Fr w0 w' := by
  obtain ⟨A, _, cp, rfl, rfl, hl, hcm, hA, hs⟩ := h
  have HS := Lib.hid hs
  clear hs hA
  unfold maxLen at hcm
  have I := St.refl w0
  have harg := Try.underlying22
  by_cases hl3 : 100 < L.length
  · have d1 : decide ((100 : Int) < (L.length : Int)) = true := decide_eq_true (by omega)
    go_enter Try.func3, Try.ntmps3
    try dsimp only [List.append]
    go_wp2_with (first | (first | ((with_reducible refine gguard ?_); (first | refine w_guardT (by rfl) (fun hb => ?_) (fun hb => ?_) | refine w_guardF (by rfl) (fun hb => ?_) (fun hb => ?_)) <;> first | (cases hb; done) | cases hb | ((try rw [hb]) <;> (try simp at hb) <;> go_prune <;> (try (with_reducible replace hb := eqPair hb)))) | (((with_reducible refine gbox ?_); first | refine w_boxA I (by rfl) ?_ | refine w_box1 I (by (conv => lhs; whnf) <;> rfl) (by rfl) ?_); clear I; intro g w I) | ((with_reducible refine galloc ?_); refine w_alloc I ?_; clear I; intro g w I) | ((with_reducible refine gload ?_); first | refine w_loadB I (by rfl) (by first | (with_reducible repeat (first | exact .here | apply At.there)); done | repeat (first | exact .here | apply At.there)) (by rfl) ?_ | refine w_loadBR I (by rfl) (by first | (with_reducible repeat (first | exact .here | apply At.there)); done | repeat (first | exact .here | apply At.there)) (by rfl) ?_ | refine w_load0 I (by rfl) (by assumption) ?_) | ((with_reducible refine gstore ?_); (first | refine w_storeB I (by rfl) (by (conv => lhs; whnf) <;> rfl) (by first | (with_reducible repeat (first | exact .here | apply Upd.there)); done | repeat (first | exact .here | apply Upd.there)) (by rfl) (by rfl) (by simp only [List.set_cons_zero, List.set_cons_succ] <;> rfl) ?_ | refine w_storeBR I (by rfl) (by rfl) (by first | (with_reducible repeat (first | exact .here | apply Upd.there)); done | repeat (first | exact .here | apply Upd.there)) (by rfl) (by rfl) (by rfl) ?_); clear I; intro w I)) | (go_at_call 11; go_must (refine (law06_alive _).mono ?_; rintro _ w1 ⟨rfl, hf⟩; replace I := I.still hf; clear hf)))
    all_goals try omega
    go_ret
    exact ⟨rfl, I.fr⟩
  · have d1 : decide ((100 : Int) < (L.length : Int)) = false := decide_eq_false (by omega)
    have HMy := Lib.hid (fun w => ref06_May a b w)
    cases hmay : Ser.may a b with
    | false =>
      have HN := Lib.hid (fun w => series_New_no a b w hmay)
      rw [hmay] at HMy
      clear hmay
      go_enter Try.func3, Try.ntmps3
      try dsimp only [List.append]
      go_wp2_with (first | (first | ((with_reducible refine gguard ?_); (first | refine w_guardT (by rfl) (fun hb => ?_) (fun hb => ?_) | refine w_guardF (by rfl) (fun hb => ?_) (fun hb => ?_)) <;> first | (cases hb; done) | cases hb | ((try rw [hb]) <;> (try simp at hb) <;> go_prune <;> (try (with_reducible replace hb := eqPair hb)))) | (((with_reducible refine gbox ?_); first | refine w_boxA I (by rfl) ?_ | refine w_box1 I (by (conv => lhs; whnf) <;> rfl) (by rfl) ?_); clear I; intro g w I) | ((with_reducible refine galloc ?_); refine w_alloc I ?_; clear I; intro g w I) | ((with_reducible refine gload ?_); first | refine w_loadB I (by rfl) (by first | (with_reducible repeat (first | exact .here | apply At.there)); done | repeat (first | exact .here | apply At.there)) (by rfl) ?_ | refine w_loadBR I (by rfl) (by first | (with_reducible repeat (first | exact .here | apply At.there)); done | repeat (first | exact .here | apply At.there)) (by rfl) ?_ | refine w_load0 I (by rfl) (by assumption) ?_) | ((with_reducible refine gstore ?_); (first | refine w_storeB I (by rfl) (by (conv => lhs; whnf) <;> rfl) (by first | (with_reducible repeat (first | exact .here | apply Upd.there)); done | repeat (first | exact .here | apply Upd.there)) (by rfl) (by rfl) (by simp only [List.set_cons_zero, List.set_cons_succ] <;> rfl) ?_ | refine w_storeBR I (by rfl) (by rfl) (by first | (with_reducible repeat (first | exact .here | apply Upd.there)); done | repeat (first | exact .here | apply Upd.there)) (by rfl) (by rfl) (by rfl) ?_); clear I; intro w I)) | (go_at_call 12; go_must (refine (HN.out _).mono ?_; rintro _ w1 ⟨rfl, rfl⟩)) | (go_at_call 13; go_must (refine (HMy.out _).mono ?_; rintro _ w1 ⟨rfl, rfl⟩)) | (go_at_call 11; go_must (refine (law06_alive _).mono ?_; rintro _ w1 ⟨rfl, hf⟩; replace I := I.still hf; clear hf)))
      all_goals try omega
      go_ret
      exact ⟨rfl, I.fr⟩
    | true =>
      have hb : 0 ≤ b ∧ b < 1048576 := by
        unfold Ser.may Ser.tenth at hmay
        simp only [Bool.and_eq_true, decide_eq_true_eq] at hmay
        omega
      rw [hmay] at HMy
      have HMay := Lib.hid hmay
      have HBd := Lib.hid hb
      clear hmay hb
      go_enter Try.func3, Try.ntmps3
      try dsimp only [List.append]
      go_upto_region 11 with (first | ((with_reducible refine gbox (ty := 22) ?_); (first | refine w_boxA I (by rfl) ?_ | refine w_box1 I (by (conv => lhs; whnf) <;> rfl) (by rfl) ?_); clear I; intro g3 w I) | ((with_reducible refine gbox (ty := 32) ?_); (first | refine w_boxA I (by rfl) ?_ | refine w_box1 I (by (conv => lhs; whnf) <;> rfl) (by rfl) ?_); clear I; intro gm w I) | (first | ((with_reducible refine gguard ?_); (first | refine w_guardT (by rfl) (fun hb => ?_) (fun hb => ?_) | refine w_guardF (by rfl) (fun hb => ?_) (fun hb => ?_)) <;> first | (cases hb; done) | cases hb | ((try rw [hb]) <;> (try simp at hb) <;> go_prune <;> (try (with_reducible replace hb := eqPair hb)))) | (((with_reducible refine gbox ?_); first | refine w_boxA I (by rfl) ?_ | refine w_box1 I (by (conv => lhs; whnf) <;> rfl) (by rfl) ?_); clear I; intro g w I) | ((with_reducible refine galloc ?_); refine w_alloc I ?_; clear I; intro g w I) | ((with_reducible refine gload ?_); first | refine w_loadB I (by rfl) (by first | (with_reducible repeat (first | exact .here | apply At.there)); done | repeat (first | exact .here | apply At.there)) (by rfl) ?_ | refine w_loadBR I (by rfl) (by first | (with_reducible repeat (first | exact .here | apply At.there)); done | repeat (first | exact .here | apply At.there)) (by rfl) ?_ | refine w_load0 I (by rfl) (by assumption) ?_) | ((with_reducible refine gstore ?_); (first | refine w_storeB I (by rfl) (by (conv => lhs; whnf) <;> rfl) (by first | (with_reducible repeat (first | exact .here | apply Upd.there)); done | repeat (first | exact .here | apply Upd.there)) (by rfl) (by rfl) (by simp only [List.set_cons_zero, List.set_cons_succ] <;> rfl) ?_ | refine w_storeBR I (by rfl) (by rfl) (by first | (with_reducible repeat (first | exact .here | apply Upd.there)); done | repeat (first | exact .here | apply Upd.there)) (by rfl) (by rfl) (by rfl) ?_); clear I; intro w I)) | (go_at_call 12; go_must (refine (series_New_ok a b _ _ _ I HMay.out).mono ?_; rintro _ w1 ⟨gs, rfl, S⟩; clear I; have I := S; clear S)) | (go_at_call 13; go_must (refine (HMy.out _).mono ?_; rintro _ w1 ⟨rfl, rfl⟩)))
      all_goals try omega
      replace I := RefO.mk (I.nilOwn 36 3 encR) .here .here
      go_loopw [11] (fun i wr => ∃ (k : Nat) (l s : List Rd), i = .int .i64 k ∧ k ≤ L.length ∧ Hid (Ser.Rep s (L.take k)) ∧ Hid (Ser.RepU l (L.take k)) ∧ Hid (l.length = s.length ∧ s.length ≤ k) ∧ St w0 wr [RefO gm a b l, SerO gs a b s, Blk g3 [.int .i64 a, .int .i64 b] 22]) (fun i _ => L.length - (intOf i).toNat)
      case atStart => exact ⟨0, [], [], rfl, by omega, Lib.hid Ser.Rep.nil, Lib.hid Ser.RepU.nil, Lib.hid ⟨rfl, by simp⟩, I⟩
      case round =>
        clear I
        obtain ⟨k, l, s, rfl, hk, HR, HU, HLn, I⟩ := hrel
        rename World => wr
        by_cases hlt : k < L.length
        · obtain ⟨ab, ao, rfl, hc0, hc1, hc2⟩ := atR HS.out k hlt
          have HRR := Lib.hid (show ∀ (jj : Nat) (u : Value), (encR L[k])[jj]? = some u → w0.cell? ((⟨ab, ao + k * 3, none⟩ : Addr).add jj) = some u from fun jj u hj => by
            rw [addr_add]
            match jj, hj with
            | 0, hj => obtain rfl := Option.some.inj hj; exact hc0
            | 1, hj => obtain rfl := Option.some.inj hj; exact hc1
            | 2, hj => obtain rfl := Option.some.inj hj; exact hc2
            | _ + 3, hj => cases hj)
          clear hc0 hc1 hc2
          have HR2 := Lib.hid (show Ser.Rep (Ser.step s L[k]) (L.take (k + 1)) by rw [List.take_succ_eq_append_getElem hlt]; exact HR.out.step _)
          have HU2 := Lib.hid (show Ser.RepU (Ser.rstep l L[k]) (L.take (k + 1)) by rw [List.take_succ_eq_append_getElem hlt]; exact HU.out.step _)
          have HLn2 := Lib.hid (show (Ser.rstep l L[k]).length = (Ser.step s L[k]).length ∧ (Ser.step s L[k]).length ≤ k + 1 from ⟨Ser.step_length HU.out HR.out HLn.out.1 _, by have h1 := Ser.step_len s L[k] HR.out.sorted; have := HLn.out.2; omega⟩)
          have HB := Lib.hid (Ser.put_bool HU.out HR.out L[k])
          have hlt2 : (k : Int) < (L.length : Int) := by omega
          generalize L[k] = y at HR2 HU2 HLn2 HRR HB
          cases hr : Ser.right y with
          | false =>
            have HQ : Hid ((if Ser.right y = true then (Ser.put s y).1 else false) = false) := Lib.hid (by rw [hr]; rfl)
            have HQ2 : Hid ((if Ser.right y = true then (Ser.rput l y).1 else false) = false) := Lib.hid (by rw [hr]; rfl)
            have HNn : Hid ((if Ser.right y = true then (0 : Int) else 1) = 1) := Lib.hid (by rw [hr]; rfl)
            clear hr
            go_wp2_with (first | ((with_reducible refine gload (ty := 36) ?_); refine w_loadR (n := 3) (cs := encR y) (by rfl) rfl (fun j u hj => I.fr.cell (HRR.out j u hj)) ?_) | (first | ((with_reducible refine gguard ?_); (first | refine w_guardT (by rfl) (fun hb => ?_) (fun hb => ?_) | refine w_guardF (by rfl) (fun hb => ?_) (fun hb => ?_)) <;> first | (cases hb; done) | cases hb | ((try rw [hb]) <;> (try simp at hb) <;> go_prune <;> (try (with_reducible replace hb := eqPair hb)))) | (((with_reducible refine gbox ?_); first | refine w_boxA I (by rfl) ?_ | refine w_box1 I (by (conv => lhs; whnf) <;> rfl) (by rfl) ?_); clear I; intro g w I) | ((with_reducible refine galloc ?_); refine w_alloc I ?_; clear I; intro g w I) | ((with_reducible refine gload ?_); first | refine w_loadB I (by rfl) (by first | (with_reducible repeat (first | exact .here | apply At.there)); done | repeat (first | exact .here | apply At.there)) (by rfl) ?_ | refine w_loadBR I (by rfl) (by first | (with_reducible repeat (first | exact .here | apply At.there)); done | repeat (first | exact .here | apply At.there)) (by rfl) ?_ | refine w_load0 I (by rfl) (by assumption) ?_) | ((with_reducible refine gstore ?_); (first | refine w_storeB I (by rfl) (by (conv => lhs; whnf) <;> rfl) (by first | (with_reducible repeat (first | exact .here | apply Upd.there)); done | repeat (first | exact .here | apply Upd.there)) (by rfl) (by rfl) (by simp only [List.set_cons_zero, List.set_cons_succ] <;> rfl) ?_ | refine w_storeBR I (by rfl) (by rfl) (by first | (with_reducible repeat (first | exact .here | apply Upd.there)); done | repeat (first | exact .here | apply Upd.there)) (by rfl) (by rfl) (by rfl) ?_); clear I; intro w I)) | ((go_at_call 14; go_must (refine (put_tell gs a b s y false 1 HQ.out HNn.out (by have := HLn.out.2; omega) (fun z hz => (HR.out.of z hz).1) _ _ _ _ I (by first | (with_reducible repeat (first | exact .here | apply At.there)); done | repeat (first | exact .here | apply At.there))).mono ?_; rintro _ w1 ⟨rfl, S⟩; clear I; have I := S; clear S))) | ((go_at_call 15; go_must (refine (rput_tell gm a b l y false 1 HQ2.out HNn.out (by have := HLn.out; omega) _ _ _ _ I (by first | (with_reducible repeat (first | exact .here | apply At.there)); done | repeat (first | exact .here | apply At.there))).mono ?_; rintro _ w1 ⟨rfl, S⟩; clear I; have I := S; clear S))))
            all_goals try omega
            go_roundw
            case rel => exact ⟨k + 1, Ser.rstep l y, Ser.step s y, by go_num, by omega, HR2, HU2, HLn2, I⟩
            case measure => simp [intOf]; omega
          | true =>
            have HNn : Hid ((if Ser.right y = true then (0 : Int) else 1) = 0) := Lib.hid (by rw [hr]; rfl)
            cases hq : (Ser.put s y).1 with
            | false =>
              have HQ : Hid ((if Ser.right y = true then (Ser.put s y).1 else false) = false) := Lib.hid (by rw [hr, hq]; rfl)
              have HQ2 : Hid ((if Ser.right y = true then (Ser.rput l y).1 else false) = false) := Lib.hid (by rw [hr, HB.out, hq]; rfl)
              clear hr hq
              go_wp2_with (first | ((with_reducible refine gload (ty := 36) ?_); refine w_loadR (n := 3) (cs := encR y) (by rfl) rfl (fun j u hj => I.fr.cell (HRR.out j u hj)) ?_) | (first | ((with_reducible refine gguard ?_); (first | refine w_guardT (by rfl) (fun hb => ?_) (fun hb => ?_) | refine w_guardF (by rfl) (fun hb => ?_) (fun hb => ?_)) <;> first | (cases hb; done) | cases hb | ((try rw [hb]) <;> (try simp at hb) <;> go_prune <;> (try (with_reducible replace hb := eqPair hb)))) | (((with_reducible refine gbox ?_); first | refine w_boxA I (by rfl) ?_ | refine w_box1 I (by (conv => lhs; whnf) <;> rfl) (by rfl) ?_); clear I; intro g w I) | ((with_reducible refine galloc ?_); refine w_alloc I ?_; clear I; intro g w I) | ((with_reducible refine gload ?_); first | refine w_loadB I (by rfl) (by first | (with_reducible repeat (first | exact .here | apply At.there)); done | repeat (first | exact .here | apply At.there)) (by rfl) ?_ | refine w_loadBR I (by rfl) (by first | (with_reducible repeat (first | exact .here | apply At.there)); done | repeat (first | exact .here | apply At.there)) (by rfl) ?_ | refine w_load0 I (by rfl) (by assumption) ?_) | ((with_reducible refine gstore ?_); (first | refine w_storeB I (by rfl) (by (conv => lhs; whnf) <;> rfl) (by first | (with_reducible repeat (first | exact .here | apply Upd.there)); done | repeat (first | exact .here | apply Upd.there)) (by rfl) (by rfl) (by simp only [List.set_cons_zero, List.set_cons_succ] <;> rfl) ?_ | refine w_storeBR I (by rfl) (by rfl) (by first | (with_reducible repeat (first | exact .here | apply Upd.there)); done | repeat (first | exact .here | apply Upd.there)) (by rfl) (by rfl) (by rfl) ?_); clear I; intro w I)) | ((go_at_call 14; go_must (refine (put_tell gs a b s y false 0 HQ.out HNn.out (by have := HLn.out.2; omega) (fun z hz => (HR.out.of z hz).1) _ _ _ _ I (by first | (with_reducible repeat (first | exact .here | apply At.there)); done | repeat (first | exact .here | apply At.there))).mono ?_; rintro _ w1 ⟨rfl, S⟩; clear I; have I := S; clear S))) | ((go_at_call 15; go_must (refine (rput_tell gm a b l y false 0 HQ2.out HNn.out (by have := HLn.out; omega) _ _ _ _ I (by first | (with_reducible repeat (first | exact .here | apply At.there)); done | repeat (first | exact .here | apply At.there))).mono ?_; rintro _ w1 ⟨rfl, S⟩; clear I; have I := S; clear S))))
              all_goals try omega
              go_roundw
              case rel => exact ⟨k + 1, Ser.rstep l y, Ser.step s y, by go_num, by omega, HR2, HU2, HLn2, I⟩
              case measure => simp [intOf]; omega
            | true =>
              have HQ : Hid ((if Ser.right y = true then (Ser.put s y).1 else false) = true) := Lib.hid (by rw [hr, hq]; rfl)
              have HQ2 : Hid ((if Ser.right y = true then (Ser.rput l y).1 else false) = true) := Lib.hid (by rw [hr, HB.out, hq]; rfl)
              clear hr hq
              go_wp2_with (first | ((with_reducible refine gload (ty := 36) ?_); refine w_loadR (n := 3) (cs := encR y) (by rfl) rfl (fun j u hj => I.fr.cell (HRR.out j u hj)) ?_) | (first | ((with_reducible refine gguard ?_); (first | refine w_guardT (by rfl) (fun hb => ?_) (fun hb => ?_) | refine w_guardF (by rfl) (fun hb => ?_) (fun hb => ?_)) <;> first | (cases hb; done) | cases hb | ((try rw [hb]) <;> (try simp at hb) <;> go_prune <;> (try (with_reducible replace hb := eqPair hb)))) | (((with_reducible refine gbox ?_); first | refine w_boxA I (by rfl) ?_ | refine w_box1 I (by (conv => lhs; whnf) <;> rfl) (by rfl) ?_); clear I; intro g w I) | ((with_reducible refine galloc ?_); refine w_alloc I ?_; clear I; intro g w I) | ((with_reducible refine gload ?_); first | refine w_loadB I (by rfl) (by first | (with_reducible repeat (first | exact .here | apply At.there)); done | repeat (first | exact .here | apply At.there)) (by rfl) ?_ | refine w_loadBR I (by rfl) (by first | (with_reducible repeat (first | exact .here | apply At.there)); done | repeat (first | exact .here | apply At.there)) (by rfl) ?_ | refine w_load0 I (by rfl) (by assumption) ?_) | ((with_reducible refine gstore ?_); (first | refine w_storeB I (by rfl) (by (conv => lhs; whnf) <;> rfl) (by first | (with_reducible repeat (first | exact .here | apply Upd.there)); done | repeat (first | exact .here | apply Upd.there)) (by rfl) (by rfl) (by simp only [List.set_cons_zero, List.set_cons_succ] <;> rfl) ?_ | refine w_storeBR I (by rfl) (by rfl) (by first | (with_reducible repeat (first | exact .here | apply Upd.there)); done | repeat (first | exact .here | apply Upd.there)) (by rfl) (by rfl) (by rfl) ?_); clear I; intro w I)) | ((go_at_call 14; go_must (refine (put_tell gs a b s y true 0 HQ.out HNn.out (by have := HLn.out.2; omega) (fun z hz => (HR.out.of z hz).1) _ _ _ _ I (by first | (with_reducible repeat (first | exact .here | apply At.there)); done | repeat (first | exact .here | apply At.there))).mono ?_; rintro _ w1 ⟨rfl, S⟩; clear I; have I := S; clear S))) | ((go_at_call 15; go_must (refine (rput_tell gm a b l y true 0 HQ2.out HNn.out (by have := HLn.out; omega) _ _ _ _ I (by first | (with_reducible repeat (first | exact .here | apply At.there)); done | repeat (first | exact .here | apply At.there))).mono ?_; rintro _ w1 ⟨rfl, S⟩; clear I; have I := S; clear S))))
              all_goals try omega
              go_roundw
              case rel => exact ⟨k + 1, Ser.rstep l y, Ser.step s y, by go_num, by omega, HR2, HU2, HLn2, I⟩
              case measure => simp [intOf]; omega
        · obtain rfl : k = L.length := by omega
          have hlt2 : ¬ (L.length : Int) < (L.length : Int) := by omega
          have hl100 : L.length ≤ 100 := by omega
          have HSl : Hid (s.length ≤ 100) := Lib.hid (by have := HLn.out.2; omega)
          have HLl : Hid (l.length ≤ 100) := Lib.hid (by have := HLn.out; omega)
          have HT := Lib.hid (HR.out.step Ser.lit)
          have HTl : Hid ((Ser.step s Ser.lit).length ≤ 101) := Lib.hid (by have h1 := Ser.step_len s Ser.lit HR.out.sorted; have := HSl.out; omega)
          have HMem := Lib.hid (HU.out.mem HR.out)
          have HTa := Lib.hid (Ser.lit_air HR.out a b HBd.out.1)
          have hsame : (s == s) = true := beq_self_eq_true s
          obtain ⟨air, hair⟩ : ∃ air, Ser.air s a b mi = air := ⟨_, rfl⟩
          have HAir := Lib.hid hair
          obtain ⟨nx, hnx⟩ : ∃ nx, Ser.next s b mi = nx := ⟨_, rfl⟩
          have HNx := Lib.hid hnx
          clear hair hnx
          go_upto_region 20 with (first | (first | ((with_reducible refine gguard ?_); (first | refine w_guardT (by rfl) (fun hb => ?_) (fun hb => ?_) | refine w_guardF (by rfl) (fun hb => ?_) (fun hb => ?_)) <;> first | (cases hb; done) | cases hb | ((try rw [hb]) <;> (try simp at hb) <;> go_prune <;> (try (with_reducible replace hb := eqPair hb)))) | (((with_reducible refine gbox ?_); first | refine w_boxA I (by rfl) ?_ | refine w_box1 I (by (conv => lhs; whnf) <;> rfl) (by rfl) ?_); clear I; intro g w I) | ((with_reducible refine galloc ?_); refine w_alloc I ?_; clear I; intro g w I) | ((with_reducible refine gload ?_); first | refine w_loadB I (by rfl) (by first | (with_reducible repeat (first | exact .here | apply At.there)); done | repeat (first | exact .here | apply At.there)) (by rfl) ?_ | refine w_loadBR I (by rfl) (by first | (with_reducible repeat (first | exact .here | apply At.there)); done | repeat (first | exact .here | apply At.there)) (by rfl) ?_ | refine w_load0 I (by rfl) (by assumption) ?_) | ((with_reducible refine gstore ?_); (first | refine w_storeB I (by rfl) (by (conv => lhs; whnf) <;> rfl) (by first | (with_reducible repeat (first | exact .here | apply Upd.there)); done | repeat (first | exact .here | apply Upd.there)) (by rfl) (by rfl) (by simp only [List.set_cons_zero, List.set_cons_succ] <;> rfl) ?_ | refine w_storeBR I (by rfl) (by rfl) (by first | (with_reducible repeat (first | exact .here | apply Upd.there)); done | repeat (first | exact .here | apply Upd.there)) (by rfl) (by rfl) (by rfl) ?_); clear I; intro w I)) | (go_at_call 16; go_must (refine (series_Clone gs a b s (by have := HSl.out; omega) _ _ _ I (SerO.is I (by first | (with_reducible repeat (first | exact .here | apply At.there)); done | repeat (first | exact .here | apply At.there)))).mono ?_; rintro _ w1 ⟨gt, rfl, S⟩; clear I; have I := S; clear S)) | (go_at_call 14; go_must (refine (put_lit gt a b s (by have := HSl.out; omega) (fun z hz => (HR.out.of z hz).1) _ _ _ _ I (by first | (with_reducible repeat (first | exact .here | apply At.there)); done | repeat (first | exact .here | apply At.there))).mono ?_; rintro _ w1 ⟨pq, pqn, rfl, S⟩; clear I; have I := S; clear S)) | (go_at_call 18; go_must (refine (series_All gs a b s (by have := HSl.out; omega) _ (SerO.is I (by first | (with_reducible repeat (first | exact .here | apply At.there)); done | repeat (first | exact .here | apply At.there)))).mono ?_; rintro _ w1 ⟨va, rfl, S⟩; replace I := I.then1 S; clear S)) | (go_at_call 19; go_must (refine (ref06_All gm a b l s HR.out.sorted HMem.out HLn.out.1 (by have := HLl.out; omega) _ (RefO.is I (by first | (with_reducible repeat (first | exact .here | apply At.there)); done | repeat (first | exact .here | apply At.there)))).mono ?_; rintro _ w1 ⟨vb, rfl, S⟩; replace I := I.then1 S; clear S)) | (go_at_call 17; go_must (refine (ref06_Same va vb s s _ (I.slv (by first | (with_reducible repeat (first | exact .here | apply At.there)); done | repeat (first | exact .here | apply At.there)) encR_len) (I.slv (by first | (with_reducible repeat (first | exact .here | apply At.there)); done | repeat (first | exact .here | apply At.there)) encR_len)).mono ?_; rintro _ w1 ⟨rfl, hf⟩; replace I := I.still hf.fr; clear hf)))
          all_goals try omega
          go_wp2_with (first | (first | ((with_reducible refine gguard ?_); (first | refine w_guardT (by rfl) (fun hb => ?_) (fun hb => ?_) | refine w_guardF (by rfl) (fun hb => ?_) (fun hb => ?_)) <;> first | (cases hb; done) | cases hb | ((try rw [hb]) <;> (try simp at hb) <;> go_prune <;> (try (with_reducible replace hb := eqPair hb)))) | (((with_reducible refine gbox ?_); first | refine w_boxA I (by rfl) ?_ | refine w_box1 I (by (conv => lhs; whnf) <;> rfl) (by rfl) ?_); clear I; intro g w I) | ((with_reducible refine galloc ?_); refine w_alloc I ?_; clear I; intro g w I) | ((with_reducible refine gload ?_); first | refine w_loadB I (by rfl) (by first | (with_reducible repeat (first | exact .here | apply At.there)); done | repeat (first | exact .here | apply At.there)) (by rfl) ?_ | refine w_loadBR I (by rfl) (by first | (with_reducible repeat (first | exact .here | apply At.there)); done | repeat (first | exact .here | apply At.there)) (by rfl) ?_ | refine w_load0 I (by rfl) (by assumption) ?_) | ((with_reducible refine gstore ?_); (first | refine w_storeB I (by rfl) (by (conv => lhs; whnf) <;> rfl) (by first | (with_reducible repeat (first | exact .here | apply Upd.there)); done | repeat (first | exact .here | apply Upd.there)) (by rfl) (by rfl) (by simp only [List.set_cons_zero, List.set_cons_succ] <;> rfl) ?_ | refine w_storeBR I (by rfl) (by rfl) (by first | (with_reducible repeat (first | exact .here | apply Upd.there)); done | repeat (first | exact .here | apply Upd.there)) (by rfl) (by rfl) (by rfl) ?_); clear I; intro w I)) | (go_at_call 11; go_must (refine (law06_alive _).mono ?_; rintro _ w1 ⟨rfl, hf⟩; replace I := I.still hf; clear hf)) | (go_at_call 14; go_must (refine (put_none _).mono ?_; rintro _ w1 ⟨rfl, hf⟩; replace I := I.still hf; clear hf)) | ((go_at_call 20; ((with_reducible refine (at_val gs a b s mi air HAir.out HR.out.sorted (fun y hy => (HR.out.of y hy).1) hmi (by have := HSl.out; omega) _ (SerO.is I (by first | (with_reducible repeat (first | exact .here | apply At.there)); done | repeat (first | exact .here | apply At.there)))).mono ?_); rintro _ w1 ⟨rfl, hf⟩; replace I := I.still hf; clear hf))) | ((go_at_call 20; ((with_reducible refine (at_val gt a b (Ser.step s Ser.lit) 7 1099511627776 HTa.out HT.out.sorted (fun y hy => (HT.out.of y hy).1) (by decide) (by have := HTl.out; omega) _ (SerO.is I (by first | (with_reducible repeat (first | exact .here | apply At.there)); done | repeat (first | exact .here | apply At.there)))).mono ?_); rintro _ w1 ⟨rfl, hf⟩; replace I := I.still hf; clear hf))) | ((go_at_call 20; ((with_reducible refine (series_At_nil _ _).mono ?_); rintro _ w1 ⟨rfl, rfl⟩))) | (go_at_call 21; go_must (refine (rat_val gm a b l s mi air HAir.out HR.out.sorted HMem.out (fun y hy => (HR.out.of y hy).1) hmi (by have := HLl.out; omega) _ (RefO.is I (by first | (with_reducible repeat (first | exact .here | apply At.there)); done | repeat (first | exact .here | apply At.there)))).mono ?_; rintro _ w1 ⟨rfl, hf⟩; replace I := I.still hf; clear hf)) | ((go_at_call 22; ((with_reducible refine (next_val gs a b s mi nx HNx.out HR.out.sorted (fun y hy => (HR.out.of y hy).1) HBd.out hmi (by have := HSl.out; omega) _ (SerO.is I (by first | (with_reducible repeat (first | exact .here | apply At.there)); done | repeat (first | exact .here | apply At.there)))).mono ?_); rintro _ w1 ⟨rfl, hf⟩; replace I := I.still hf; clear hf))) | ((go_at_call 22; ((with_reducible refine (series_Next_nil _ _).mono ?_); rintro _ w1 ⟨rfl, rfl⟩))) | (go_at_call 23; go_must (refine (rnext_val gm a b l s mi nx HNx.out HR.out.sorted HMem.out (fun y hy => (HR.out.of y hy).1) HBd.out hmi (by have := HLl.out; omega) _ (RefO.is I (by first | (with_reducible repeat (first | exact .here | apply At.there)); done | repeat (first | exact .here | apply At.there)))).mono ?_; rintro _ w1 ⟨rfl, hf⟩; replace I := I.still hf; clear hf)) | (go_at_call 18; go_must (refine (series_All_nil _).mono ?_; rintro _ w1 ⟨rfl, rfl⟩)) | (go_at_call 16; go_must (refine (series_Clone_nil _).mono ?_; rintro _ w1 ⟨rfl, rfl⟩)))
          all_goals try omega
          go_ret
          exact ⟨rfl, I.fr⟩

set_option maxRecDepth 100000 in
theorem walk {H : Type} {enc : TypeId × Value → H} (W : World) (base : Nat) (args : Array Value) (ds : List (DataW H)) (ps : List MemPlace) (hval : ∀ (j : Nat) t v, Try.f3.params[j]? = some t → args[j]? = some v → Value.okWide Try.prog W .any base t v)
    (hA : DataW.TrodAll enc Try.prog W 0 (fun _ => true) true Try.f3.params.toList args.toList ds ps) : Calls Try.prog 3 args W fun e W' => e = .returned (.bool true) ∧ Fr W W' := by
  rw [Try.params3] at hA
  obtain ⟨v0, vs0, d0, ds0, p0, q0, hargs, rfl, rfl, h0, r0⟩ := trodAll_cons hA
  obtain ⟨v1, vs1, d1, ds1, p1, q1, rfl, rfl, rfl, h1, r1⟩ := trodAll_cons r0
  obtain ⟨v2, vs2, d2, ds2, p2, q2, rfl, rfl, rfl, h2, r2⟩ := trodAll_cons r1
  obtain ⟨rfl, rfl, rfl⟩ := trodAll_nil r2
  obtain rfl : args = #[v0, v1, v2] := by cases args; simp_all
  rw [Try.params3] at hval
  obtain ⟨a, b, rfl⟩ := open_two (hval 0 _ v0 rfl rfl) h0
  obtain ⟨l, h⟩ := open_slv_arg Try.underlying23 (hval 1 _ v1 rfl rfl) h1 opens_rds
  obtain ⟨mi, rfl, rfl, rfl, w1⟩ := open_int Try.underlying3 (hval 2 _ v2 rfl rfl) h2
  have w2 : -9223372036854775808 ≤ mi ∧ mi ≤ 9223372036854775807 := by simpa [Lit.wf, IntKind.min, IntKind.max, IntKind.signed, IntKind.bits] using w1
  exact law a b v1 l mi w2 W h

theorem own : ownKnob Try.prog.godebug = none := by kernel_rfl

set_option maxRecDepth 100000 in
theorem lifted (os : Os) (started : os.Started) (H : Type) (enc : TypeId × Value → H) :
    ReturnsInHanded {} Try.checked os 3 .any (Rows.seriesTellsSpec.pre6 enc Try.prog Try.f3 Rows.seriesTellsRow.domain false) (Rows.seriesTellsSpec.post enc Try.prog Try.f3 false true false false) :=
  Hf.law_lifted (C := Try.checked) own started (by kernel_rfl) Try.func3
    (ChangeSpec.witness6 (enc := enc) (C := Try.checked) false ⟨#[], #[.agg #[.int .i64 0, .int .i64 0], .slice none 0 0, .int .i64 0], []⟩ 8 (by kernel_rfl) (by kernel_rfl) (by kernel_rfl) (by kernel_rfl))
    rfl (by kernel_rfl) Try.underlying4 (by kernel_rfl) (by kernel_rfl)
    (by intro ds h; rw [Try.params3] at h; match ds, h with | [_, _, _], _ => rfl) walk

theorem over : Rows.seriesTellsRow.holds Try.pinned (OpenSpec.ofChange Rows.seriesTellsSpec) :=
  OpenClaim.holds_of_wide 3 Try.f3 rfl rfl rfl rfl rfl rfl rfl ⟨rfl, rfl, rfl, rfl, rfl⟩ rfl rfl rfl rfl rfl (by kernel_rfl) Try.func3 (by kernel_rfl)
    (of_decide_eq_true (by kernel_rfl)) (by unfold Func.isWrapper; first | (rw [if_pos (by decide +kernel)]; kernel_rfl) | (rw [if_neg (by decide +kernel)]; exact ⟨rfl, rfl⟩))
    (fun os started H enc _ => lifted os started H enc)

/-- The statement. -/
theorem proved : Rows.SeriesTellsSaid := over
#print axioms proved
end Go.Proofs.Ytggeloihnbjogaa.seriesTells
