
/- SeriesOrder: any readings put in any series, and the same ones from behind, each twice, in another one: the same readings, the same air; what was put is there, what is there was put; in order. -/
import Derived.Test.YtpnpgeilhafepaaRows
import Derived.Test.YtpnpgeilhafepaaSerF
import Derived.Test.YtpnpgeilhafepaaSerR
import Derived.Test.YtpnpgeilhafepaaFrame
import Derived.Deep.RegionHeld3
namespace Go.Proofs.Ytpnpgeilhafepaa.seriesOrder
open Go.ChangeShapes Go.WideShapes Go.ChangeAt Go.RowKit Go.Hf
open Go.ChangeMaps (open_string shut_string)

theorem put_any (g : Nat) (a b : Int) (l : List Rd) (x : Rd) (hl : l.length ≤ 10000) (hr : ∀ y ∈ l, Ser.right y = true) (w0 w : World) (L R : List Asr) (I : St w0 w L) (hA : At (SerO g a b l) L R) :
    Calls Try.prog 34 #[.pointer (some ⟨g, 0, none⟩), .agg (encR x).toArray] w fun e w' => ∃ (q : Bool) (n : Int), e = .returned (.tuple #[.bool q, .int .i64 n]) ∧ (n = if Ser.right x = true then 0 else 1) ∧ (q = if Ser.right x = true then (Ser.put l x).1 else false) ∧ St w0 w' (SerO g a b (Ser.step l x) :: R) := series_PutAny g a b l x hl hr w0 w L R I hA
set_option maxRecDepth 100000 in
set_option maxHeartbeats 8000000 in
theorem law (a b : Int) (v : Value) (L : List Rd) (mi : Int) (hmi : -9223372036854775808 ≤ mi ∧ mi ≤ 9223372036854775807) (w0 : World) (h : Rds w0 v L) :
    Calls Try.prog 7 #[.agg #[.int .i64 a, .int .i64 b], v, .int .i64 mi] w0 fun en w' => en = .returned (.bool true) ∧ Fr w0 w' := by
  have HV := Lib.hid h
  obtain ⟨A, _, cp, rfl, rfl, hl, hcm, hA, hs⟩ := h
  have HS := Lib.hid hs
  clear hs hA
  unfold maxLen at hcm
  have I := St.refl w0
  have harg := Try.underlying61
  cases hmay : Ser.may a b with
  | false =>
    have HN := Lib.hid (fun w => series_New_no a b w hmay)
    clear hmay
    go_enter Try.func7, Try.ntmps7
    try dsimp only [List.append]
    go_wp2_with (first | (first | ((with_reducible refine gguard ?_); (first | refine w_guardT (by rfl) (fun hb => ?_) (fun hb => ?_) | refine w_guardF (by rfl) (fun hb => ?_) (fun hb => ?_)) <;> first | (cases hb; done) | cases hb | ((try rw [hb]) <;> (try simp at hb) <;> go_prune <;> (try (with_reducible replace hb := eqPair hb)))) | (((with_reducible refine gbox ?_); first | refine w_boxA I (by rfl) ?_ | refine w_box1 I (by (conv => lhs; whnf) <;> rfl) (by rfl) ?_); clear I; intro g w I) | ((with_reducible refine galloc ?_); refine w_alloc I ?_; clear I; intro g w I) | ((with_reducible refine gload ?_); first | refine w_loadB I (by rfl) (by first | (with_reducible repeat (first | exact .here | apply At.there)); done | repeat (first | exact .here | apply At.there)) (by rfl) ?_ | refine w_loadBR I (by rfl) (by first | (with_reducible repeat (first | exact .here | apply At.there)); done | repeat (first | exact .here | apply At.there)) (by rfl) ?_ | refine w_load0 I (by rfl) (by assumption) ?_) | ((with_reducible refine gstore ?_); (first | refine w_storeB I (by rfl) (by (conv => lhs; whnf) <;> rfl) (by first | (with_reducible repeat (first | exact .here | apply Upd.there)); done | repeat (first | exact .here | apply Upd.there)) (by rfl) (by rfl) (by simp only [List.set_cons_zero, List.set_cons_succ] <;> rfl) ?_ | refine w_storeBR I (by rfl) (by rfl) (by first | (with_reducible repeat (first | exact .here | apply Upd.there)); done | repeat (first | exact .here | apply Upd.there)) (by rfl) (by rfl) (by rfl) ?_); clear I; intro w I)) | (go_at_call 32; go_must (refine (HN.out _).mono ?_; rintro _ w1 ⟨rfl, rfl⟩)) | (go_at_call 33; go_must (refine (law06_alive _).mono ?_; rintro _ w1 ⟨rfl, hf⟩; replace I := I.still hf; clear hf)))
    all_goals try omega
    go_ret
    exact ⟨rfl, I.fr⟩
  | true =>
    have hb : 0 ≤ b ∧ b < 1048576 ∧ -1099511627776 ≤ a ∧ a ≤ 1099511627776 := by
      unfold Ser.may Ser.tenth at hmay
      simp only [Bool.and_eq_true, decide_eq_true_eq] at hmay
      omega
    have HMay := Lib.hid hmay
    clear hmay
    by_cases hl3 : 100 < L.length
    · have d1 : decide ((100 : Int) < (L.length : Int)) = true := decide_eq_true (by omega)
      go_enter Try.func7, Try.ntmps7
      try dsimp only [List.append]
      go_wp2_with (first | (first | ((with_reducible refine gguard ?_); (first | refine w_guardT (by rfl) (fun hb => ?_) (fun hb => ?_) | refine w_guardF (by rfl) (fun hb => ?_) (fun hb => ?_)) <;> first | (cases hb; done) | cases hb | ((try rw [hb]) <;> (try simp at hb) <;> go_prune <;> (try (with_reducible replace hb := eqPair hb)))) | (((with_reducible refine gbox ?_); first | refine w_boxA I (by rfl) ?_ | refine w_box1 I (by (conv => lhs; whnf) <;> rfl) (by rfl) ?_); clear I; intro g w I) | ((with_reducible refine galloc ?_); refine w_alloc I ?_; clear I; intro g w I) | ((with_reducible refine gload ?_); first | refine w_loadB I (by rfl) (by first | (with_reducible repeat (first | exact .here | apply At.there)); done | repeat (first | exact .here | apply At.there)) (by rfl) ?_ | refine w_loadBR I (by rfl) (by first | (with_reducible repeat (first | exact .here | apply At.there)); done | repeat (first | exact .here | apply At.there)) (by rfl) ?_ | refine w_load0 I (by rfl) (by assumption) ?_) | ((with_reducible refine gstore ?_); (first | refine w_storeB I (by rfl) (by (conv => lhs; whnf) <;> rfl) (by first | (with_reducible repeat (first | exact .here | apply Upd.there)); done | repeat (first | exact .here | apply Upd.there)) (by rfl) (by rfl) (by simp only [List.set_cons_zero, List.set_cons_succ] <;> rfl) ?_ | refine w_storeBR I (by rfl) (by rfl) (by first | (with_reducible repeat (first | exact .here | apply Upd.there)); done | repeat (first | exact .here | apply Upd.there)) (by rfl) (by rfl) (by rfl) ?_); clear I; intro w I)) | (go_at_call 32; go_must (refine (series_New_ok a b _ _ _ I HMay.out).mono ?_; rintro _ w1 ⟨gs, rfl, S⟩; clear I; have I := S; clear S)) | (go_at_call 33; go_must (refine (law06_alive _).mono ?_; rintro _ w1 ⟨rfl, hf⟩; replace I := I.still hf; clear hf)))
      all_goals try omega
      go_ret
      exact ⟨rfl, I.fr⟩
    · have d1 : decide ((100 : Int) < (L.length : Int)) = false := decide_eq_false (by omega)
      go_enter Try.func7, Try.ntmps7
      try dsimp only [List.append]
      go_wp2_with (first | ((with_reducible refine gbox (ty := 61) ?_); (first | refine w_boxA I (by rfl) ?_ | refine w_box1 I (by (conv => lhs; whnf) <;> rfl) (by rfl) ?_); clear I; intro g3 w I) | (first | ((with_reducible refine gguard ?_); (first | refine w_guardT (by rfl) (fun hb => ?_) (fun hb => ?_) | refine w_guardF (by rfl) (fun hb => ?_) (fun hb => ?_)) <;> first | (cases hb; done) | cases hb | ((try rw [hb]) <;> (try simp at hb) <;> go_prune <;> (try (with_reducible replace hb := eqPair hb)))) | (((with_reducible refine gbox ?_); first | refine w_boxA I (by rfl) ?_ | refine w_box1 I (by (conv => lhs; whnf) <;> rfl) (by rfl) ?_); clear I; intro g w I) | ((with_reducible refine galloc ?_); refine w_alloc I ?_; clear I; intro g w I) | ((with_reducible refine gload ?_); first | refine w_loadB I (by rfl) (by first | (with_reducible repeat (first | exact .here | apply At.there)); done | repeat (first | exact .here | apply At.there)) (by rfl) ?_ | refine w_loadBR I (by rfl) (by first | (with_reducible repeat (first | exact .here | apply At.there)); done | repeat (first | exact .here | apply At.there)) (by rfl) ?_ | refine w_load0 I (by rfl) (by assumption) ?_) | ((with_reducible refine gstore ?_); (first | refine w_storeB I (by rfl) (by (conv => lhs; whnf) <;> rfl) (by first | (with_reducible repeat (first | exact .here | apply Upd.there)); done | repeat (first | exact .here | apply Upd.there)) (by rfl) (by rfl) (by simp only [List.set_cons_zero, List.set_cons_succ] <;> rfl) ?_ | refine w_storeBR I (by rfl) (by rfl) (by first | (with_reducible repeat (first | exact .here | apply Upd.there)); done | repeat (first | exact .here | apply Upd.there)) (by rfl) (by rfl) (by rfl) ?_); clear I; intro w I)) | (guard_hyp gs : Nat; ((go_at_call 32; go_must (refine (series_New_ok a b _ _ _ I HMay.out).mono ?_; rintro _ w1 ⟨gt, rfl, S⟩; clear I; have I := S; clear S)))) | (go_at_call 32; go_must (refine (series_New_ok a b _ _ _ I HMay.out).mono ?_; rintro _ w1 ⟨gs, rfl, S⟩; clear I; have I := S; clear S)))
      all_goals try omega
      go_loopw [11] (fun i wr => ∃ (k : Nat) (l t : List Rd), i = .int .i64 k ∧ k ≤ L.length ∧ Hid (Ser.puts (L.take k) = l) ∧ Hid (Ser.puts (Ser.twice L k) = t) ∧ St w0 wr [SerO gt a b t, SerO gs a b l, Blk g3 [.int .i64 a, .int .i64 b] 61]) (fun i _ => L.length - (intOf i).toNat)
      case atStart => exact ⟨0, [], [], rfl, by omega, rfl, rfl, I⟩
      case round =>
        clear I
        obtain ⟨k, l, t, rfl, hk, HP, HT, I⟩ := hrel
        rename World => wr
        by_cases hlt : k < L.length
        · obtain ⟨j, hj0⟩ : ∃ j, L.length - 1 - k = j := ⟨_, rfl⟩
          have hjl : j < L.length := by omega
          obtain ⟨ab, ao, rfl, hc0, hc1, hc2⟩ := atR HS.out k hlt
          have HRR := Lib.hid (show ∀ (jj : Nat) (u : Value), (encR L[k])[jj]? = some u → w0.cell? ((⟨ab, ao + k * 3, none⟩ : Addr).add jj) = some u from fun jj u hj => by
            rw [addr_add]
            match jj, hj with
            | 0, hj => obtain rfl := Option.some.inj hj; exact hc0
            | 1, hj => obtain rfl := Option.some.inj hj; exact hc1
            | 2, hj => obtain rfl := Option.some.inj hj; exact hc2
            | _ + 3, hj => cases hj)
          clear hc0 hc1 hc2
          obtain ⟨ab', ao', hab, hc0, hc1, hc2⟩ := atR HS.out j hjl
          injection hab with hab
          injection hab with e1 e2 e3
          subst e1 e2
          clear e3
          have HRJ := Lib.hid (show ∀ (jj : Nat) (u : Value), (encR L[j])[jj]? = some u → w0.cell? ((⟨ab, ao + j * 3, none⟩ : Addr).add jj) = some u from fun jj u hj => by
            rw [addr_add]
            match jj, hj with
            | 0, hj => obtain rfl := Option.some.inj hj; exact hc0
            | 1, hj => obtain rfl := Option.some.inj hj; exact hc1
            | 2, hj => obtain rfl := Option.some.inj hj; exact hc2
            | _ + 3, hj => cases hj)
          clear hc0 hc1 hc2
          have HNx : Hid (Ser.puts (L.take (k + 1)) = Ser.step l L[k]) := Lib.hid (by rw [List.take_succ_eq_append_getElem hlt, Ser.puts_snoc, HP.out])
          have HNt : Hid (Ser.puts (Ser.twice L (k + 1)) = Ser.step (Ser.step t L[j]) L[j]) := Lib.hid (by rw [Ser.twice_succ L k j hj0 hjl, Ser.puts_snoc, Ser.puts_snoc, HT.out])
          have HRep := Lib.hid (show Ser.Rep l (L.take k) by rw [← HP.out]; exact Ser.puts_rep _)
          have HLL : Hid (l.length ≤ 100) := Lib.hid (by have := Ser.puts_len (L.take k); rw [HP.out, List.length_take] at this; omega)
          have HRT := Lib.hid (show Ser.Rep t (Ser.twice L k) by rw [← HT.out]; exact Ser.puts_rep _)
          have HLT : Hid (t.length ≤ 200) := Lib.hid (by have h1 := Ser.puts_len (Ser.twice L k); have h2 := Ser.twice_len L k; rw [HT.out] at h1; omega)
          have HRT1 := Lib.hid (HRT.out.step L[j])
          have HLT1 : Hid ((Ser.step t L[j]).length ≤ 201) := Lib.hid (by have h1 := Ser.step_len t L[j] HRT.out.sorted; have := HLT.out; omega)
          have hlt2 : (k : Int) < (L.length : Int) := by omega
          have hjl2 : (j : Int) < (L.length : Int) := by omega
          obtain ⟨n1, hn1⟩ : ∃ n1 : Nat, L.length - 1 = n1 := ⟨_, rfl⟩
          have hw1 : IntKind.i64.wrap ((L.length : Int) - 1) = (n1 : Int) := by rw [IntKind.wrap_i64]; omega
          have hw2 : IntKind.i64.wrap ((n1 : Int) - (k : Int)) = (j : Int) := by rw [IntKind.wrap_i64]; omega
          clear hj0 hn1 HP HT
          generalize L[k] = y at HNx HRR
          generalize L[j] = y2 at HNt HRJ HRT1 HLT1
          go_wp2_with (first | ((with_reducible refine gload (ty := 69) ?_); refine w_loadR (n := 3) (cs := encR y) (by rfl) rfl (fun j u hj => I.fr.cell (HRR.out j u hj)) ?_) | ((with_reducible refine gload (ty := 69) ?_); refine w_loadR (n := 3) (cs := encR y2) (by rfl) rfl (fun j u hj => I.fr.cell (HRJ.out j u hj)) ?_) | (first | ((with_reducible refine gguard ?_); (first | refine w_guardT (by rfl) (fun hb => ?_) (fun hb => ?_) | refine w_guardF (by rfl) (fun hb => ?_) (fun hb => ?_)) <;> first | (cases hb; done) | cases hb | ((try rw [hb]) <;> (try simp at hb) <;> go_prune <;> (try (with_reducible replace hb := eqPair hb)))) | (((with_reducible refine gbox ?_); first | refine w_boxA I (by rfl) ?_ | refine w_box1 I (by (conv => lhs; whnf) <;> rfl) (by rfl) ?_); clear I; intro g w I) | ((with_reducible refine galloc ?_); refine w_alloc I ?_; clear I; intro g w I) | ((with_reducible refine gload ?_); first | refine w_loadB I (by rfl) (by first | (with_reducible repeat (first | exact .here | apply At.there)); done | repeat (first | exact .here | apply At.there)) (by rfl) ?_ | refine w_loadBR I (by rfl) (by first | (with_reducible repeat (first | exact .here | apply At.there)); done | repeat (first | exact .here | apply At.there)) (by rfl) ?_ | refine w_load0 I (by rfl) (by assumption) ?_) | ((with_reducible refine gstore ?_); (first | refine w_storeB I (by rfl) (by (conv => lhs; whnf) <;> rfl) (by first | (with_reducible repeat (first | exact .here | apply Upd.there)); done | repeat (first | exact .here | apply Upd.there)) (by rfl) (by rfl) (by simp only [List.set_cons_zero, List.set_cons_succ] <;> rfl) ?_ | refine w_storeBR I (by rfl) (by rfl) (by first | (with_reducible repeat (first | exact .here | apply Upd.there)); done | repeat (first | exact .here | apply Upd.there)) (by rfl) (by rfl) (by rfl) ?_); clear I; intro w I)) | ((go_at_call 34; ((with_reducible refine (put_any gs a b l y (by have := HLL.out; omega) (fun z hz => (HRep.out.of z hz).1) _ _ _ _ I (by first | (with_reducible repeat (first | exact .here | apply At.there)); done | repeat (first | exact .here | apply At.there))).mono ?_); rintro _ w1 ⟨pq, pqn, rfl, -, -, S⟩; clear I; have I := S; clear S))) | (guard_hyp pr : Bool; ((go_at_call 34; ((with_reducible refine (put_any gt a b (Ser.step t y2) y2 (by have := HLT1.out; omega) (fun z hz => (HRT1.out.of z hz).1) _ _ _ _ I (by first | (with_reducible repeat (first | exact .here | apply At.there)); done | repeat (first | exact .here | apply At.there))).mono ?_); rintro _ w1 ⟨ps, psn, rfl, -, -, S⟩; clear I; have I := S; clear S)))) | ((go_at_call 34; ((with_reducible refine (put_any gt a b t y2 (by have := HLT.out; omega) (fun z hz => (HRT.out.of z hz).1) _ _ _ _ I (by first | (with_reducible repeat (first | exact .here | apply At.there)); done | repeat (first | exact .here | apply At.there))).mono ?_); rintro _ w1 ⟨pr, prn, rfl, -, -, S⟩; clear I; have I := S; clear S))))
          all_goals try omega
          go_roundw
          case rel => exact ⟨k + 1, Ser.step l y, Ser.step (Ser.step t y2) y2, by go_num, by omega, HNx, HNt, I⟩
          case measure => simp [intOf]; omega
        · obtain rfl : k = L.length := by omega
          have hlt2 : ¬ (L.length : Int) < (L.length : Int) := by omega
          have hlt0 : l = t := by symm; rw [← HT.out, ← HP.out, List.take_length]; exact Ser.puts_twice L
          subst hlt0
          have HRep := Lib.hid (show Ser.Rep l L by rw [← HP.out, List.take_length]; exact Ser.puts_rep _)
          have HLL : Hid (l.length ≤ 100) := Lib.hid (by have := Ser.puts_len L; rw [← List.take_length (l := L), HP.out, List.take_length] at this; omega)
          clear HP HT
          have hsame : (l == l) = true := beq_self_eq_true l
          go_upto_region 13 with (first | (first | ((with_reducible refine gguard ?_); (first | refine w_guardT (by rfl) (fun hb => ?_) (fun hb => ?_) | refine w_guardF (by rfl) (fun hb => ?_) (fun hb => ?_)) <;> first | (cases hb; done) | cases hb | ((try rw [hb]) <;> (try simp at hb) <;> go_prune <;> (try (with_reducible replace hb := eqPair hb)))) | (((with_reducible refine gbox ?_); first | refine w_boxA I (by rfl) ?_ | refine w_box1 I (by (conv => lhs; whnf) <;> rfl) (by rfl) ?_); clear I; intro g w I) | ((with_reducible refine galloc ?_); refine w_alloc I ?_; clear I; intro g w I) | ((with_reducible refine gload ?_); first | refine w_loadB I (by rfl) (by first | (with_reducible repeat (first | exact .here | apply At.there)); done | repeat (first | exact .here | apply At.there)) (by rfl) ?_ | refine w_loadBR I (by rfl) (by first | (with_reducible repeat (first | exact .here | apply At.there)); done | repeat (first | exact .here | apply At.there)) (by rfl) ?_ | refine w_load0 I (by rfl) (by assumption) ?_) | ((with_reducible refine gstore ?_); (first | refine w_storeB I (by rfl) (by (conv => lhs; whnf) <;> rfl) (by first | (with_reducible repeat (first | exact .here | apply Upd.there)); done | repeat (first | exact .here | apply Upd.there)) (by rfl) (by rfl) (by simp only [List.set_cons_zero, List.set_cons_succ] <;> rfl) ?_ | refine w_storeBR I (by rfl) (by rfl) (by first | (with_reducible repeat (first | exact .here | apply Upd.there)); done | repeat (first | exact .here | apply Upd.there)) (by rfl) (by rfl) (by rfl) ?_); clear I; intro w I)) | ((go_at_call 35; ((with_reducible refine (series_All gs a b l (by have := HLL.out; omega) _ (SerO.is I (by first | (with_reducible repeat (first | exact .here | apply At.there)); done | repeat (first | exact .here | apply At.there)))).mono ?_); rintro _ w1 ⟨va, rfl, S⟩; replace I := I.then1 S; clear S))) | ((go_at_call 35; ((with_reducible refine (series_All gt a b l (by have := HLL.out; omega) _ (SerO.is I (by first | (with_reducible repeat (first | exact .here | apply At.there)); done | repeat (first | exact .here | apply At.there)))).mono ?_); rintro _ w1 ⟨vb, rfl, S⟩; replace I := I.then1 S; clear S))) | (go_at_call 36; go_must (refine (ref06_Same va vb l l _ (I.slv (by first | (with_reducible repeat (first | exact .here | apply At.there)); done | repeat (first | exact .here | apply At.there)) encR_len) (I.slv (by first | (with_reducible repeat (first | exact .here | apply At.there)); done | repeat (first | exact .here | apply At.there)) encR_len)).mono ?_; rintro _ w1 ⟨rfl, hf⟩; replace I := I.still hf.fr; clear hf)))
          all_goals try omega
          obtain ⟨A2, c2, rfl, -, hcm2, -, -⟩ := (I.own (v := va) (l := l) (by first | (with_reducible repeat (first | exact .here | apply At.there)); done | repeat (first | exact .here | apply At.there))).reads encR_len
          obtain ⟨A3, c3, rfl, -, hcm3, -, -⟩ := (I.own (v := vb) (l := l) (by first | (with_reducible repeat (first | exact .here | apply At.there)); done | repeat (first | exact .here | apply At.there))).reads encR_len
          obtain ⟨nl, hnl2⟩ : ∃ nl, l.length = nl := ⟨_, rfl⟩
          have HLen := Lib.hid hnl2
          have hnl100 : nl ≤ 100 := by have := HLL.out; omega
          rw [hnl2] at I ⊢
          clear hnl2
          obtain ⟨air, hair⟩ : ∃ air, Ser.air l a b mi = air := ⟨_, rfl⟩
          have HAir := Lib.hid hair
          clear hair
          go_wp2_with (first | ((with_reducible refine gguard ?_); (first | refine w_guardT (by rfl) (fun hb => ?_) (fun hb => ?_) | refine w_guardF (by rfl) (fun hb => ?_) (fun hb => ?_)) <;> first | (cases hb; done) | cases hb | ((try rw [hb]) <;> (try simp at hb) <;> go_prune <;> (try (with_reducible replace hb := eqPair hb)))) | (((with_reducible refine gbox ?_); first | refine w_boxA I (by rfl) ?_ | refine w_box1 I (by (conv => lhs; whnf) <;> rfl) (by rfl) ?_); clear I; intro g w I) | ((with_reducible refine galloc ?_); refine w_alloc I ?_; clear I; intro g w I) | ((with_reducible refine gload ?_); first | refine w_loadB I (by rfl) (by first | (with_reducible repeat (first | exact .here | apply At.there)); done | repeat (first | exact .here | apply At.there)) (by rfl) ?_ | refine w_loadBR I (by rfl) (by first | (with_reducible repeat (first | exact .here | apply At.there)); done | repeat (first | exact .here | apply At.there)) (by rfl) ?_ | refine w_load0 I (by rfl) (by assumption) ?_) | ((with_reducible refine gstore ?_); (first | refine w_storeB I (by rfl) (by (conv => lhs; whnf) <;> rfl) (by first | (with_reducible repeat (first | exact .here | apply Upd.there)); done | repeat (first | exact .here | apply Upd.there)) (by rfl) (by rfl) (by simp only [List.set_cons_zero, List.set_cons_succ] <;> rfl) ?_ | refine w_storeBR I (by rfl) (by rfl) (by first | (with_reducible repeat (first | exact .here | apply Upd.there)); done | repeat (first | exact .here | apply Upd.there)) (by rfl) (by rfl) (by rfl) ?_); clear I; intro w I))
          all_goals try omega
          go_loopw [14] (fun i wr => ∃ k : Nat, i = .int .i64 k ∧ k ≤ L.length ∧ St w0 wr [OwnS 69 3 encR (.slice A3 nl c3) l, OwnS 69 3 encR (.slice A2 nl c2) l, SerO gt a b l, SerO gs a b l, Blk g3 [.int .i64 a, .int .i64 b] 61]) (fun i _ => L.length - (intOf i).toNat)
          case atStart => exact ⟨0, rfl, by omega, I⟩
          case round =>
            clear I
            obtain ⟨k, rfl, hk, I⟩ := hrel
            rename World => wr
            by_cases hlt : k < L.length
            · obtain ⟨ab, ao, rfl, h0, h1, h2⟩ := atR HS.out k hlt
              have hc0 := h0
              have hc1 := h1
              have hc2 := h2
              have HRR := Lib.hid (show ∀ (jj : Nat) (u : Value), (encR L[k])[jj]? = some u → w0.cell? ((⟨ab, ao + k * 3, none⟩ : Addr).add jj) = some u from fun jj u hj => by
                rw [addr_add]
                match jj, hj with
                | 0, hj => obtain rfl := Option.some.inj hj; exact hc0
                | 1, hj => obtain rfl := Option.some.inj hj; exact hc1
                | 2, hj => obtain rfl := Option.some.inj hj; exact hc2
                | _ + 3, hj => cases hj)
              clear hc0 hc1 hc2
              obtain ⟨r, hr⟩ : ∃ r, Ser.right L[k] = r := ⟨_, rfl⟩
              have HRt : Hid (∀ w, Calls Try.prog 37 #[aggR L[k]] w fun e w' => e = .returned (.bool r) ∧ Fr w w') := Lib.hid (by rw [← hr]; exact fun w => ref06_Right _ w)
              have HHas : Hid (r = true → l.any (Ser.isAt L[k]) = true) := Lib.hid (fun h => Ser.has_any HRep.out (List.getElem_mem hlt) (hr.trans h))
              have hlt2 : (k : Int) < (L.length : Int) := by omega
              clear hr
              generalize L[k] = y at *
              go_wp2_with (first | ((with_reducible refine gload (ty := 69) ?_); refine w_loadR (n := 3) (cs := encR y) (by rfl) rfl (fun j u hj => I.fr.cell (HRR.out j u hj)) ?_) | (first | ((with_reducible refine gguard ?_); (first | refine w_guardT (by rfl) (fun hb => ?_) (fun hb => ?_) | refine w_guardF (by rfl) (fun hb => ?_) (fun hb => ?_)) <;> first | (cases hb; done) | cases hb | ((try rw [hb]) <;> (try simp at hb) <;> go_prune <;> (try (with_reducible replace hb := eqPair hb)))) | (((with_reducible refine gbox ?_); first | refine w_boxA I (by rfl) ?_ | refine w_box1 I (by (conv => lhs; whnf) <;> rfl) (by rfl) ?_); clear I; intro g w I) | ((with_reducible refine galloc ?_); refine w_alloc I ?_; clear I; intro g w I) | ((with_reducible refine gload ?_); first | refine w_loadB I (by rfl) (by first | (with_reducible repeat (first | exact .here | apply At.there)); done | repeat (first | exact .here | apply At.there)) (by rfl) ?_ | refine w_loadBR I (by rfl) (by first | (with_reducible repeat (first | exact .here | apply At.there)); done | repeat (first | exact .here | apply At.there)) (by rfl) ?_ | refine w_load0 I (by rfl) (by assumption) ?_) | ((with_reducible refine gstore ?_); (first | refine w_storeB I (by rfl) (by (conv => lhs; whnf) <;> rfl) (by first | (with_reducible repeat (first | exact .here | apply Upd.there)); done | repeat (first | exact .here | apply Upd.there)) (by rfl) (by rfl) (by simp only [List.set_cons_zero, List.set_cons_succ] <;> rfl) ?_ | refine w_storeBR I (by rfl) (by rfl) (by first | (with_reducible repeat (first | exact .here | apply Upd.there)); done | repeat (first | exact .here | apply Upd.there)) (by rfl) (by rfl) (by rfl) ?_); clear I; intro w I)) | (go_at_call 37; go_must (refine (HRt.out _).mono ?_; rintro _ w1 ⟨rfl, hf⟩; replace I := I.still hf; clear hf)))
              all_goals try omega
              go_loopw [16, 17] (fun z i wr => ∃ (j : Nat) (sb : Bool), i = .int .i64 j ∧ j ≤ nl ∧ z = .bool sb ∧ Hid ((l.take j).any (Ser.isAt y) = sb) ∧ St w0 wr [OwnS 69 3 encR (.slice A3 nl c3) l, OwnS 69 3 encR (.slice A2 nl c2) l, SerO gt a b l, SerO gs a b l, Blk g3 [.int .i64 a, .int .i64 b] 61]) (fun _ i _ => nl - (intOf i).toNat)
              case atStart => exact ⟨0, false, rfl, by omega, rfl, Lib.hid (by simp), I⟩
              case round =>
                clear I
                obtain ⟨j, sb, rfl, hj, rfl, HB, I⟩ := hrel
                rename World => wr2
                by_cases hjl : j < nl
                · have hj2 : j < l.length := by have := HLen.out; omega
                  have hpos : 0 < l.length := by omega
                  obtain ⟨gv, c9, hab, -, -, -⟩ := (I.own (v := .slice A2 nl c2) (l := l) (by first | (with_reducible repeat (first | exact .here | apply At.there)); done | repeat (first | exact .here | apply At.there))).base_of (by intro e; rw [e] at hpos; simp at hpos)
                  injection hab with e1 e2 e3
                  subst e1 e3
                  clear e2
                  clear hpos
                  have x0 := (I.own (v := .slice (some ⟨gv, 0, none⟩) nl c2) (l := l) (by first | (with_reducible repeat (first | exact .here | apply At.there)); done | repeat (first | exact .here | apply At.there))).cell encR_len j hj2 0 _ rfl
                  rw [Nat.add_zero] at x0
                  have x1 := (I.own (v := .slice (some ⟨gv, 0, none⟩) nl c2) (l := l) (by first | (with_reducible repeat (first | exact .here | apply At.there)); done | repeat (first | exact .here | apply At.there))).cell encR_len j hj2 1 _ rfl
                  have x2 := (I.own (v := .slice (some ⟨gv, 0, none⟩) nl c2) (l := l) (by first | (with_reducible repeat (first | exact .here | apply At.there)); done | repeat (first | exact .here | apply At.there))).cell encR_len j hj2 2 _ rfl
                  have HB2 : Hid ((l.take (j + 1)).any (Ser.isAt y) = (sb || Ser.isAt y l[j])) := Lib.hid (by rw [← HB.out, List.take_succ_eq_append_getElem hj2, List.any_append]; simp)
                  have hjl3 : (j : Int) < (nl : Int) := by omega
                  generalize l[j] = x at x0 x1 x2 HB2
                  clear hj2 HB
                  have y0 := I.fr.cell h0
                  have y1 := I.fr.cell h1
                  have y2 := I.fr.cell h2
                  go_upto_region 21 with fail
                  all_goals try omega
                  cases sb with
                  | true =>
                    go_quiet (fail)
                    replace I := I.drewN nq
                    clear y0 y1 y2 x0 x1 x2
                    go_wp2_with fail
                    go_roundw
                    case rel => exact ⟨j + 1, true, by go_num, by omega, rfl, Lib.hid (by rw [HB2.out]; rfl), I⟩
                    case measure => simp [intOf]; omega
                  | false =>
                    cases e1 : (x.m == y.m) with
                    | false =>
                      go_quiet (fail)
                      replace I := I.drewN nq
                      clear y0 y1 y2 x0 x1 x2
                      go_wp2_with fail
                      go_roundw
                      case rel => exact ⟨j + 1, false, by go_num, by omega, rfl, Lib.hid (by rw [HB2.out]; unfold Ser.isAt; rw [e1]; rfl), I⟩
                      case measure => simp [intOf]; omega
                    | true =>
                      cases e2 : (x.s == y.s) with
                      | false =>
                        go_quiet (fail)
                        replace I := I.drewN nq
                        clear y0 y1 y2 x0 x1 x2
                        go_wp2_with fail
                        go_roundw
                        case rel => exact ⟨j + 1, false, by go_num, by omega, rfl, Lib.hid (by rw [HB2.out]; unfold Ser.isAt; rw [e1, e2]; rfl), I⟩
                        case measure => simp [intOf]; omega
                      | true =>
                        obtain ⟨e, he⟩ : ∃ e, decide (y.t ≤ x.t) = e := ⟨_, rfl⟩
                        go_quiet (fail)
                        replace I := I.drewN nq
                        clear y0 y1 y2 x0 x1 x2
                        go_wp2_with fail
                        go_roundw
                        case rel => exact ⟨j + 1, e, by go_num, by omega, rfl, Lib.hid (by rw [HB2.out]; unfold Ser.isAt; rw [e1, e2, he]; rfl), I⟩
                        case measure => simp [intOf]; omega
                · have hjn : nl = j := by omega
                  subst hjn
                  rw [List.take_of_length_le (by have := HLen.out; omega)] at HB
                  have hjl4 : ¬ (nl : Int) < (nl : Int) := by omega
                  have hrs : r = true → sb = true := fun hr => by rw [← HB.out]; exact HHas.out hr
                  cases r with
                  | true =>
                    obtain rfl := hrs rfl
                    go_wp2_with fail
                    all_goals try omega
                    go_roundw
                    case rel => exact ⟨k + 1, by go_num, by omega, I⟩
                    case measure => simp [intOf]; omega
                  | false =>
                    go_wp2_with fail
                    all_goals try omega
                    go_roundw
                    case rel => exact ⟨k + 1, by go_num, by omega, I⟩
                    case measure => simp [intOf]; omega
            · have hkn : L.length = k := by omega
              subst hkn
              have hlt3 : ¬ (L.length : Int) < (L.length : Int) := by omega
              go_wp2_with fail
              all_goals try omega
              go_loopw [18] (fun i wr => ∃ k : Nat, i = .int .i64 k ∧ k ≤ nl ∧ St w0 wr [OwnS 69 3 encR (.slice A3 nl c3) l, OwnS 69 3 encR (.slice A2 nl c2) l, SerO gt a b l, SerO gs a b l, Blk g3 [.int .i64 a, .int .i64 b] 61]) (fun i _ => nl - (intOf i).toNat)
              case atStart => exact ⟨0, rfl, by omega, I⟩
              case round =>
                clear I
                obtain ⟨k, rfl, hk, I⟩ := hrel
                rename World => wr
                by_cases hlt : k < nl
                · have hk2 : k < l.length := by have := HLen.out; omega
                  have hpos : 0 < l.length := by omega
                  obtain ⟨gv, c9, hab, -, -, -⟩ := (I.own (v := .slice A2 nl c2) (l := l) (by first | (with_reducible repeat (first | exact .here | apply At.there)); done | repeat (first | exact .here | apply At.there))).base_of (by intro e; rw [e] at hpos; simp at hpos)
                  injection hab with e1 e2 e3
                  subst e1 e3
                  clear e2
                  clear hpos
                  obtain ⟨x, hx⟩ : ∃ x, l[k] = x := ⟨_, rfl⟩
                  have HX := Lib.hid hx
                  have HIn : Hid ((L.any fun y => decide (y = x)) = true) := Lib.hid (Ser.in_any HRep.out (by rw [← hx]; exact List.getElem_mem hk2))
                  clear hx
                  have hlt2 : (k : Int) < (nl : Int) := by omega
                  go_wp2_with fail
                  all_goals try omega
                  go_loopw [19, 20] (fun z i wr => ∃ (j : Nat) (sb : Bool), i = .int .i64 j ∧ j ≤ L.length ∧ z = .bool sb ∧ Hid (((L.take j).any fun y => decide (y = x)) = sb) ∧ St w0 wr [OwnS 69 3 encR (.slice A3 nl c3) l, OwnS 69 3 encR (.slice (some ⟨gv, 0, none⟩) nl c2) l, SerO gt a b l, SerO gs a b l, Blk g3 [.int .i64 a, .int .i64 b] 61]) (fun _ i _ => L.length - (intOf i).toNat)
                  case atStart => exact ⟨0, false, rfl, by omega, rfl, Lib.hid (by simp), I⟩
                  case round =>
                    clear I
                    obtain ⟨j, sb, rfl, hj, rfl, HB, I⟩ := hrel
                    rename World => wr3
                    by_cases hjl : j < L.length
                    · obtain ⟨ab, ao, rfl, h0, h1, h2⟩ := atR HS.out j hjl
                      have y0 := I.fr.cell h0
                      have y1 := I.fr.cell h1
                      have y2 := I.fr.cell h2
                      clear h0 h1 h2
                      have x0 := (I.own (v := .slice (some ⟨gv, 0, none⟩) nl c2) (l := l) (by first | (with_reducible repeat (first | exact .here | apply At.there)); done | repeat (first | exact .here | apply At.there))).cell encR_len k hk2 0 _ rfl
                      rw [Nat.add_zero] at x0
                      have x1 := (I.own (v := .slice (some ⟨gv, 0, none⟩) nl c2) (l := l) (by first | (with_reducible repeat (first | exact .here | apply At.there)); done | repeat (first | exact .here | apply At.there))).cell encR_len k hk2 1 _ rfl
                      have x2 := (I.own (v := .slice (some ⟨gv, 0, none⟩) nl c2) (l := l) (by first | (with_reducible repeat (first | exact .here | apply At.there)); done | repeat (first | exact .here | apply At.there))).cell encR_len k hk2 2 _ rfl
                      rw [HX.out] at x0 x1 x2
                      have HB2 : Hid (((L.take (j + 1)).any fun y => decide (y = x)) = (sb || decide (L[j] = x))) := Lib.hid (by rw [← HB.out, List.take_succ_eq_append_getElem hjl, List.any_append]; simp)
                      have hjl3 : (j : Int) < (L.length : Int) := by omega
                      generalize L[j] = y at y0 y1 y2 HB2
                      clear HB
                      have hen := eq_rd y x
                      obtain ⟨e, he⟩ : ∃ e, decide (y = x) = e := ⟨_, rfl⟩
                      rw [he] at hen HB2
                      clear he
                      go_upto_region 31 with fail
                      all_goals try omega
                      cases sb with
                      | true =>
                        go_quiet (fail)
                        replace I := I.drewN nq
                        clear y0 y1 y2 x0 x1 x2
                        go_wp2_with fail
                        go_roundw
                        case rel => exact ⟨j + 1, true, by go_num, by omega, rfl, Lib.hid (by rw [HB2.out]; rfl), I⟩
                        case measure => simp [intOf]; omega
                      | false =>
                        go_quiet (fail)
                        replace I := I.drewN nq
                        clear y0 y1 y2 x0 x1 x2
                        go_wp2_with fail
                        go_roundw
                        case rel => exact ⟨j + 1, e, by go_num, by omega, rfl, Lib.hid (by rw [HB2.out]; rfl), I⟩
                        case measure => simp [intOf]; omega
                    · have hjn : L.length = j := by omega
                      subst hjn
                      rw [List.take_length, HIn.out] at HB
                      obtain rfl := HB.out
                      have hjl4 : ¬ (L.length : Int) < (L.length : Int) := by omega
                      go_upto_region 32 with fail
                      all_goals try omega
                      by_cases hk0 : k = 0
                      · have z0 : decide ((0 : Int) < (k : Int)) = false := decide_eq_false (by omega)
                        go_quiet (fail)
                        replace I := I.drewN nq
                        go_wp2_with fail
                        go_roundw
                        case rel => exact ⟨k + 1, by go_num, by omega, I⟩
                        case measure => simp [intOf]; omega
                      · have z0 : decide ((0 : Int) < (k : Int)) = true := decide_eq_true (by omega)
                        have z0n : 0 < k := by omega
                        have z0i : (0 : Int) < (k : Int) := by omega
                        have z0d : decide (0 < k) = true := decide_eq_true z0n
                        obtain ⟨kp, hkp⟩ : ∃ kp, k - 1 = kp := ⟨_, rfl⟩
                        have hwp : IntKind.i64.wrap ((k : Int) - 1) = (kp : Int) := by rw [IntKind.wrap_i64]; omega
                        have hkp2 : kp < l.length := by omega
                        have hkp3 : (kp : Int) < (nl : Int) := by omega
                        have x0 := (I.own (v := .slice (some ⟨gv, 0, none⟩) nl c2) (l := l) (by first | (with_reducible repeat (first | exact .here | apply At.there)); done | repeat (first | exact .here | apply At.there))).cell encR_len k hk2 0 _ rfl
                        rw [Nat.add_zero] at x0
                        have x1 := (I.own (v := .slice (some ⟨gv, 0, none⟩) nl c2) (l := l) (by first | (with_reducible repeat (first | exact .here | apply At.there)); done | repeat (first | exact .here | apply At.there))).cell encR_len k hk2 1 _ rfl
                        have x2 := (I.own (v := .slice (some ⟨gv, 0, none⟩) nl c2) (l := l) (by first | (with_reducible repeat (first | exact .here | apply At.there)); done | repeat (first | exact .here | apply At.there))).cell encR_len k hk2 2 _ rfl
                        rw [HX.out] at x0 x1 x2
                        have p0 := (I.own (v := .slice (some ⟨gv, 0, none⟩) nl c2) (l := l) (by first | (with_reducible repeat (first | exact .here | apply At.there)); done | repeat (first | exact .here | apply At.there))).cell encR_len kp hkp2 0 _ rfl
                        rw [Nat.add_zero] at p0
                        have p1 := (I.own (v := .slice (some ⟨gv, 0, none⟩) nl c2) (l := l) (by first | (with_reducible repeat (first | exact .here | apply At.there)); done | repeat (first | exact .here | apply At.there))).cell encR_len kp hkp2 1 _ rfl
                        have p2 := (I.own (v := .slice (some ⟨gv, 0, none⟩) nl c2) (l := l) (by first | (with_reducible repeat (first | exact .here | apply At.there)); done | repeat (first | exact .here | apply At.there))).cell encR_len kp hkp2 2 _ rfl
                        have hlt7 : Ser.lt l[kp] l[k] := Ser.sorted_get HRep.out.sorted (by omega) hk2
                        rw [HX.out] at hlt7
                        generalize l[kp] = p at p0 p1 p2 hlt7
                        unfold Ser.lt at hlt7
                        have z1 : decide (x.m < p.m) = false := decide_eq_false (by omega)
                        cases e1 : (p.m == x.m) with
                        | false =>
                          clear hlt7
                          go_quiet (fail)
                          replace I := I.drewN nq
                          go_wp2_with fail
                          go_roundw
                          case rel => exact ⟨k + 1, by go_num, by omega, I⟩
                          case measure => simp [intOf]; omega
                        | true =>
                          have e2 : p.m = x.m := eq_of_beq e1
                          have z2 : decide (x.s ≤ p.s) = false := decide_eq_false (by omega)
                          clear e2 hlt7
                          go_quiet (fail)
                          replace I := I.drewN nq
                          go_wp2_with fail
                          go_roundw
                          case rel => exact ⟨k + 1, by go_num, by omega, I⟩
                          case measure => simp [intOf]; omega
                · have hkn : nl = k := by omega
                  subst hkn
                  have hlt3 : ¬ (nl : Int) < (nl : Int) := by omega
                  go_wp2_with (first | (first | ((with_reducible refine gguard ?_); (first | refine w_guardT (by rfl) (fun hb => ?_) (fun hb => ?_) | refine w_guardF (by rfl) (fun hb => ?_) (fun hb => ?_)) <;> first | (cases hb; done) | cases hb | ((try rw [hb]) <;> (try simp at hb) <;> go_prune <;> (try (with_reducible replace hb := eqPair hb)))) | (((with_reducible refine gbox ?_); first | refine w_boxA I (by rfl) ?_ | refine w_box1 I (by (conv => lhs; whnf) <;> rfl) (by rfl) ?_); clear I; intro g w I) | ((with_reducible refine galloc ?_); refine w_alloc I ?_; clear I; intro g w I) | ((with_reducible refine gload ?_); first | refine w_loadB I (by rfl) (by first | (with_reducible repeat (first | exact .here | apply At.there)); done | repeat (first | exact .here | apply At.there)) (by rfl) ?_ | refine w_loadBR I (by rfl) (by first | (with_reducible repeat (first | exact .here | apply At.there)); done | repeat (first | exact .here | apply At.there)) (by rfl) ?_ | refine w_load0 I (by rfl) (by assumption) ?_) | ((with_reducible refine gstore ?_); (first | refine w_storeB I (by rfl) (by (conv => lhs; whnf) <;> rfl) (by first | (with_reducible repeat (first | exact .here | apply Upd.there)); done | repeat (first | exact .here | apply Upd.there)) (by rfl) (by rfl) (by simp only [List.set_cons_zero, List.set_cons_succ] <;> rfl) ?_ | refine w_storeBR I (by rfl) (by rfl) (by first | (with_reducible repeat (first | exact .here | apply Upd.there)); done | repeat (first | exact .here | apply Upd.there)) (by rfl) (by rfl) (by rfl) ?_); clear I; intro w I)) | (go_at_call 33; go_must (refine (law06_alive _).mono ?_; rintro _ w1 ⟨rfl, hf⟩; replace I := I.still hf; clear hf)) | ((go_at_call 38; ((with_reducible refine (at_is gs a b l mi air HAir.out HRep.out.sorted (fun y hy => Ser.right_small (HRep.out.of y hy).1) hmi (by have := HLL.out; omega) _ (SerO.is I (by first | (with_reducible repeat (first | exact .here | apply At.there)); done | repeat (first | exact .here | apply At.there)))).mono ?_); rintro _ w1 ⟨rfl, hf⟩; replace I := I.still hf; clear hf))) | ((go_at_call 38; ((with_reducible refine (at_is gt a b l mi air HAir.out HRep.out.sorted (fun y hy => Ser.right_small (HRep.out.of y hy).1) hmi (by have := HLL.out; omega) _ (SerO.is I (by first | (with_reducible repeat (first | exact .here | apply At.there)); done | repeat (first | exact .here | apply At.there)))).mono ?_); rintro _ w1 ⟨rfl, hf⟩; replace I := I.still hf; clear hf))))
                  all_goals try omega
                  go_ret
                  exact ⟨rfl, I.fr⟩

set_option maxRecDepth 100000 in
theorem walk {H : Type} {enc : TypeId × Value → H} (W : World) (base : Nat) (args : Array Value) (ds : List (DataW H)) (ps : List MemPlace) (hval : ∀ (j : Nat) t v, Try.f7.params[j]? = some t → args[j]? = some v → Value.okWide Try.prog W .any base t v)
    (hA : DataW.TrodAll enc Try.prog W 0 (fun _ => true) true Try.f7.params.toList args.toList ds ps) : Calls Try.prog 7 args W fun e W' => e = .returned (.bool true) ∧ Fr W W' := by
  rw [Try.params7] at hA
  obtain ⟨v0, vs0, d0, ds0, p0, q0, hargs, rfl, rfl, h0, r0⟩ := trodAll_cons hA
  obtain ⟨v1, vs1, d1, ds1, p1, q1, rfl, rfl, rfl, h1, r1⟩ := trodAll_cons r0
  obtain ⟨v2, vs2, d2, ds2, p2, q2, rfl, rfl, rfl, h2, r2⟩ := trodAll_cons r1
  obtain ⟨rfl, rfl, rfl⟩ := trodAll_nil r2
  obtain rfl : args = #[v0, v1, v2] := by cases args; simp_all
  rw [Try.params7] at hval
  obtain ⟨a, b, rfl⟩ := open_two (hval 0 _ v0 rfl rfl) h0
  obtain ⟨l, h⟩ := open_slv_arg Try.underlying62 (hval 1 _ v1 rfl rfl) h1 opens_rds
  obtain ⟨mi, rfl, rfl, rfl, w1⟩ := open_int Try.underlying3 (hval 2 _ v2 rfl rfl) h2
  have w2 : -9223372036854775808 ≤ mi ∧ mi ≤ 9223372036854775807 := by simpa [Lit.wf, IntKind.min, IntKind.max, IntKind.signed, IntKind.bits] using w1
  exact law a b v1 l mi w2 W h

theorem own : ownKnob Try.prog.godebug = none := by kernel_rfl

set_option maxRecDepth 100000 in
theorem lifted (os : Os) (started : os.Started) (H : Type) (enc : TypeId × Value → H) :
    ReturnsInHanded {} Try.checked os 7 .any (Rows.seriesOrderSpec.pre6 enc Try.prog Try.f7 Rows.seriesOrderRow.domain false) (Rows.seriesOrderSpec.post enc Try.prog Try.f7 false true false false) :=
  Hf.law_lifted (C := Try.checked) own started (by kernel_rfl) Try.func7
    (ChangeSpec.witness6 (enc := enc) (C := Try.checked) false ⟨#[], #[.agg #[.int .i64 0, .int .i64 0], .slice none 0 0, .int .i64 0], []⟩ 8 (by kernel_rfl) (by kernel_rfl) (by kernel_rfl) (by kernel_rfl))
    rfl (by kernel_rfl) Try.underlying4 (by kernel_rfl) (by kernel_rfl)
    (by intro ds h; rw [Try.params7] at h; match ds, h with | [_, _, _], _ => rfl) walk

theorem over : Rows.seriesOrderRow.holds Try.pinned (OpenSpec.ofChange Rows.seriesOrderSpec) :=
  OpenClaim.holds_of_wide 7 Try.f7 rfl rfl rfl rfl rfl rfl rfl ⟨rfl, rfl, rfl, rfl, rfl⟩ rfl rfl rfl rfl rfl (by kernel_rfl) Try.func7 (by kernel_rfl)
    (of_decide_eq_true (by kernel_rfl)) (by unfold Func.isWrapper; first | (rw [if_pos (by decide +kernel)]; kernel_rfl) | (rw [if_neg (by decide +kernel)]; exact ⟨rfl, rfl⟩))
    (fun os started H enc _ => lifted os started H enc)

/-- The statement. -/
theorem proved : Rows.SeriesOrderSaid := over
#print axioms proved
end Go.Proofs.Ytpnpgeilhafepaa.seriesOrder
