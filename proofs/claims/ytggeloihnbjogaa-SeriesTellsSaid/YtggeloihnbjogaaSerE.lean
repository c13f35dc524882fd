
/- Readings (layer 6): the reference's Same; the live question. -/
import Derived.Test.YtggeloihnbjogaaSerB
import Derived.Test.YtggeloihnbjogaaSerD
import Derived.Laws.StructEq
namespace Go.Proofs.Ytggeloihnbjogaa
open Go.RowKit Go.Hf

theorem eq_rd (x y : Rd) (wx : World) : (Op.equalIn 10000 36 (aggR x) (aggR y)).run Try.prog wx = .ok (decide (x = y)) wx := by
  have hu := Try.underlying36
  have h3 := Try.underlying3
  go_simp
  clear hu h3
  rcases x with ⟨a, b, c⟩
  rcases y with ⟨a', b', c'⟩
  (repeat' split) <;> simp_all
set_option maxRecDepth 100000 in
set_option maxHeartbeats 1000000 in
theorem ref06_Same (v1 v2 : Value) (l1 l2 : List Rd) (w : World) (h1 : Rds w v1 l1) (h2 : Rds w v2 l2) :
    Calls Try.prog 17 #[v1, v2] w fun e w' => e = .returned (.bool (l1 == l2)) ∧ Dr w w' := by
  have hm := h1.len_le
  have hm2 := h2.len_le
  unfold maxLen at hm hm2
  obtain ⟨A1, _, c1, rfl, rfl, _, _, _, hs1⟩ := h1
  obtain ⟨A2, _, c2, rfl, rfl, _, _, _, hs2⟩ := h2
  have H1 := Lib.hid hs1
  have H2 := Lib.hid hs2
  clear hs1 hs2
  by_cases hlen : l1.length = l2.length
  · have HL := Lib.hid hlen
    have hd : ((l1.length : Int) != (l2.length : Int)) = false := by simp [hlen]
    have hlt2 : ∀ k, k < l1.length → k < l2.length := fun k h => by omega
    have HT := Lib.hid hlt2
    clear hlen hlt2
    go_enter Try.func17, Try.ntmps17
    go_wp2_with fail
    go_loopw [5] (fun i wr => ∃ k : Nat, i = .int .i64 k ∧ k ≤ l1.length ∧ Hid (l1.take k = l2.take k) ∧ Dr w wr) (fun i _ => l1.length - (intOf i).toNat)
    case atStart => exact ⟨0, rfl, by omega, rfl, Dr.refl _⟩
    case round =>
      obtain ⟨k, rfl, hk, ht, hf⟩ := hrel
      by_cases hlt : k < l1.length
      · have hlt2 := HT.out k hlt
        obtain ⟨b1, o1, rfl, a0, a1, a2⟩ := atR (H1.out.fr (flat_stays _) hf.fr) k hlt
        obtain ⟨b2, o2, rfl, d0, d1, d2⟩ := atR (H2.out.fr (flat_stays _) hf.fr) k hlt2
        have HS := Lib.hid (fun h => take_eq_step l1 l2 k hlt hlt2 ht.out h)
        have HN := Lib.hid (fun h => beq_false_of_get l1 l2 k hlt hlt2 h)
        generalize l1[k] = x at *
        generalize l2[k] = y at *
        have hi1 : (k : Int) < (l1.length : Int) := by omega
        have hi2 : (k : Int) < (l2.length : Int) := by omega
        have he := eq_rd x y
        by_cases hxy : x = y
        · rw [decide_eq_true hxy] at he
          have HE := Lib.hid (HS.out hxy)
          clear hxy
          go_wp2_with fail
          go_quiet (fail)
          go_wp2_with fail
          go_roundw
          case rel => exact ⟨k + 1, by go_num, by omega, HE, hf.drewN _⟩
          case measure => simp [intOf]; omega
        · rw [decide_eq_false hxy] at he
          have HE := Lib.hid (HN.out hxy)
          clear hxy
          go_wp2_with fail
          go_quiet (fail)
          go_wp2_with fail
          go_ret
          exact ⟨by rw [HE.out]; rfl, hf.drewN _⟩
      · obtain rfl : k = l1.length := by omega
        have HE := Lib.hid (beq_of_take l1 l2 HL.out ht.out)
        go_wp2_with fail
        go_ret
        exact ⟨by rw [HE.out]; rfl, hf⟩
  · have hd : ((l1.length : Int) != (l2.length : Int)) = true := by simp; omega
    have HE := Lib.hid (beq_false_of_len l1 l2 hlen)
    clear hlen
    go_enter Try.func17, Try.ntmps17
    go_wp2_with fail
    go_ret
    exact ⟨by rw [HE.out]; rfl, Dr.refl _⟩

instance (a : Rd) : Decidable (Ser.small a) := by unfold Ser.small; infer_instance
instance (a b : Rd) : Decidable (Ser.lt a b) := by unfold Ser.lt; infer_instance
instance (l : List Rd) : Decidable (Ser.Sorted l) := by unfold Ser.Sorted; infer_instance
theorem put_is (g : Nat) (a b : Int) (l l' : List Rd) (x : Rd) (q : Bool) (hq : Ser.put l x = (q, l')) (hl : l.length ≤ 10000) (hsm : ∀ y ∈ l, Ser.small y) (hr : Ser.right x = true) (w0 w : World) (L R : List Asr) (I : St w0 w L) (hA : At (SerO g a b l) L R) :
    Calls Try.prog 14 #[.pointer (some ⟨g, 0, none⟩), aggR x] w fun e w' => e = .returned (.tuple #[.bool q, .int .i64 0]) ∧ St w0 w' (SerO g a b l' :: R) := by
  have h := series_Put g a b l x hl hsm hr w0 w L R I hA
  rw [hq] at h
  exact h
theorem at_is (g : Nat) (a b : Int) (l : List Rd) (m r : Int) (hq : Ser.air l a b m = r) (hsr : Ser.Sorted l) (hsm : ∀ y ∈ l, Ser.small y) (hm : -9223372036854775808 ≤ m ∧ m ≤ 9223372036854775807) (hl : l.length ≤ 10000) (w0 : World) (hs : SerIs w0 g a b l) :
    Calls Try.prog 20 #[.pointer (some ⟨g, 0, none⟩), .int .i64 m] w0 fun e w' => e = .returned (.int .i64 r) ∧ Fr w0 w' := by
  rw [← hq]; exact series_At g a b l m hsr hsm hm hl w0 hs
theorem next_is (g : Nat) (a b : Int) (l : List Rd) (m r : Int) (hq : Ser.next l b m = r) (hsr : Ser.Sorted l) (hsm : ∀ y ∈ l, Ser.small y) (hb : 0 ≤ b ∧ b < 1048576) (hm : -9223372036854775808 ≤ m ∧ m ≤ 9223372036854775807) (hl : l.length ≤ 10000) (w0 : World) (hs : SerIs w0 g a b l) :
    Calls Try.prog 22 #[.pointer (some ⟨g, 0, none⟩), .int .i64 m] w0 fun e w' => e = .returned (.int .i64 r) ∧ Fr w0 w' := by
  rw [← hq]; exact series_Next g a b l m hsr hsm hb hm hl w0 hs
theorem all_is (g : Nat) (a b : Int) (l : List Rd) (hl : l.length ≤ 10000) (h0 : l ≠ []) (k : Nat) (hk : l.length = k) (w0 : World) (hs : SerIs w0 g a b l) :
    Calls Try.prog 18 #[.pointer (some ⟨g, 0, none⟩)] w0 fun e w' => ∃ gv c, e = .returned (.slice (some ⟨gv, 0, none⟩) k c) ∧ St w0 w' [OwnS 36 3 encR (.slice (some ⟨gv, 0, none⟩) k c) l] := by
  subst hk
  refine (series_All g a b l hl w0 hs).mono ?_
  rintro _ w1 ⟨v', rfl, S⟩
  obtain ⟨gv, c, rfl, _⟩ := (S.own .here).base_of h0
  exact ⟨gv, c, rfl, S⟩
set_option maxRecDepth 100000 in
set_option maxHeartbeats 4000000 in
theorem law06_alive (w0 : World) : Calls Try.prog 11 #[] w0 fun e w' => e = .returned (.bool true) ∧ Fr w0 w' := by
  have I := St.refl w0
  go_enter Try.func11, Try.ntmps11
  try dsimp only [List.append]
  go_upto_region 12 with (first | (first | ((with_reducible refine gguard ?_); (first | refine w_guardT (by rfl) (fun hb => ?_) (fun hb => ?_) | refine w_guardF (by rfl) (fun hb => ?_) (fun hb => ?_)) <;> first | (cases hb; done) | cases hb | ((try rw [hb]) <;> (try simp at hb) <;> go_prune <;> (try (with_reducible replace hb := eqPair hb)))) | (((with_reducible refine gbox ?_); first | refine w_boxA I (by rfl) ?_ | refine w_box1 I (by (conv => lhs; whnf) <;> rfl) (by rfl) ?_); clear I; intro g w I) | ((with_reducible refine galloc ?_); refine w_alloc I ?_; clear I; intro g w I) | ((with_reducible refine gload ?_); first | refine w_loadB I (by rfl) (by first | (with_reducible repeat (first | exact .here | apply At.there)); done | repeat (first | exact .here | apply At.there)) (by rfl) ?_ | refine w_loadBR I (by rfl) (by first | (with_reducible repeat (first | exact .here | apply At.there)); done | repeat (first | exact .here | apply At.there)) (by rfl) ?_ | refine w_load0 I (by rfl) (by assumption) ?_) | ((with_reducible refine gstore ?_); (first | refine w_storeB I (by rfl) (by (conv => lhs; whnf) <;> rfl) (by first | (with_reducible repeat (first | exact .here | apply Upd.there)); done | repeat (first | exact .here | apply Upd.there)) (by rfl) (by rfl) (by simp only [List.set_cons_zero, List.set_cons_succ] <;> rfl) ?_ | refine w_storeBR I (by rfl) (by rfl) (by first | (with_reducible repeat (first | exact .here | apply Upd.there)); done | repeat (first | exact .here | apply Upd.there)) (by rfl) (by rfl) (by rfl) ?_); clear I; intro w I)) | (go_at_call 12; go_must (refine (series_New_ok 99 5 _ _ _ I (by decide)).mono ?_; rintro _ w1 ⟨gs, rfl, S⟩; clear I; have I := S; clear S)) | (go_at_call 14; ((with_reducible refine (put_is gs 99 5 [] [⟨10, 2, 40⟩] ⟨10, 2, 40⟩ true (by decide) (by decide) (by decide) (by decide) _ _ _ _ I (by first | (with_reducible repeat (first | exact .here | apply At.there)); done | repeat (first | exact .here | apply At.there))).mono ?_); rintro _ w1 ⟨rfl, S⟩; clear I; have I := S; clear S)) | (go_at_call 14; ((with_reducible refine (put_is gs 99 5 [⟨10, 2, 40⟩] [⟨10, 1, 70⟩, ⟨10, 2, 40⟩] ⟨10, 1, 70⟩ true (by decide) (by decide) (by decide) (by decide) _ _ _ _ I (by first | (with_reducible repeat (first | exact .here | apply At.there)); done | repeat (first | exact .here | apply At.there))).mono ?_); rintro _ w1 ⟨rfl, S⟩; clear I; have I := S; clear S)) | (go_at_call 14; ((with_reducible refine (put_is gs 99 5 [⟨10, 1, 70⟩, ⟨10, 2, 40⟩] [⟨10, 1, 70⟩, ⟨10, 2, 40⟩] ⟨10, 2, 30⟩ false (by decide) (by decide) (by decide) (by decide) _ _ _ _ I (by first | (with_reducible repeat (first | exact .here | apply At.there)); done | repeat (first | exact .here | apply At.there))).mono ?_); rintro _ w1 ⟨rfl, S⟩; clear I; have I := S; clear S)) | (go_at_call 14; ((with_reducible refine (put_is gs 99 5 [⟨10, 1, 70⟩, ⟨10, 2, 40⟩] [⟨10, 1, 70⟩, ⟨10, 2, 50⟩] ⟨10, 2, 50⟩ true (by decide) (by decide) (by decide) (by decide) _ _ _ _ I (by first | (with_reducible repeat (first | exact .here | apply At.there)); done | repeat (first | exact .here | apply At.there))).mono ?_); rintro _ w1 ⟨rfl, S⟩; clear I; have I := S; clear S)) | (go_at_call 14; ((with_reducible refine (series_Put_no gs ⟨-1, 0, 0⟩ _ (by decide)).mono ?_); rintro _ w1 ⟨rfl, hf⟩; replace I := I.still hf; clear hf)) | (go_at_call 18; go_must (refine (all_is gs 99 5 [⟨10, 1, 70⟩, ⟨10, 2, 50⟩] (by decide) (by simp) 2 rfl _ (SerO.is I (by first | (with_reducible repeat (first | exact .here | apply At.there)); done | repeat (first | exact .here | apply At.there)))).mono ?_; rintro _ w1 ⟨gv, cv, rfl, S⟩; replace I := I.then1 S; clear S)))
  all_goals try omega
  rename World => w
  have c1 : w.cell? ⟨gv, 1, none⟩ = some (.int .i64 1) := (I.own (v := .slice (some ⟨gv, 0, none⟩) 2 cv) (l := [⟨10, 1, 70⟩, ⟨10, 2, 50⟩]) (by first | (with_reducible repeat (first | exact .here | apply At.there)); done | repeat (first | exact .here | apply At.there))).cell encR_len 0 (by decide) 1 _ rfl
  have c2 : w.cell? ⟨gv, 5, none⟩ = some (.int .i64 50) := (I.own (v := .slice (some ⟨gv, 0, none⟩) 2 cv) (l := [⟨10, 1, 70⟩, ⟨10, 2, 50⟩]) (by first | (with_reducible repeat (first | exact .here | apply At.there)); done | repeat (first | exact .here | apply At.there))).cell encR_len 1 (by decide) 2 _ rfl
  have HS := Lib.hid (SerO.is (g := gs) (a := 99) (b := 5) (l := [⟨10, 1, 70⟩, ⟨10, 2, 50⟩]) I (by first | (with_reducible repeat (first | exact .here | apply At.there)); done | repeat (first | exact .here | apply At.there)))
  have HI := Lib.hid I.fr
  clear I
  have I := St.refl w
  go_wp2_with (first | (first | ((with_reducible refine gguard ?_); (first | refine w_guardT (by rfl) (fun hb => ?_) (fun hb => ?_) | refine w_guardF (by rfl) (fun hb => ?_) (fun hb => ?_)) <;> first | (cases hb; done) | cases hb | ((try rw [hb]) <;> (try simp at hb) <;> go_prune <;> (try (with_reducible replace hb := eqPair hb)))) | (((with_reducible refine gbox ?_); first | refine w_boxA I (by rfl) ?_ | refine w_box1 I (by (conv => lhs; whnf) <;> rfl) (by rfl) ?_); clear I; intro g w I) | ((with_reducible refine galloc ?_); refine w_alloc I ?_; clear I; intro g w I) | ((with_reducible refine gload ?_); first | refine w_loadB I (by rfl) (by first | (with_reducible repeat (first | exact .here | apply At.there)); done | repeat (first | exact .here | apply At.there)) (by rfl) ?_ | refine w_loadBR I (by rfl) (by first | (with_reducible repeat (first | exact .here | apply At.there)); done | repeat (first | exact .here | apply At.there)) (by rfl) ?_ | refine w_load0 I (by rfl) (by assumption) ?_) | ((with_reducible refine gstore ?_); (first | refine w_storeB I (by rfl) (by (conv => lhs; whnf) <;> rfl) (by first | (with_reducible repeat (first | exact .here | apply Upd.there)); done | repeat (first | exact .here | apply Upd.there)) (by rfl) (by rfl) (by simp only [List.set_cons_zero, List.set_cons_succ] <;> rfl) ?_ | refine w_storeBR I (by rfl) (by rfl) (by first | (with_reducible repeat (first | exact .here | apply Upd.there)); done | repeat (first | exact .here | apply Upd.there)) (by rfl) (by rfl) (by rfl) ?_); clear I; intro w I)) | (go_at_call 20; ((with_reducible refine (at_is gs 99 5 [⟨10, 1, 70⟩, ⟨10, 2, 50⟩] 9 99 (by decide) (by decide) (by decide) (by decide) (by decide) _ (HS.out.fr I.fr)).mono ?_); rintro _ w1 ⟨rfl, hf⟩; replace I := I.still hf; clear hf)) | (go_at_call 20; ((with_reducible refine (at_is gs 99 5 [⟨10, 1, 70⟩, ⟨10, 2, 50⟩] 15 50 (by decide) (by decide) (by decide) (by decide) (by decide) _ (HS.out.fr I.fr)).mono ?_); rintro _ w1 ⟨rfl, hf⟩; replace I := I.still hf; clear hf)) | (go_at_call 20; ((with_reducible refine (at_is gs 99 5 [⟨10, 1, 70⟩, ⟨10, 2, 50⟩] 16 99 (by decide) (by decide) (by decide) (by decide) (by decide) _ (HS.out.fr I.fr)).mono ?_); rintro _ w1 ⟨rfl, hf⟩; replace I := I.still hf; clear hf)) | (go_at_call 22; ((with_reducible refine (next_is gs 99 5 [⟨10, 1, 70⟩, ⟨10, 2, 50⟩] 3 10 (by decide) (by decide) (by decide) (by decide) (by decide) (by decide) _ (HS.out.fr I.fr)).mono ?_); rintro _ w1 ⟨rfl, hf⟩; replace I := I.still hf; clear hf)) | (go_at_call 22; ((with_reducible refine (next_is gs 99 5 [⟨10, 1, 70⟩, ⟨10, 2, 50⟩] 10 16 (by decide) (by decide) (by decide) (by decide) (by decide) (by decide) _ (HS.out.fr I.fr)).mono ?_); rintro _ w1 ⟨rfl, hf⟩; replace I := I.still hf; clear hf)) | (go_at_call 22; ((with_reducible refine (next_is gs 99 5 [⟨10, 1, 70⟩, ⟨10, 2, 50⟩] 16 (-1) (by decide) (by decide) (by decide) (by decide) (by decide) (by decide) _ (HS.out.fr I.fr)).mono ?_); rintro _ w1 ⟨rfl, hf⟩; replace I := I.still hf; clear hf)))
  all_goals try omega
  go_ret
  exact ⟨rfl, HI.out.trans I.fr⟩
end Go.Proofs.Ytggeloihnbjogaa
