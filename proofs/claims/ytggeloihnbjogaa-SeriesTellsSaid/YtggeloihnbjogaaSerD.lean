
/- Readings (layer 6): contracts of last, At, Next, All, Clone. -/
import Derived.Test.YtggeloihnbjogaaSerC
import Derived.Deep.RegionLaw
namespace Go.Proofs.Ytggeloihnbjogaa
open Go.RowKit Go.Hf

set_option maxRecDepth 100000 in
set_option maxHeartbeats 400000 in
theorem clone_rds (v : Value) (l : List Rd) (w : World) (h : SlV 3 (flat encR) w v l) (hm : l.length * 24 ≤ 140737488355328) :
    Calls Try.prog 55 #[v] w fun e w' => ∃ v', e = .returned v' ∧ Own w.heap.size 36 3 encR w' v' l ∧ Fr w w' ∧ (v' = .slice none 0 0 ↔ v = .slice none 0 0) := by
  obtain ⟨A, _, c, rfl, rfl, hl, _, hA, h⟩ := h
  have HS := Lib.hid h
  have HC := Lib.hid hl
  have HAc := Lib.hid hA
  have HM := Lib.hid hm
  clear h hl hA hm
  cases A with
  | none =>
    obtain rfl : l = [] := HS.out.1 rfl
    obtain rfl : c = 0 := HAc.out rfl
    have hq := fun wx => Lib.run_eql_slice_nil (P := Try.prog) wx 23 36 none 0 0 0 0 Try.underlying23
    go_enter Try.func55, Try.ntmps55
    go_wp2
    go_ret
    exact ⟨_, rfl, Own.nil _ _ _ _ _, Fr.refl _, by simp⟩
  | some a =>
    have hq := fun wx => Lib.run_eql_slice_nil (P := Try.prog) wx 23 36 (some a) l.length c 0 0 Try.underlying23
    go_enter Try.func55, Try.ntmps55
    go_wp2_with ((with_reducible refine gate (.call { callee := .builtin .append, args := #[.tmp 5, .tmp 6], argTypes := #[23, 23] }) rfl ?_); refine wpList_app rfl (.tmp 5) (.tmp 6) 23 rfl w.heap.size 36 (.agg #[.int .i64 0, .int .i64 0, .int .i64 0]) 3 24 Try.underlying23 (by kernel_rfl) rfl (by decide) encR_len encR_one (l := []) rfl (Own.lit _ _ _ _ w #[] [] (Nat.le_refl _) (Nat.zero_le _) encR_len rfl) rfl HC.out ((HS.out.fr (flat_stays _) ((Fr.refl w).alloc _)).raw encR_len (by decide)) (fun h => (by cases h)) ?_ ?_ ?_ ?_)
    · have := HM.out; simp; omega
    · have := HM.out; simp [maxLen]; omega
    · simp
    · intro v' w1 h1 h2 h3 _
      have H3 := Lib.hid h3
      clear h3
      go_wp2
      go_ret
      refine ⟨_, rfl, h1, Fr.grown ((Fr.refl w).alloc _) h2 (fun k hk => ?_), ?_⟩
      · simp [Value.ownBlock] at hk; omega
      · simpa using H3.out
theorem Ser.last_in {l : List Rd} {m : Int} (hs : Ser.Sorted l) {k : Nat} (hk : Ser.upto l m = k + 1) : ∃ hk : k < l.length, (l[k]).m ≤ m := by
  have h1 := Ser.upto_le l m
  refine ⟨by omega, ?_⟩
  exact (Ser.upto_iff m l (Ser.sorted_le hs) k (by omega)).2 (by omega)
theorem Ser.last_eq {l : List Rd} {b m : Int} {k : Nat} (hk : Ser.upto l m = k + 1) (hkl : k < l.length) : Ser.last l b m = if b < m - (l[k]).m then none else some l[k] := by
  unfold Ser.last
  rw [if_neg (by omega), hk, Nat.add_sub_cancel, List.getElem?_eq_getElem hkl]
theorem Ser.last_no {l : List Rd} {b m : Int} (hk : Ser.upto l m = 0) : Ser.last l b m = none := by
  unfold Ser.last
  rw [if_pos hk]
set_option maxRecDepth 100000 in
set_option maxHeartbeats 2000000 in
theorem series_last (g : Nat) (a b : Int) (l : List Rd) (m : Int) (hsr : Ser.Sorted l) (hsm : ∀ y ∈ l, Ser.small y) (hm : -9223372036854775808 ≤ m ∧ m ≤ 9223372036854775807) (hl : l.length ≤ 10000) (w0 : World) (hs : SerIs w0 g a b l) :
    Calls Try.prog 57 #[.pointer (some ⟨g, 0, none⟩), .int .i64 m] w0 fun e w' => e = .returned (.tuple #[aggR ((Ser.last l b m).getD Ser.zero), .bool (Ser.last l b m).isSome]) ∧ Fr w0 w' := by
  have HA := Lib.hid (series_ahead g a b l m hsr hl)
  have HSI := Lib.hid hs
  obtain ⟨A, c, _, h1, h2, hv⟩ := hs
  have hul := Ser.upto_le l m
  obtain ⟨k0, hk0⟩ : ∃ k0, Ser.upto l m = k0 := ⟨_, rfl⟩
  have I := St.refl w0
  cases k0 with
  | zero =>
    have HL : Hid (Ser.last l b m = none) := Lib.hid (Ser.last_no hk0)
    rw [hk0] at HA
    rw [HL.out]
    clear hk0 hul hsm hsr
    go_enter Try.func57, Try.ntmps57
    try dsimp only [List.append]
    go_upto_region 2 with (first | (first | ((with_reducible refine gguard ?_); (first | refine w_guardT (by rfl) (fun hb => ?_) (fun hb => ?_) | refine w_guardF (by rfl) (fun hb => ?_) (fun hb => ?_)) <;> first | (cases hb; done) | cases hb | ((try rw [hb]) <;> (try simp at hb) <;> go_prune <;> (try (with_reducible replace hb := eqPair hb)))) | (((with_reducible refine gbox ?_); first | refine w_boxA I (by rfl) ?_ | refine w_box1 I (by (conv => lhs; whnf) <;> rfl) (by rfl) ?_); clear I; intro g w I) | ((with_reducible refine galloc ?_); refine w_alloc I ?_; clear I; intro g w I) | ((with_reducible refine gload ?_); first | refine w_loadB I (by rfl) (by first | (with_reducible repeat (first | exact .here | apply At.there)); done | repeat (first | exact .here | apply At.there)) (by rfl) ?_ | refine w_loadBR I (by rfl) (by first | (with_reducible repeat (first | exact .here | apply At.there)); done | repeat (first | exact .here | apply At.there)) (by rfl) ?_ | refine w_load0 I (by rfl) (by assumption) ?_) | ((with_reducible refine gstore ?_); (first | refine w_storeB I (by rfl) (by (conv => lhs; whnf) <;> rfl) (by first | (with_reducible repeat (first | exact .here | apply Upd.there)); done | repeat (first | exact .here | apply Upd.there)) (by rfl) (by rfl) (by simp only [List.set_cons_zero, List.set_cons_succ] <;> rfl) ?_ | refine w_storeBR I (by rfl) (by rfl) (by first | (with_reducible repeat (first | exact .here | apply Upd.there)); done | repeat (first | exact .here | apply Upd.there)) (by rfl) (by rfl) (by rfl) ?_); clear I; intro w I)) | (go_at_call 59; go_must (refine (HA.out _ (HSI.out.fr I.fr)).mono ?_; rintro _ w1 ⟨rfl, hf⟩; replace I := I.still hf; clear hf)))
    go_quiet (fail)
    replace I := I.drewN nq
    go_wp2_with (first | ((with_reducible refine gguard ?_); (first | refine w_guardT (by rfl) (fun hb => ?_) (fun hb => ?_) | refine w_guardF (by rfl) (fun hb => ?_) (fun hb => ?_)) <;> first | (cases hb; done) | cases hb | ((try rw [hb]) <;> (try simp at hb) <;> go_prune <;> (try (with_reducible replace hb := eqPair hb)))) | (((with_reducible refine gbox ?_); first | refine w_boxA I (by rfl) ?_ | refine w_box1 I (by (conv => lhs; whnf) <;> rfl) (by rfl) ?_); clear I; intro g w I) | ((with_reducible refine galloc ?_); refine w_alloc I ?_; clear I; intro g w I) | ((with_reducible refine gload ?_); first | refine w_loadB I (by rfl) (by first | (with_reducible repeat (first | exact .here | apply At.there)); done | repeat (first | exact .here | apply At.there)) (by rfl) ?_ | refine w_loadBR I (by rfl) (by first | (with_reducible repeat (first | exact .here | apply At.there)); done | repeat (first | exact .here | apply At.there)) (by rfl) ?_ | refine w_load0 I (by rfl) (by assumption) ?_) | ((with_reducible refine gstore ?_); (first | refine w_storeB I (by rfl) (by (conv => lhs; whnf) <;> rfl) (by first | (with_reducible repeat (first | exact .here | apply Upd.there)); done | repeat (first | exact .here | apply Upd.there)) (by rfl) (by rfl) (by simp only [List.set_cons_zero, List.set_cons_succ] <;> rfl) ?_ | refine w_storeBR I (by rfl) (by rfl) (by first | (with_reducible repeat (first | exact .here | apply Upd.there)); done | repeat (first | exact .here | apply Upd.there)) (by rfl) (by rfl) (by rfl) ?_); clear I; intro w I))
    exact ret_2 rfl (by first | (exact ResV.t _ (by rfl)) | (exact ResV.row I (by rfl) (by first | (with_reducible repeat (first | exact .here | apply At.there)); done | repeat (first | exact .here | apply At.there)) (by rfl)) | (exact ResV.one I (by rfl) (by first | (with_reducible repeat (first | exact .here | apply At.there)); done | repeat (first | exact .here | apply At.there)))) (by first | (exact ResV.t _ (by rfl)) | (exact ResV.row I (by rfl) (by first | (with_reducible repeat (first | exact .here | apply At.there)); done | repeat (first | exact .here | apply At.there)) (by rfl)) | (exact ResV.one I (by rfl) (by first | (with_reducible repeat (first | exact .here | apply At.there)); done | repeat (first | exact .here | apply At.there)))) rfl ⟨rfl, I.fr⟩
  | succ k =>
    obtain ⟨hkl, hym⟩ := Ser.last_in hsr hk0
    have hLE := Ser.last_eq (b := b) hk0 hkl
    have hy0 := hsm _ (List.getElem_mem hkl)
    obtain ⟨A', _, c', e1, _, _, _, _, hsl⟩ := hv
    injection e1 with e1 _ _
    subst e1
    obtain ⟨b', o, rfl, hc0, hc1, hc2⟩ := atR hsl k hkl
    rw [hk0] at HA
    generalize l[k] = y at *
    obtain ⟨y1, y2, _, _⟩ := hy0
    clear hsl hsm hsr hul hk0
    have hki : IntKind.i64.wrap (((k + 1 : Nat) : Int) - 1) = (k : Int) := by rw [IntKind.wrap_i64]; omega
    obtain ⟨kk, hkk⟩ : ∃ kk : Int, ((k + 1 : Nat) : Int) = kk := ⟨_, rfl⟩
    rw [hkk] at hki HA
    have hkz : (kk == 0) = false := by simp; omega
    have hk2 : (k : Int) < (l.length : Int) := by omega
    have hdm : IntKind.i64.wrap (m - y.m) = m - y.m := by rw [IntKind.wrap_i64]; omega
    have HR3 := Lib.hid (show ∀ (j : Nat) (u : Value), (encR y)[j]? = some u → w0.cell? ((⟨b', o + k * 3, none⟩ : Addr).add j) = some u from fun j u hj => by
      rw [addr_add]
      match j, hj with
      | 0, hj => obtain rfl := Option.some.inj hj; exact hc0
      | 1, hj => obtain rfl := Option.some.inj hj; exact hc1
      | 2, hj => obtain rfl := Option.some.inj hj; exact hc2
      | _ + 3, hj => cases hj)
    clear hkk
    by_cases hg : b < m - y.m
    · have hgb : decide (b < m - y.m) = true := decide_eq_true hg
      have HL : Hid (Ser.last l b m = none) := Lib.hid (hLE.trans (if_pos hg))
      rw [HL.out]
      clear hLE hg
      go_enter Try.func57, Try.ntmps57
      try dsimp only [List.append]
      go_upto_region 2 with (first | (first | ((with_reducible refine gguard ?_); (first | refine w_guardT (by rfl) (fun hb => ?_) (fun hb => ?_) | refine w_guardF (by rfl) (fun hb => ?_) (fun hb => ?_)) <;> first | (cases hb; done) | cases hb | ((try rw [hb]) <;> (try simp at hb) <;> go_prune <;> (try (with_reducible replace hb := eqPair hb)))) | (((with_reducible refine gbox ?_); first | refine w_boxA I (by rfl) ?_ | refine w_box1 I (by (conv => lhs; whnf) <;> rfl) (by rfl) ?_); clear I; intro g w I) | ((with_reducible refine galloc ?_); refine w_alloc I ?_; clear I; intro g w I) | ((with_reducible refine gload ?_); first | refine w_loadB I (by rfl) (by first | (with_reducible repeat (first | exact .here | apply At.there)); done | repeat (first | exact .here | apply At.there)) (by rfl) ?_ | refine w_loadBR I (by rfl) (by first | (with_reducible repeat (first | exact .here | apply At.there)); done | repeat (first | exact .here | apply At.there)) (by rfl) ?_ | refine w_load0 I (by rfl) (by assumption) ?_) | ((with_reducible refine gstore ?_); (first | refine w_storeB I (by rfl) (by (conv => lhs; whnf) <;> rfl) (by first | (with_reducible repeat (first | exact .here | apply Upd.there)); done | repeat (first | exact .here | apply Upd.there)) (by rfl) (by rfl) (by simp only [List.set_cons_zero, List.set_cons_succ] <;> rfl) ?_ | refine w_storeBR I (by rfl) (by rfl) (by first | (with_reducible repeat (first | exact .here | apply Upd.there)); done | repeat (first | exact .here | apply Upd.there)) (by rfl) (by rfl) (by rfl) ?_); clear I; intro w I)) | (go_at_call 59; go_must (refine (HA.out _ (HSI.out.fr I.fr)).mono ?_; rintro _ w1 ⟨rfl, hf⟩; replace I := I.still hf; clear hf)))
      have q1 := I.fr.cell h1
      have q2 := I.fr.cell h2
      have q3 := I.fr.cell hc0
      go_quiet (fail)
      replace I := I.drewN nq
      clear q1 q2 q3
      go_wp2_with (first | ((with_reducible refine gguard ?_); (first | refine w_guardT (by rfl) (fun hb => ?_) (fun hb => ?_) | refine w_guardF (by rfl) (fun hb => ?_) (fun hb => ?_)) <;> first | (cases hb; done) | cases hb | ((try rw [hb]) <;> (try simp at hb) <;> go_prune <;> (try (with_reducible replace hb := eqPair hb)))) | (((with_reducible refine gbox ?_); first | refine w_boxA I (by rfl) ?_ | refine w_box1 I (by (conv => lhs; whnf) <;> rfl) (by rfl) ?_); clear I; intro g w I) | ((with_reducible refine galloc ?_); refine w_alloc I ?_; clear I; intro g w I) | ((with_reducible refine gload ?_); first | refine w_loadB I (by rfl) (by first | (with_reducible repeat (first | exact .here | apply At.there)); done | repeat (first | exact .here | apply At.there)) (by rfl) ?_ | refine w_loadBR I (by rfl) (by first | (with_reducible repeat (first | exact .here | apply At.there)); done | repeat (first | exact .here | apply At.there)) (by rfl) ?_ | refine w_load0 I (by rfl) (by assumption) ?_) | ((with_reducible refine gstore ?_); (first | refine w_storeB I (by rfl) (by (conv => lhs; whnf) <;> rfl) (by first | (with_reducible repeat (first | exact .here | apply Upd.there)); done | repeat (first | exact .here | apply Upd.there)) (by rfl) (by rfl) (by simp only [List.set_cons_zero, List.set_cons_succ] <;> rfl) ?_ | refine w_storeBR I (by rfl) (by rfl) (by first | (with_reducible repeat (first | exact .here | apply Upd.there)); done | repeat (first | exact .here | apply Upd.there)) (by rfl) (by rfl) (by rfl) ?_); clear I; intro w I))
      exact ret_2 rfl (by first | (exact ResV.t _ (by rfl)) | (exact ResV.row I (by rfl) (by first | (with_reducible repeat (first | exact .here | apply At.there)); done | repeat (first | exact .here | apply At.there)) (by rfl)) | (exact ResV.one I (by rfl) (by first | (with_reducible repeat (first | exact .here | apply At.there)); done | repeat (first | exact .here | apply At.there)))) (by first | (exact ResV.t _ (by rfl)) | (exact ResV.row I (by rfl) (by first | (with_reducible repeat (first | exact .here | apply At.there)); done | repeat (first | exact .here | apply At.there)) (by rfl)) | (exact ResV.one I (by rfl) (by first | (with_reducible repeat (first | exact .here | apply At.there)); done | repeat (first | exact .here | apply At.there)))) rfl ⟨rfl, I.fr⟩
    · have hgb : decide (b < m - y.m) = false := decide_eq_false hg
      have HL : Hid (Ser.last l b m = some y) := Lib.hid (hLE.trans (if_neg hg))
      rw [HL.out]
      clear hLE hg
      go_enter Try.func57, Try.ntmps57
      try dsimp only [List.append]
      go_upto_region 2 with (first | (first | ((with_reducible refine gguard ?_); (first | refine w_guardT (by rfl) (fun hb => ?_) (fun hb => ?_) | refine w_guardF (by rfl) (fun hb => ?_) (fun hb => ?_)) <;> first | (cases hb; done) | cases hb | ((try rw [hb]) <;> (try simp at hb) <;> go_prune <;> (try (with_reducible replace hb := eqPair hb)))) | (((with_reducible refine gbox ?_); first | refine w_boxA I (by rfl) ?_ | refine w_box1 I (by (conv => lhs; whnf) <;> rfl) (by rfl) ?_); clear I; intro g w I) | ((with_reducible refine galloc ?_); refine w_alloc I ?_; clear I; intro g w I) | ((with_reducible refine gload ?_); first | refine w_loadB I (by rfl) (by first | (with_reducible repeat (first | exact .here | apply At.there)); done | repeat (first | exact .here | apply At.there)) (by rfl) ?_ | refine w_loadBR I (by rfl) (by first | (with_reducible repeat (first | exact .here | apply At.there)); done | repeat (first | exact .here | apply At.there)) (by rfl) ?_ | refine w_load0 I (by rfl) (by assumption) ?_) | ((with_reducible refine gstore ?_); (first | refine w_storeB I (by rfl) (by (conv => lhs; whnf) <;> rfl) (by first | (with_reducible repeat (first | exact .here | apply Upd.there)); done | repeat (first | exact .here | apply Upd.there)) (by rfl) (by rfl) (by simp only [List.set_cons_zero, List.set_cons_succ] <;> rfl) ?_ | refine w_storeBR I (by rfl) (by rfl) (by first | (with_reducible repeat (first | exact .here | apply Upd.there)); done | repeat (first | exact .here | apply Upd.there)) (by rfl) (by rfl) (by rfl) ?_); clear I; intro w I)) | (go_at_call 59; go_must (refine (HA.out _ (HSI.out.fr I.fr)).mono ?_; rintro _ w1 ⟨rfl, hf⟩; replace I := I.still hf; clear hf)))
      have q1 := I.fr.cell h1
      have q2 := I.fr.cell h2
      have q3 := I.fr.cell hc0
      go_quiet (fail)
      replace I := I.drewN nq
      clear q1 q2 q3
      go_wp2_with (first | ((with_reducible refine gload (ty := 36) ?_); refine w_loadR (n := 3) (cs := encR y) (by rfl) rfl (fun j u hj => I.fr.cell (HR3.out j u hj)) ?_) | (first | ((with_reducible refine gguard ?_); (first | refine w_guardT (by rfl) (fun hb => ?_) (fun hb => ?_) | refine w_guardF (by rfl) (fun hb => ?_) (fun hb => ?_)) <;> first | (cases hb; done) | cases hb | ((try rw [hb]) <;> (try simp at hb) <;> go_prune <;> (try (with_reducible replace hb := eqPair hb)))) | (((with_reducible refine gbox ?_); first | refine w_boxA I (by rfl) ?_ | refine w_box1 I (by (conv => lhs; whnf) <;> rfl) (by rfl) ?_); clear I; intro g w I) | ((with_reducible refine galloc ?_); refine w_alloc I ?_; clear I; intro g w I) | ((with_reducible refine gload ?_); first | refine w_loadB I (by rfl) (by first | (with_reducible repeat (first | exact .here | apply At.there)); done | repeat (first | exact .here | apply At.there)) (by rfl) ?_ | refine w_loadBR I (by rfl) (by first | (with_reducible repeat (first | exact .here | apply At.there)); done | repeat (first | exact .here | apply At.there)) (by rfl) ?_ | refine w_load0 I (by rfl) (by assumption) ?_) | ((with_reducible refine gstore ?_); (first | refine w_storeB I (by rfl) (by (conv => lhs; whnf) <;> rfl) (by first | (with_reducible repeat (first | exact .here | apply Upd.there)); done | repeat (first | exact .here | apply Upd.there)) (by rfl) (by rfl) (by simp only [List.set_cons_zero, List.set_cons_succ] <;> rfl) ?_ | refine w_storeBR I (by rfl) (by rfl) (by first | (with_reducible repeat (first | exact .here | apply Upd.there)); done | repeat (first | exact .here | apply Upd.there)) (by rfl) (by rfl) (by rfl) ?_); clear I; intro w I)))
      all_goals try omega
      exact ret_2 rfl (by first | (exact ResV.t _ (by rfl)) | (exact ResV.row I (by rfl) (by first | (with_reducible repeat (first | exact .here | apply At.there)); done | repeat (first | exact .here | apply At.there)) (by rfl)) | (exact ResV.one I (by rfl) (by first | (with_reducible repeat (first | exact .here | apply At.there)); done | repeat (first | exact .here | apply At.there)))) (by first | (exact ResV.t _ (by rfl)) | (exact ResV.row I (by rfl) (by first | (with_reducible repeat (first | exact .here | apply At.there)); done | repeat (first | exact .here | apply At.there)) (by rfl)) | (exact ResV.one I (by rfl) (by first | (with_reducible repeat (first | exact .here | apply At.there)); done | repeat (first | exact .here | apply At.there)))) rfl ⟨rfl, I.fr⟩
theorem series_At_nil (m : Int) (w : World) : Calls Try.prog 20 #[.pointer none, .int .i64 m] w fun e w' => e = .returned (.int .i64 (0)) ∧ w = w' := by
  go_enter Try.func20, Try.ntmps20
  go_wp2_with fail
  go_ret
  exact ⟨rfl, rfl⟩
theorem series_Next_nil (m : Int) (w : World) : Calls Try.prog 22 #[.pointer none, .int .i64 m] w fun e w' => e = .returned (.int .i64 (-1)) ∧ w = w' := by
  go_enter Try.func22, Try.ntmps22
  go_wp2_with fail
  go_ret
  exact ⟨rfl, rfl⟩
theorem series_All_nil (w : World) : Calls Try.prog 18 #[.pointer none] w fun e w' => e = .returned (.slice none 0 0) ∧ w = w' := by
  go_enter Try.func18, Try.ntmps18
  go_wp2_with fail
  go_ret
  exact ⟨rfl, rfl⟩
theorem series_Clone_nil (w : World) : Calls Try.prog 16 #[.pointer none] w fun e w' => e = .returned (.pointer none) ∧ w = w' := by
  go_enter Try.func16, Try.ntmps16
  go_wp2_with fail
  go_ret
  exact ⟨rfl, rfl⟩
set_option maxRecDepth 100000 in
set_option maxHeartbeats 1000000 in
theorem series_At (g : Nat) (a b : Int) (l : List Rd) (m : Int) (hsr : Ser.Sorted l) (hsm : ∀ y ∈ l, Ser.small y) (hm : -9223372036854775808 ≤ m ∧ m ≤ 9223372036854775807) (hl : l.length ≤ 10000) (w0 : World) (hs : SerIs w0 g a b l) :
    Calls Try.prog 20 #[.pointer (some ⟨g, 0, none⟩), .int .i64 m] w0 fun e w' => e = .returned (.int .i64 (Ser.air l a b m)) ∧ Fr w0 w' := by
  have HLa := Lib.hid (series_last g a b l m hsr hsm hm hl)
  have HSI := Lib.hid hs
  obtain ⟨A, c, h0, h1, h2, hv⟩ := hs
  have I := St.refl w0
  have HE : Hid (Ser.air l a b m = match Ser.last l b m with | none => a | some x => x.t) := Lib.hid rfl
  generalize Ser.last l b m = q at *
  clear hv hsr hsm
  cases q with
  | none =>
    dsimp only [Option.getD_none, Option.isSome_none] at HLa
    go_enter Try.func20, Try.ntmps20
    try dsimp only [List.append]
    go_wp2_with (first | (first | ((with_reducible refine gguard ?_); (first | refine w_guardT (by rfl) (fun hb => ?_) (fun hb => ?_) | refine w_guardF (by rfl) (fun hb => ?_) (fun hb => ?_)) <;> first | (cases hb; done) | cases hb | ((try rw [hb]) <;> (try simp at hb) <;> go_prune <;> (try (with_reducible replace hb := eqPair hb)))) | (((with_reducible refine gbox ?_); first | refine w_boxA I (by rfl) ?_ | refine w_box1 I (by (conv => lhs; whnf) <;> rfl) (by rfl) ?_); clear I; intro g w I) | ((with_reducible refine galloc ?_); refine w_alloc I ?_; clear I; intro g w I) | ((with_reducible refine gload ?_); first | refine w_loadB I (by rfl) (by first | (with_reducible repeat (first | exact .here | apply At.there)); done | repeat (first | exact .here | apply At.there)) (by rfl) ?_ | refine w_loadBR I (by rfl) (by first | (with_reducible repeat (first | exact .here | apply At.there)); done | repeat (first | exact .here | apply At.there)) (by rfl) ?_ | refine w_load0 I (by rfl) (by assumption) ?_) | ((with_reducible refine gstore ?_); (first | refine w_storeB I (by rfl) (by (conv => lhs; whnf) <;> rfl) (by first | (with_reducible repeat (first | exact .here | apply Upd.there)); done | repeat (first | exact .here | apply Upd.there)) (by rfl) (by rfl) (by simp only [List.set_cons_zero, List.set_cons_succ] <;> rfl) ?_ | refine w_storeBR I (by rfl) (by rfl) (by first | (with_reducible repeat (first | exact .here | apply Upd.there)); done | repeat (first | exact .here | apply Upd.there)) (by rfl) (by rfl) (by rfl) ?_); clear I; intro w I)) | (go_at_call 57; go_must (refine (HLa.out _ (HSI.out.fr I.fr)).mono ?_; rintro _ w1 ⟨rfl, hf⟩; replace I := I.still hf; clear hf)))
    go_ret
    exact ⟨by rw [HE.out]; rfl, I.fr⟩
  | some x =>
    dsimp only [Option.getD_some, Option.isSome_some] at HLa
    go_enter Try.func20, Try.ntmps20
    try dsimp only [List.append]
    go_wp2_with (first | (first | ((with_reducible refine gguard ?_); (first | refine w_guardT (by rfl) (fun hb => ?_) (fun hb => ?_) | refine w_guardF (by rfl) (fun hb => ?_) (fun hb => ?_)) <;> first | (cases hb; done) | cases hb | ((try rw [hb]) <;> (try simp at hb) <;> go_prune <;> (try (with_reducible replace hb := eqPair hb)))) | (((with_reducible refine gbox ?_); first | refine w_boxA I (by rfl) ?_ | refine w_box1 I (by (conv => lhs; whnf) <;> rfl) (by rfl) ?_); clear I; intro g w I) | ((with_reducible refine galloc ?_); refine w_alloc I ?_; clear I; intro g w I) | ((with_reducible refine gload ?_); first | refine w_loadB I (by rfl) (by first | (with_reducible repeat (first | exact .here | apply At.there)); done | repeat (first | exact .here | apply At.there)) (by rfl) ?_ | refine w_loadBR I (by rfl) (by first | (with_reducible repeat (first | exact .here | apply At.there)); done | repeat (first | exact .here | apply At.there)) (by rfl) ?_ | refine w_load0 I (by rfl) (by assumption) ?_) | ((with_reducible refine gstore ?_); (first | refine w_storeB I (by rfl) (by (conv => lhs; whnf) <;> rfl) (by first | (with_reducible repeat (first | exact .here | apply Upd.there)); done | repeat (first | exact .here | apply Upd.there)) (by rfl) (by rfl) (by simp only [List.set_cons_zero, List.set_cons_succ] <;> rfl) ?_ | refine w_storeBR I (by rfl) (by rfl) (by first | (with_reducible repeat (first | exact .here | apply Upd.there)); done | repeat (first | exact .here | apply Upd.there)) (by rfl) (by rfl) (by rfl) ?_); clear I; intro w I)) | (go_at_call 57; go_must (refine (HLa.out _ (HSI.out.fr I.fr)).mono ?_; rintro _ w1 ⟨rfl, hf⟩; replace I := I.still hf; clear hf)))
    go_ret
    exact ⟨by rw [HE.out]; rfl, I.fr⟩
set_option maxRecDepth 100000 in
theorem series_All (g : Nat) (a b : Int) (l : List Rd) (hl : l.length ≤ 10000) (w0 : World) (hs : SerIs w0 g a b l) :
    Calls Try.prog 18 #[.pointer (some ⟨g, 0, none⟩)] w0 fun e w' => ∃ v', e = .returned v' ∧ St w0 w' [OwnS 36 3 encR v' l] := by
  obtain ⟨A, c, h0, h1, h2, hv⟩ := hs
  have HV := Lib.hid hv
  have I := St.refl w0
  clear hv
  go_enter Try.func18, Try.ntmps18
  try dsimp only [List.append]
  go_wp2_with (first | (first | ((with_reducible refine gguard ?_); (first | refine w_guardT (by rfl) (fun hb => ?_) (fun hb => ?_) | refine w_guardF (by rfl) (fun hb => ?_) (fun hb => ?_)) <;> first | (cases hb; done) | cases hb | ((try rw [hb]) <;> (try simp at hb) <;> go_prune <;> (try (with_reducible replace hb := eqPair hb)))) | (((with_reducible refine gbox ?_); first | refine w_boxA I (by rfl) ?_ | refine w_box1 I (by (conv => lhs; whnf) <;> rfl) (by rfl) ?_); clear I; intro g w I) | ((with_reducible refine galloc ?_); refine w_alloc I ?_; clear I; intro g w I) | ((with_reducible refine gload ?_); first | refine w_loadB I (by rfl) (by first | (with_reducible repeat (first | exact .here | apply At.there)); done | repeat (first | exact .here | apply At.there)) (by rfl) ?_ | refine w_loadBR I (by rfl) (by first | (with_reducible repeat (first | exact .here | apply At.there)); done | repeat (first | exact .here | apply At.there)) (by rfl) ?_ | refine w_load0 I (by rfl) (by assumption) ?_) | ((with_reducible refine gstore ?_); (first | refine w_storeB I (by rfl) (by (conv => lhs; whnf) <;> rfl) (by first | (with_reducible repeat (first | exact .here | apply Upd.there)); done | repeat (first | exact .here | apply Upd.there)) (by rfl) (by rfl) (by simp only [List.set_cons_zero, List.set_cons_succ] <;> rfl) ?_ | refine w_storeBR I (by rfl) (by rfl) (by first | (with_reducible repeat (first | exact .here | apply Upd.there)); done | repeat (first | exact .here | apply Upd.there)) (by rfl) (by rfl) (by rfl) ?_); clear I; intro w I)) | (go_at_call 55; go_must (refine (clone_rds _ l _ (HV.out.fr (flat_stays _) I.fr) (by omega)).mono ?_; rintro _ w1 ⟨v', rfl, ho, hf, _⟩; have I2 := I.mkOwn hf ho; clear I ho hf)))
  go_ret
  exact ⟨_, rfl, I2⟩
set_option maxRecDepth 100000 in
set_option maxHeartbeats 2000000 in
theorem series_Next (g : Nat) (a b : Int) (l : List Rd) (m : Int) (hsr : Ser.Sorted l) (hsm : ∀ y ∈ l, Ser.small y) (hb : 0 ≤ b ∧ b < 1048576) (hm : -9223372036854775808 ≤ m ∧ m ≤ 9223372036854775807) (hl : l.length ≤ 10000) (w0 : World) (hs : SerIs w0 g a b l) :
    Calls Try.prog 22 #[.pointer (some ⟨g, 0, none⟩), .int .i64 m] w0 fun e w' => e = .returned (.int .i64 (Ser.next l b m)) ∧ Fr w0 w' := by
  have HLa := Lib.hid (series_last g a b l m hsr hsm hm hl)
  have HA := Lib.hid (series_ahead g a b l m hsr hl)
  have HSI := Lib.hid hs
  obtain ⟨A, c, h0, h1, h2, hv⟩ := hs
  have I := St.refl w0
  obtain ⟨k, hk⟩ : ∃ k, Ser.upto l m = k := ⟨_, rfl⟩
  have hkl := Ser.upto_le l m
  have hxs : ∀ x, Ser.last l b m = some x → Ser.small x := fun x hx => by
    cases h : Ser.upto l m with
    | zero => rw [Ser.last_no h] at hx; cases hx
    | succ j =>
      obtain ⟨hj, _⟩ := Ser.last_in hsr h
      rw [Ser.last_eq h hj] at hx
      split at hx
      · cases hx
      · injection hx with hx; rw [← hx]; exact hsm _ (List.getElem_mem _)
  rw [hk] at HA hkl
  obtain ⟨n0, hn0⟩ : ∃ n0 : Int, (match l[k]? with | none => -1 | some x => x.m) = n0 := ⟨_, rfl⟩
  have HE : Hid (Ser.next l b m = match Ser.last l b m with | none => n0 | some x => if n0 < 0 ∨ x.m + b + 1 < n0 then x.m + b + 1 else n0) := Lib.hid (by rw [← hn0, ← hk]; rfl)
  generalize Ser.last l b m = q at *
  clear hk hsr
  obtain ⟨A', _, c', e1, _, _, _, _, hsl⟩ := hv
  injection e1 with e1 _ _
  subst e1
  have hll : (l.length : Int) ≤ 10000 := by omega
  by_cases hlt : k < l.length
  · obtain ⟨bb, oo, rfl, hc0, _, _⟩ := atR hsl k hlt
    have hys := hsm _ (List.getElem_mem hlt)
    rw [List.getElem?_eq_getElem hlt] at hn0
    dsimp only at hn0
    generalize l[k] = y at *
    obtain ⟨y1, _, _, _⟩ := hys
    subst hn0
    clear hsl hsm
    have hk2 : (k : Int) < (l.length : Int) := by omega
    cases q with
    | none =>
      dsimp only [Option.getD_none, Option.isSome_none] at HLa
      go_enter Try.func22, Try.ntmps22
      try dsimp only [List.append]
      go_wp2_with (first | ((with_reducible refine gload (ty := 3) ?_); refine w_load0 (p := ⟨bb, oo + k * 3, none⟩) I (by rfl) hc0 ?_) | (first | ((with_reducible refine gguard ?_); (first | refine w_guardT (by rfl) (fun hb => ?_) (fun hb => ?_) | refine w_guardF (by rfl) (fun hb => ?_) (fun hb => ?_)) <;> first | (cases hb; done) | cases hb | ((try rw [hb]) <;> (try simp at hb) <;> go_prune <;> (try (with_reducible replace hb := eqPair hb)))) | (((with_reducible refine gbox ?_); first | refine w_boxA I (by rfl) ?_ | refine w_box1 I (by (conv => lhs; whnf) <;> rfl) (by rfl) ?_); clear I; intro g w I) | ((with_reducible refine galloc ?_); refine w_alloc I ?_; clear I; intro g w I) | ((with_reducible refine gload ?_); first | refine w_loadB I (by rfl) (by first | (with_reducible repeat (first | exact .here | apply At.there)); done | repeat (first | exact .here | apply At.there)) (by rfl) ?_ | refine w_loadBR I (by rfl) (by first | (with_reducible repeat (first | exact .here | apply At.there)); done | repeat (first | exact .here | apply At.there)) (by rfl) ?_ | refine w_load0 I (by rfl) (by assumption) ?_) | ((with_reducible refine gstore ?_); (first | refine w_storeB I (by rfl) (by (conv => lhs; whnf) <;> rfl) (by first | (with_reducible repeat (first | exact .here | apply Upd.there)); done | repeat (first | exact .here | apply Upd.there)) (by rfl) (by rfl) (by simp only [List.set_cons_zero, List.set_cons_succ] <;> rfl) ?_ | refine w_storeBR I (by rfl) (by rfl) (by first | (with_reducible repeat (first | exact .here | apply Upd.there)); done | repeat (first | exact .here | apply Upd.there)) (by rfl) (by rfl) (by rfl) ?_); clear I; intro w I)) | (go_at_call 59; go_must (refine (HA.out _ (HSI.out.fr I.fr)).mono ?_; rintro _ w1 ⟨rfl, hf⟩; replace I := I.still hf; clear hf)) | (go_at_call 57; go_must (refine (HLa.out _ (HSI.out.fr I.fr)).mono ?_; rintro _ w1 ⟨rfl, hf⟩; replace I := I.still hf; clear hf)))
      all_goals try omega
      go_ret
      exact ⟨by rw [HE.out]; rfl, I.fr⟩
    | some x =>
      dsimp only [Option.getD_some, Option.isSome_some] at HLa
      obtain ⟨x1, x2, _, _⟩ := hxs x rfl
      obtain ⟨b1, b2⟩ := hb
      obtain ⟨en, hen⟩ : ∃ en : Int, x.m + b + 1 = en := ⟨_, rfl⟩
      have hw1 : IntKind.i64.wrap (x.m + b) = x.m + b := by rw [IntKind.wrap_i64]; omega
      have hw2 : IntKind.i64.wrap (x.m + b + 1) = en := by rw [IntKind.wrap_i64]; omega
      have HN := Lib.hid hen
      clear hen
      have d1 : decide (y.m < (0 : Int)) = false := decide_eq_false (by omega)
      by_cases he : en < y.m
      · have d2 : decide (en < y.m) = true := decide_eq_true he
        have HF : Hid (Ser.next l b m = en) := Lib.hid (by rw [HE.out]; dsimp only; rw [HN.out, if_pos (.inr he)])
        go_enter Try.func22, Try.ntmps22
        try dsimp only [List.append]
        go_upto_region 9 with (first | ((with_reducible refine gload (ty := 3) ?_); refine w_load0 (p := ⟨bb, oo + k * 3, none⟩) I (by rfl) hc0 ?_) | (first | ((with_reducible refine gguard ?_); (first | refine w_guardT (by rfl) (fun hb => ?_) (fun hb => ?_) | refine w_guardF (by rfl) (fun hb => ?_) (fun hb => ?_)) <;> first | (cases hb; done) | cases hb | ((try rw [hb]) <;> (try simp at hb) <;> go_prune <;> (try (with_reducible replace hb := eqPair hb)))) | (((with_reducible refine gbox ?_); first | refine w_boxA I (by rfl) ?_ | refine w_box1 I (by (conv => lhs; whnf) <;> rfl) (by rfl) ?_); clear I; intro g w I) | ((with_reducible refine galloc ?_); refine w_alloc I ?_; clear I; intro g w I) | ((with_reducible refine gload ?_); first | refine w_loadB I (by rfl) (by first | (with_reducible repeat (first | exact .here | apply At.there)); done | repeat (first | exact .here | apply At.there)) (by rfl) ?_ | refine w_loadBR I (by rfl) (by first | (with_reducible repeat (first | exact .here | apply At.there)); done | repeat (first | exact .here | apply At.there)) (by rfl) ?_ | refine w_load0 I (by rfl) (by assumption) ?_) | ((with_reducible refine gstore ?_); (first | refine w_storeB I (by rfl) (by (conv => lhs; whnf) <;> rfl) (by first | (with_reducible repeat (first | exact .here | apply Upd.there)); done | repeat (first | exact .here | apply Upd.there)) (by rfl) (by rfl) (by simp only [List.set_cons_zero, List.set_cons_succ] <;> rfl) ?_ | refine w_storeBR I (by rfl) (by rfl) (by first | (with_reducible repeat (first | exact .here | apply Upd.there)); done | repeat (first | exact .here | apply Upd.there)) (by rfl) (by rfl) (by rfl) ?_); clear I; intro w I)) | (go_at_call 59; go_must (refine (HA.out _ (HSI.out.fr I.fr)).mono ?_; rintro _ w1 ⟨rfl, hf⟩; replace I := I.still hf; clear hf)) | (go_at_call 57; go_must (refine (HLa.out _ (HSI.out.fr I.fr)).mono ?_; rintro _ w1 ⟨rfl, hf⟩; replace I := I.still hf; clear hf)))
        all_goals try omega
        have q1 := I.fr.cell h1
        have F := I.facts
        dsimp only [AllF, Asr.facts, Blk, OwnS] at F
        go_quiet (fail)
        replace I := I.drewN nq
        clear F q1
        go_wp2_with (first | ((with_reducible refine gguard ?_); (first | refine w_guardT (by rfl) (fun hb => ?_) (fun hb => ?_) | refine w_guardF (by rfl) (fun hb => ?_) (fun hb => ?_)) <;> first | (cases hb; done) | cases hb | ((try rw [hb]) <;> (try simp at hb) <;> go_prune <;> (try (with_reducible replace hb := eqPair hb)))) | (((with_reducible refine gbox ?_); first | refine w_boxA I (by rfl) ?_ | refine w_box1 I (by (conv => lhs; whnf) <;> rfl) (by rfl) ?_); clear I; intro g w I) | ((with_reducible refine galloc ?_); refine w_alloc I ?_; clear I; intro g w I) | ((with_reducible refine gload ?_); first | refine w_loadB I (by rfl) (by first | (with_reducible repeat (first | exact .here | apply At.there)); done | repeat (first | exact .here | apply At.there)) (by rfl) ?_ | refine w_loadBR I (by rfl) (by first | (with_reducible repeat (first | exact .here | apply At.there)); done | repeat (first | exact .here | apply At.there)) (by rfl) ?_ | refine w_load0 I (by rfl) (by assumption) ?_) | ((with_reducible refine gstore ?_); (first | refine w_storeB I (by rfl) (by (conv => lhs; whnf) <;> rfl) (by first | (with_reducible repeat (first | exact .here | apply Upd.there)); done | repeat (first | exact .here | apply Upd.there)) (by rfl) (by rfl) (by simp only [List.set_cons_zero, List.set_cons_succ] <;> rfl) ?_ | refine w_storeBR I (by rfl) (by rfl) (by first | (with_reducible repeat (first | exact .here | apply Upd.there)); done | repeat (first | exact .here | apply Upd.there)) (by rfl) (by rfl) (by rfl) ?_); clear I; intro w I))
        go_ret
        exact ⟨by rw [HF.out]; rfl, I.fr⟩
      · have d2 : decide (en < y.m) = false := decide_eq_false he
        have HF : Hid (Ser.next l b m = y.m) := Lib.hid (by rw [HE.out]; dsimp only; rw [HN.out, if_neg (by omega)])
        go_enter Try.func22, Try.ntmps22
        try dsimp only [List.append]
        go_upto_region 9 with (first | ((with_reducible refine gload (ty := 3) ?_); refine w_load0 (p := ⟨bb, oo + k * 3, none⟩) I (by rfl) hc0 ?_) | (first | ((with_reducible refine gguard ?_); (first | refine w_guardT (by rfl) (fun hb => ?_) (fun hb => ?_) | refine w_guardF (by rfl) (fun hb => ?_) (fun hb => ?_)) <;> first | (cases hb; done) | cases hb | ((try rw [hb]) <;> (try simp at hb) <;> go_prune <;> (try (with_reducible replace hb := eqPair hb)))) | (((with_reducible refine gbox ?_); first | refine w_boxA I (by rfl) ?_ | refine w_box1 I (by (conv => lhs; whnf) <;> rfl) (by rfl) ?_); clear I; intro g w I) | ((with_reducible refine galloc ?_); refine w_alloc I ?_; clear I; intro g w I) | ((with_reducible refine gload ?_); first | refine w_loadB I (by rfl) (by first | (with_reducible repeat (first | exact .here | apply At.there)); done | repeat (first | exact .here | apply At.there)) (by rfl) ?_ | refine w_loadBR I (by rfl) (by first | (with_reducible repeat (first | exact .here | apply At.there)); done | repeat (first | exact .here | apply At.there)) (by rfl) ?_ | refine w_load0 I (by rfl) (by assumption) ?_) | ((with_reducible refine gstore ?_); (first | refine w_storeB I (by rfl) (by (conv => lhs; whnf) <;> rfl) (by first | (with_reducible repeat (first | exact .here | apply Upd.there)); done | repeat (first | exact .here | apply Upd.there)) (by rfl) (by rfl) (by simp only [List.set_cons_zero, List.set_cons_succ] <;> rfl) ?_ | refine w_storeBR I (by rfl) (by rfl) (by first | (with_reducible repeat (first | exact .here | apply Upd.there)); done | repeat (first | exact .here | apply Upd.there)) (by rfl) (by rfl) (by rfl) ?_); clear I; intro w I)) | (go_at_call 59; go_must (refine (HA.out _ (HSI.out.fr I.fr)).mono ?_; rintro _ w1 ⟨rfl, hf⟩; replace I := I.still hf; clear hf)) | (go_at_call 57; go_must (refine (HLa.out _ (HSI.out.fr I.fr)).mono ?_; rintro _ w1 ⟨rfl, hf⟩; replace I := I.still hf; clear hf)))
        all_goals try omega
        have q1 := I.fr.cell h1
        have F := I.facts
        dsimp only [AllF, Asr.facts, Blk, OwnS] at F
        go_quiet (fail)
        replace I := I.drewN nq
        clear F q1
        go_wp2_with (first | ((with_reducible refine gguard ?_); (first | refine w_guardT (by rfl) (fun hb => ?_) (fun hb => ?_) | refine w_guardF (by rfl) (fun hb => ?_) (fun hb => ?_)) <;> first | (cases hb; done) | cases hb | ((try rw [hb]) <;> (try simp at hb) <;> go_prune <;> (try (with_reducible replace hb := eqPair hb)))) | (((with_reducible refine gbox ?_); first | refine w_boxA I (by rfl) ?_ | refine w_box1 I (by (conv => lhs; whnf) <;> rfl) (by rfl) ?_); clear I; intro g w I) | ((with_reducible refine galloc ?_); refine w_alloc I ?_; clear I; intro g w I) | ((with_reducible refine gload ?_); first | refine w_loadB I (by rfl) (by first | (with_reducible repeat (first | exact .here | apply At.there)); done | repeat (first | exact .here | apply At.there)) (by rfl) ?_ | refine w_loadBR I (by rfl) (by first | (with_reducible repeat (first | exact .here | apply At.there)); done | repeat (first | exact .here | apply At.there)) (by rfl) ?_ | refine w_load0 I (by rfl) (by assumption) ?_) | ((with_reducible refine gstore ?_); (first | refine w_storeB I (by rfl) (by (conv => lhs; whnf) <;> rfl) (by first | (with_reducible repeat (first | exact .here | apply Upd.there)); done | repeat (first | exact .here | apply Upd.there)) (by rfl) (by rfl) (by simp only [List.set_cons_zero, List.set_cons_succ] <;> rfl) ?_ | refine w_storeBR I (by rfl) (by rfl) (by first | (with_reducible repeat (first | exact .here | apply Upd.there)); done | repeat (first | exact .here | apply Upd.there)) (by rfl) (by rfl) (by rfl) ?_); clear I; intro w I))
        go_ret
        exact ⟨by rw [HF.out]; rfl, I.fr⟩
  · rw [List.getElem?_eq_none (by omega)] at hn0
    dsimp only at hn0
    subst hn0
    clear hsl hsm
    have hk2 : ¬ (k : Int) < (l.length : Int) := by omega
    cases q with
    | none =>
      dsimp only [Option.getD_none, Option.isSome_none] at HLa
      go_enter Try.func22, Try.ntmps22
      try dsimp only [List.append]
      go_wp2_with (first | (first | ((with_reducible refine gguard ?_); (first | refine w_guardT (by rfl) (fun hb => ?_) (fun hb => ?_) | refine w_guardF (by rfl) (fun hb => ?_) (fun hb => ?_)) <;> first | (cases hb; done) | cases hb | ((try rw [hb]) <;> (try simp at hb) <;> go_prune <;> (try (with_reducible replace hb := eqPair hb)))) | (((with_reducible refine gbox ?_); first | refine w_boxA I (by rfl) ?_ | refine w_box1 I (by (conv => lhs; whnf) <;> rfl) (by rfl) ?_); clear I; intro g w I) | ((with_reducible refine galloc ?_); refine w_alloc I ?_; clear I; intro g w I) | ((with_reducible refine gload ?_); first | refine w_loadB I (by rfl) (by first | (with_reducible repeat (first | exact .here | apply At.there)); done | repeat (first | exact .here | apply At.there)) (by rfl) ?_ | refine w_loadBR I (by rfl) (by first | (with_reducible repeat (first | exact .here | apply At.there)); done | repeat (first | exact .here | apply At.there)) (by rfl) ?_ | refine w_load0 I (by rfl) (by assumption) ?_) | ((with_reducible refine gstore ?_); (first | refine w_storeB I (by rfl) (by (conv => lhs; whnf) <;> rfl) (by first | (with_reducible repeat (first | exact .here | apply Upd.there)); done | repeat (first | exact .here | apply Upd.there)) (by rfl) (by rfl) (by simp only [List.set_cons_zero, List.set_cons_succ] <;> rfl) ?_ | refine w_storeBR I (by rfl) (by rfl) (by first | (with_reducible repeat (first | exact .here | apply Upd.there)); done | repeat (first | exact .here | apply Upd.there)) (by rfl) (by rfl) (by rfl) ?_); clear I; intro w I)) | (go_at_call 59; go_must (refine (HA.out _ (HSI.out.fr I.fr)).mono ?_; rintro _ w1 ⟨rfl, hf⟩; replace I := I.still hf; clear hf)) | (go_at_call 57; go_must (refine (HLa.out _ (HSI.out.fr I.fr)).mono ?_; rintro _ w1 ⟨rfl, hf⟩; replace I := I.still hf; clear hf)))
      all_goals try omega
      go_ret
      exact ⟨by rw [HE.out]; rfl, I.fr⟩
    | some x =>
      dsimp only [Option.getD_some, Option.isSome_some] at HLa
      obtain ⟨x1, x2, _, _⟩ := hxs x rfl
      obtain ⟨b1, b2⟩ := hb
      obtain ⟨en, hen⟩ : ∃ en : Int, x.m + b + 1 = en := ⟨_, rfl⟩
      have hw1 : IntKind.i64.wrap (x.m + b) = x.m + b := by rw [IntKind.wrap_i64]; omega
      have hw2 : IntKind.i64.wrap (x.m + b + 1) = en := by rw [IntKind.wrap_i64]; omega
      have HN := Lib.hid hen
      clear hen
      have HF : Hid (Ser.next l b m = en) := Lib.hid (by rw [HE.out]; dsimp only; rw [HN.out, if_pos (.inl (by decide))])
      go_enter Try.func22, Try.ntmps22
      try dsimp only [List.append]
      go_upto_region 9 with (first | (first | ((with_reducible refine gguard ?_); (first | refine w_guardT (by rfl) (fun hb => ?_) (fun hb => ?_) | refine w_guardF (by rfl) (fun hb => ?_) (fun hb => ?_)) <;> first | (cases hb; done) | cases hb | ((try rw [hb]) <;> (try simp at hb) <;> go_prune <;> (try (with_reducible replace hb := eqPair hb)))) | (((with_reducible refine gbox ?_); first | refine w_boxA I (by rfl) ?_ | refine w_box1 I (by (conv => lhs; whnf) <;> rfl) (by rfl) ?_); clear I; intro g w I) | ((with_reducible refine galloc ?_); refine w_alloc I ?_; clear I; intro g w I) | ((with_reducible refine gload ?_); first | refine w_loadB I (by rfl) (by first | (with_reducible repeat (first | exact .here | apply At.there)); done | repeat (first | exact .here | apply At.there)) (by rfl) ?_ | refine w_loadBR I (by rfl) (by first | (with_reducible repeat (first | exact .here | apply At.there)); done | repeat (first | exact .here | apply At.there)) (by rfl) ?_ | refine w_load0 I (by rfl) (by assumption) ?_) | ((with_reducible refine gstore ?_); (first | refine w_storeB I (by rfl) (by (conv => lhs; whnf) <;> rfl) (by first | (with_reducible repeat (first | exact .here | apply Upd.there)); done | repeat (first | exact .here | apply Upd.there)) (by rfl) (by rfl) (by simp only [List.set_cons_zero, List.set_cons_succ] <;> rfl) ?_ | refine w_storeBR I (by rfl) (by rfl) (by first | (with_reducible repeat (first | exact .here | apply Upd.there)); done | repeat (first | exact .here | apply Upd.there)) (by rfl) (by rfl) (by rfl) ?_); clear I; intro w I)) | (go_at_call 59; go_must (refine (HA.out _ (HSI.out.fr I.fr)).mono ?_; rintro _ w1 ⟨rfl, hf⟩; replace I := I.still hf; clear hf)) | (go_at_call 57; go_must (refine (HLa.out _ (HSI.out.fr I.fr)).mono ?_; rintro _ w1 ⟨rfl, hf⟩; replace I := I.still hf; clear hf)))
      all_goals try omega
      have q1 := I.fr.cell h1
      have F := I.facts
      dsimp only [AllF, Asr.facts, Blk, OwnS] at F
      go_quiet (fail)
      replace I := I.drewN nq
      clear F q1
      go_wp2_with (first | ((with_reducible refine gguard ?_); (first | refine w_guardT (by rfl) (fun hb => ?_) (fun hb => ?_) | refine w_guardF (by rfl) (fun hb => ?_) (fun hb => ?_)) <;> first | (cases hb; done) | cases hb | ((try rw [hb]) <;> (try simp at hb) <;> go_prune <;> (try (with_reducible replace hb := eqPair hb)))) | (((with_reducible refine gbox ?_); first | refine w_boxA I (by rfl) ?_ | refine w_box1 I (by (conv => lhs; whnf) <;> rfl) (by rfl) ?_); clear I; intro g w I) | ((with_reducible refine galloc ?_); refine w_alloc I ?_; clear I; intro g w I) | ((with_reducible refine gload ?_); first | refine w_loadB I (by rfl) (by first | (with_reducible repeat (first | exact .here | apply At.there)); done | repeat (first | exact .here | apply At.there)) (by rfl) ?_ | refine w_loadBR I (by rfl) (by first | (with_reducible repeat (first | exact .here | apply At.there)); done | repeat (first | exact .here | apply At.there)) (by rfl) ?_ | refine w_load0 I (by rfl) (by assumption) ?_) | ((with_reducible refine gstore ?_); (first | refine w_storeB I (by rfl) (by (conv => lhs; whnf) <;> rfl) (by first | (with_reducible repeat (first | exact .here | apply Upd.there)); done | repeat (first | exact .here | apply Upd.there)) (by rfl) (by rfl) (by simp only [List.set_cons_zero, List.set_cons_succ] <;> rfl) ?_ | refine w_storeBR I (by rfl) (by rfl) (by first | (with_reducible repeat (first | exact .here | apply Upd.there)); done | repeat (first | exact .here | apply Upd.there)) (by rfl) (by rfl) (by rfl) ?_); clear I; intro w I))
      go_ret
      exact ⟨by rw [HF.out]; rfl, I.fr⟩
end Go.Proofs.Ytggeloihnbjogaa
