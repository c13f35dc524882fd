
/- Readings (layer 6): contract of Put. -/
import Derived.Test.YtggeloihnbjogaaSerA
import Derived.Test.YtggeloihnbjogaaSerI
import Derived.Deep.RegionHeld3
import Derived.Deep.QuietTactic
namespace Go.Proofs.Ytggeloihnbjogaa
open Go.RowKit Go.Hf

theorem Ser.right_small {x : Rd} (h : Ser.right x = true) : Ser.small x := by
  unfold Ser.right at h
  simp only [Bool.and_eq_true, decide_eq_true_eq] at h
  exact ⟨h.1.1.1.1, h.1.1.1.2, h.1.1.2, h.1.2⟩
theorem Ser.putAt_step (l : List Rd) (r : Rd) (k : Nat) (h : k < l.length) : Ser.putAt l r (k + 1) = if Ser.cmp l[k] r < 0 then (true, l.take (k + 1) ++ r :: l.drop (k + 1)) else if Ser.cmp l[k] r = 0 then (decide (l[k].t < r.t), l.set k { l[k] with t := max l[k].t r.t }) else Ser.putAt l r k := by
  show (match l[k]? with | none => _ | some x => _) = _
  rw [List.getElem?_eq_getElem h]
set_option maxRecDepth 100000 in
theorem series_Put_nil (x : Rd) (w0 : World) : Calls Try.prog 14 #[.pointer none, aggR x] w0 fun e w' => e = .returned (.tuple #[.bool false, .int .i64 1]) ∧ Fr w0 w' := by
  have I := St.refl w0
  go_enter Try.func14, Try.ntmps14
  go_wp2_with (first | ((with_reducible refine gguard ?_); (first | refine w_guardT (by rfl) (fun hb => ?_) (fun hb => ?_) | refine w_guardF (by rfl) (fun hb => ?_) (fun hb => ?_)) <;> first | (cases hb; done) | cases hb | ((try rw [hb]) <;> (try simp at hb) <;> go_prune <;> (try (with_reducible replace hb := eqPair hb)))) | (((with_reducible refine gbox ?_); first | refine w_boxA I (by rfl) ?_ | refine w_box1 I (by (conv => lhs; whnf) <;> rfl) (by rfl) ?_); clear I; intro g w I) | ((with_reducible refine galloc ?_); refine w_alloc I ?_; clear I; intro g w I) | ((with_reducible refine gload ?_); first | refine w_loadB I (by rfl) (by first | (with_reducible repeat (first | exact .here | apply At.there)); done | repeat (first | exact .here | apply At.there)) (by rfl) ?_ | refine w_loadBR I (by rfl) (by first | (with_reducible repeat (first | exact .here | apply At.there)); done | repeat (first | exact .here | apply At.there)) (by rfl) ?_ | refine w_load0 I (by rfl) (by assumption) ?_) | ((with_reducible refine gstore ?_); (first | refine w_storeB I (by rfl) (by (conv => lhs; whnf) <;> rfl) (by first | (with_reducible repeat (first | exact .here | apply Upd.there)); done | repeat (first | exact .here | apply Upd.there)) (by rfl) (by rfl) (by simp only [List.set_cons_zero, List.set_cons_succ] <;> rfl) ?_ | refine w_storeBR I (by rfl) (by rfl) (by first | (with_reducible repeat (first | exact .here | apply Upd.there)); done | repeat (first | exact .here | apply Upd.there)) (by rfl) (by rfl) (by rfl) ?_); clear I; intro w I))
  go_step3
  go_wp2_with (first | ((with_reducible refine gguard ?_); (first | refine w_guardT (by rfl) (fun hb => ?_) (fun hb => ?_) | refine w_guardF (by rfl) (fun hb => ?_) (fun hb => ?_)) <;> first | (cases hb; done) | cases hb | ((try rw [hb]) <;> (try simp at hb) <;> go_prune <;> (try (with_reducible replace hb := eqPair hb)))) | (((with_reducible refine gbox ?_); first | refine w_boxA I (by rfl) ?_ | refine w_box1 I (by (conv => lhs; whnf) <;> rfl) (by rfl) ?_); clear I; intro g w I) | ((with_reducible refine galloc ?_); refine w_alloc I ?_; clear I; intro g w I) | ((with_reducible refine gload ?_); first | refine w_loadB I (by rfl) (by first | (with_reducible repeat (first | exact .here | apply At.there)); done | repeat (first | exact .here | apply At.there)) (by rfl) ?_ | refine w_loadBR I (by rfl) (by first | (with_reducible repeat (first | exact .here | apply At.there)); done | repeat (first | exact .here | apply At.there)) (by rfl) ?_ | refine w_load0 I (by rfl) (by assumption) ?_) | ((with_reducible refine gstore ?_); (first | refine w_storeB I (by rfl) (by (conv => lhs; whnf) <;> rfl) (by first | (with_reducible repeat (first | exact .here | apply Upd.there)); done | repeat (first | exact .here | apply Upd.there)) (by rfl) (by rfl) (by simp only [List.set_cons_zero, List.set_cons_succ] <;> rfl) ?_ | refine w_storeBR I (by rfl) (by rfl) (by first | (with_reducible repeat (first | exact .here | apply Upd.there)); done | repeat (first | exact .here | apply Upd.there)) (by rfl) (by rfl) (by rfl) ?_); clear I; intro w I))
  try rw [Exit.noGoto_ret]
  go_ret2
  exact ⟨rfl, I.fr⟩
set_option maxRecDepth 100000 in
theorem series_Put_no (g : Nat) (x : Rd) (w0 : World) (h : Ser.right x = false) : Calls Try.prog 14 #[.pointer (some ⟨g, 0, none⟩), aggR x] w0 fun e w' => e = .returned (.tuple #[.bool false, .int .i64 1]) ∧ Fr w0 w' := by
  have I := St.refl w0
  have HR := Lib.hid h
  clear h
  go_enter Try.func14, Try.ntmps14
  go_wp2_with (first | ((with_reducible refine gguard ?_); (first | refine w_guardT (by rfl) (fun hb => ?_) (fun hb => ?_) | refine w_guardF (by rfl) (fun hb => ?_) (fun hb => ?_)) <;> first | (cases hb; done) | cases hb | ((try rw [hb]) <;> (try simp at hb) <;> go_prune <;> (try (with_reducible replace hb := eqPair hb)))) | (((with_reducible refine gbox ?_); first | refine w_boxA I (by rfl) ?_ | refine w_box1 I (by (conv => lhs; whnf) <;> rfl) (by rfl) ?_); clear I; intro g w I) | ((with_reducible refine galloc ?_); refine w_alloc I ?_; clear I; intro g w I) | ((with_reducible refine gload ?_); first | refine w_loadB I (by rfl) (by first | (with_reducible repeat (first | exact .here | apply At.there)); done | repeat (first | exact .here | apply At.there)) (by rfl) ?_ | refine w_loadBR I (by rfl) (by first | (with_reducible repeat (first | exact .here | apply At.there)); done | repeat (first | exact .here | apply At.there)) (by rfl) ?_ | refine w_load0 I (by rfl) (by assumption) ?_) | ((with_reducible refine gstore ?_); (first | refine w_storeB I (by rfl) (by (conv => lhs; whnf) <;> rfl) (by first | (with_reducible repeat (first | exact .here | apply Upd.there)); done | repeat (first | exact .here | apply Upd.there)) (by rfl) (by rfl) (by simp only [List.set_cons_zero, List.set_cons_succ] <;> rfl) ?_ | refine w_storeBR I (by rfl) (by rfl) (by first | (with_reducible repeat (first | exact .here | apply Upd.there)); done | repeat (first | exact .here | apply Upd.there)) (by rfl) (by rfl) (by rfl) ?_); clear I; intro w I))
  go_step3
  go_wp2_with (first | (first | ((with_reducible refine gguard ?_); (first | refine w_guardT (by rfl) (fun hb => ?_) (fun hb => ?_) | refine w_guardF (by rfl) (fun hb => ?_) (fun hb => ?_)) <;> first | (cases hb; done) | cases hb | ((try rw [hb]) <;> (try simp at hb) <;> go_prune <;> (try (with_reducible replace hb := eqPair hb)))) | (((with_reducible refine gbox ?_); first | refine w_boxA I (by rfl) ?_ | refine w_box1 I (by (conv => lhs; whnf) <;> rfl) (by rfl) ?_); clear I; intro g w I) | ((with_reducible refine galloc ?_); refine w_alloc I ?_; clear I; intro g w I) | ((with_reducible refine gload ?_); first | refine w_loadB I (by rfl) (by first | (with_reducible repeat (first | exact .here | apply At.there)); done | repeat (first | exact .here | apply At.there)) (by rfl) ?_ | refine w_loadBR I (by rfl) (by first | (with_reducible repeat (first | exact .here | apply At.there)); done | repeat (first | exact .here | apply At.there)) (by rfl) ?_ | refine w_load0 I (by rfl) (by assumption) ?_) | ((with_reducible refine gstore ?_); (first | refine w_storeB I (by rfl) (by (conv => lhs; whnf) <;> rfl) (by first | (with_reducible repeat (first | exact .here | apply Upd.there)); done | repeat (first | exact .here | apply Upd.there)) (by rfl) (by rfl) (by simp only [List.set_cons_zero, List.set_cons_succ] <;> rfl) ?_ | refine w_storeBR I (by rfl) (by rfl) (by first | (with_reducible repeat (first | exact .here | apply Upd.there)); done | repeat (first | exact .here | apply Upd.there)) (by rfl) (by rfl) (by rfl) ?_); clear I; intro w I)) | (go_at_call 51; go_must (refine (series_right _ _).mono ?_; rintro _ w1 ⟨rfl, hf⟩; rw [HR.out]; replace I := I.still hf; clear hf)))
  try rw [Exit.noGoto_ret]
  go_ret2
  exact ⟨rfl, I.fr⟩
set_option maxRecDepth 100000 in
set_option maxHeartbeats 8000000 in
theorem series_Put (g : Nat) (a b : Int) (l : List Rd) (x : Rd) (hl : l.length ≤ 10000) (hsm : ∀ y ∈ l, Ser.small y) (hr : Ser.right x = true) (w0 w : World) (L R : List Asr) (I : St w0 w L) (hA : At (SerO g a b l) L R) :
    Calls Try.prog 14 #[.pointer (some ⟨g, 0, none⟩), aggR x] w fun e w' => e = .returned (.tuple #[.bool (Ser.put l x).1, .int .i64 0]) ∧ St w0 w' (SerO g a b (Ser.put l x).2 :: R) := by
  have HR := Lib.hid hr
  have hx := Ser.right_small hr
  have HX := Lib.hid hx
  have HSm := Lib.hid hsm
  have HP : Hid (Ser.putAt l x l.length = Ser.put l x) := Lib.hid rfl
  obtain ⟨q, hq⟩ : ∃ q, Ser.put l x = q := ⟨_, rfl⟩
  rw [hq] at HP ⊢
  obtain ⟨qb, ql⟩ := q
  dsimp only
  obtain ⟨v, J⟩ := SerO.open I hA
  obtain ⟨A, c, rfl, hc0, hc1, hcn, _⟩ := (J.own (v := v) (l := l) (.there .here)).reads encR_len
  unfold maxLen at hc1
  have HCN := Lib.hid hcn
  have HL := Lib.hid hl
  clear hr hsm hx I hA hq hcn
  have I := J
  clear J
  --WALK
  go_enter Try.func14, Try.ntmps14
  go_wp2_with (first | ((with_reducible refine gbox (ty := 36) ?_); (first | refine w_boxA I (by rfl) ?_ | refine w_box1 I (by (conv => lhs; whnf) <;> rfl) (by rfl) ?_); clear I; intro gr w I) | (first | ((with_reducible refine gguard ?_); (first | refine w_guardT (by rfl) (fun hb => ?_) (fun hb => ?_) | refine w_guardF (by rfl) (fun hb => ?_) (fun hb => ?_)) <;> first | (cases hb; done) | cases hb | ((try rw [hb]) <;> (try simp at hb) <;> go_prune <;> (try (with_reducible replace hb := eqPair hb)))) | (((with_reducible refine gbox ?_); first | refine w_boxA I (by rfl) ?_ | refine w_box1 I (by (conv => lhs; whnf) <;> rfl) (by rfl) ?_); clear I; intro g w I) | ((with_reducible refine galloc ?_); refine w_alloc I ?_; clear I; intro g w I) | ((with_reducible refine gload ?_); first | refine w_loadB I (by rfl) (by first | (with_reducible repeat (first | exact .here | apply At.there)); done | repeat (first | exact .here | apply At.there)) (by rfl) ?_ | refine w_loadBR I (by rfl) (by first | (with_reducible repeat (first | exact .here | apply At.there)); done | repeat (first | exact .here | apply At.there)) (by rfl) ?_ | refine w_load0 I (by rfl) (by assumption) ?_) | ((with_reducible refine gstore ?_); (first | refine w_storeB I (by rfl) (by (conv => lhs; whnf) <;> rfl) (by first | (with_reducible repeat (first | exact .here | apply Upd.there)); done | repeat (first | exact .here | apply Upd.there)) (by rfl) (by rfl) (by simp only [List.set_cons_zero, List.set_cons_succ] <;> rfl) ?_ | refine w_storeBR I (by rfl) (by rfl) (by first | (with_reducible repeat (first | exact .here | apply Upd.there)); done | repeat (first | exact .here | apply Upd.there)) (by rfl) (by rfl) (by rfl) ?_); clear I; intro w I)))
  go_step3
  go_wp2_with (first | (first | ((with_reducible refine gguard ?_); (first | refine w_guardT (by rfl) (fun hb => ?_) (fun hb => ?_) | refine w_guardF (by rfl) (fun hb => ?_) (fun hb => ?_)) <;> first | (cases hb; done) | cases hb | ((try rw [hb]) <;> (try simp at hb) <;> go_prune <;> (try (with_reducible replace hb := eqPair hb)))) | (((with_reducible refine gbox ?_); first | refine w_boxA I (by rfl) ?_ | refine w_box1 I (by (conv => lhs; whnf) <;> rfl) (by rfl) ?_); clear I; intro g w I) | ((with_reducible refine galloc ?_); refine w_alloc I ?_; clear I; intro g w I) | ((with_reducible refine gload ?_); first | refine w_loadB I (by rfl) (by first | (with_reducible repeat (first | exact .here | apply At.there)); done | repeat (first | exact .here | apply At.there)) (by rfl) ?_ | refine w_loadBR I (by rfl) (by first | (with_reducible repeat (first | exact .here | apply At.there)); done | repeat (first | exact .here | apply At.there)) (by rfl) ?_ | refine w_load0 I (by rfl) (by assumption) ?_) | ((with_reducible refine gstore ?_); (first | refine w_storeB I (by rfl) (by (conv => lhs; whnf) <;> rfl) (by first | (with_reducible repeat (first | exact .here | apply Upd.there)); done | repeat (first | exact .here | apply Upd.there)) (by rfl) (by rfl) (by simp only [List.set_cons_zero, List.set_cons_succ] <;> rfl) ?_ | refine w_storeBR I (by rfl) (by rfl) (by first | (with_reducible repeat (first | exact .here | apply Upd.there)); done | repeat (first | exact .here | apply Upd.there)) (by rfl) (by rfl) (by rfl) ?_); clear I; intro w I)) | (go_at_call 51; go_must (refine (series_right _ _).mono ?_; rintro _ w1 ⟨rfl, hf⟩; rw [HR.out]; replace I := I.still hf; clear hf)))
  go_step3
  go_wp2_with fail
  go_loopw [6] (fun i wr => ∃ (k : Nat) (kk : Int), i = .int .i64 kk ∧ Hid (kk = k) ∧ k ≤ l.length ∧ Hid (Ser.putAt l x k = (qb, ql)) ∧ St w0 wr (Blk gr [.int .i64 x.m, .int .i64 x.s, .int .i64 x.t] 36 :: Blk g [.int .i64 a, .int .i64 b, .slice A l.length c] 91 :: OwnS 36 3 encR (.slice A l.length c) l :: R)) (fun i _ => (intOf i).toNat)
  case atStart => exact ⟨l.length, l.length, rfl, Lib.hid rfl, Nat.le_refl _, HP, I⟩
  case round =>
    clear I HP
    obtain ⟨k, kk, rfl, HK, hk, HP, I⟩ := hrel
    rename World => wr
    cases k with
    | zero =>
      obtain rfl : kk = 0 := HK.out
      have HQ : Hid ((qb, ql) = (true, x :: l)) := Lib.hid HP.out.symm
      clear HP
      go_upto_region 12 with fail
      have F := I.facts
      dsimp only [AllF, Asr.facts, Blk, OwnS] at F
      have HLen : Hid ((l.take 0 ++ x :: l.drop 0).length = l.length + 1) := Lib.hid (by rw [List.length_append, List.length_take, List.length_cons, List.length_drop]; omega)
      have FA := fun o => (I.still ((Fr.refl _).alloc o)).facts
      dsimp only [AllF, Asr.facts, Blk, OwnS] at FA
      go_region_law ((rw [if_pos (by rfl)]); go_simp; ((go_at_call 53; go_must (refine (series_Insert (.slice A l.length c) l x 0 wr.heap.size (Nat.zero_le _) (by have := HL.out; omega) w0 _ _ _ (I.alloc (encR x) 36).drew (.there (.there (.there .here)))).mono ?_; rintro _ w1 ⟨v', rfl, S⟩; obtain ⟨A2, c2, rfl, _, _, _, _⟩ := (S.own .here).reads encR_len; rw [HLen.out] at S ⊢; have F2 := S.facts; dsimp only [AllF, Asr.facts, Blk, OwnS] at F2))))
      all_goals
        have I3 := S.set (g := g) (i := 2) (v := .slice A2 (l.length + 1) c2) (by first | (with_reducible repeat (first | exact .here | apply Upd.there)); done | repeat (first | exact .here | apply Upd.there)) rfl
        clear S F2 F FA I
        have h1 : qb = true := congrArg Prod.fst HQ.out
        have h2 : ql = l.take 0 ++ x :: l.drop 0 := congrArg Prod.snd HQ.out
        have H1 := Lib.hid h1
        have H2 := Lib.hid h2
        clear h1 h2
        go_wp2_with fail
        try rw [Exit.noGoto_ret]
        go_ret2
        exact ⟨by rw [H1.out]; rfl, by rw [H2.out]; exact SerO.mk (I3.drop (A := Blk gr [.int .i64 x.m, .int .i64 x.s, .int .i64 x.t] 36) (.there .here)) .here .here⟩
    | succ j =>
      obtain ⟨ab, c9, hab, _, _, _⟩ := (I.own (v := .slice A l.length c) (l := l) (.there (.there .here))).base_of (by intro e; rw [e] at hk; simp at hk)
      injection hab with e1 _ e3
      subst e1 e3
      have hcm := (I.own (v := .slice (some ⟨ab, 0, none⟩) l.length c) (l := l) (.there (.there .here))).cell encR_len j hk 0 _ rfl
      have hcs := (I.own (v := .slice (some ⟨ab, 0, none⟩) l.length c) (l := l) (.there (.there .here))).cell encR_len j hk 1 _ rfl
      have hct := (I.own (v := .slice (some ⟨ab, 0, none⟩) l.length c) (l := l) (.there (.there .here))).cell encR_len j hk 2 _ rfl
      rw [Nat.add_zero] at hcm
      have HS := Lib.hid (Ser.putAt_step l x j hk)
      have HSY : Hid (Ser.small l[j]) := Lib.hid (HSm.out _ (List.getElem_mem _))
      rw [HP.out] at HS
      obtain ⟨y, hy⟩ : ∃ y, l[j] = y := ⟨_, rfl⟩
      have HY := Lib.hid hy
      rw [hy] at hcm hcs hct HS HSY
      clear hy HP
      have hj1 : IntKind.i64.wrap (kk - 1) = (j : Int) := by have := HK.out; have := HL.out; rw [IntKind.wrap_i64]; omega
      have hj3 : (0 : Int) < kk := by have := HK.out; omega
      have hj2 : (j : Int) < (l.length : Int) := by omega
      have hp := fun w' (hf : Fr wr w') i => (((I.still hf).cells (g := gr) .here).1 i)
      have hq := fun w' (hf : Fr wr w') i => (((I.still hf).cells (g := g) (.there .here)).1 i)
      have hm1 := fun w' (hf : Fr wr w') => hf.cell hcm
      have hm2 := fun w' (hf : Fr wr w') => hf.cell hcs
      have hm3 := fun w' (hf : Fr wr w') => hf.cell hct
      replace I := Lib.hid I
      go_upto_region 5 with fail
      go_region_held3 (fun w' => Fr wr w') (first | assumption | exact (Fr.refl _).drew | exact Fr.trans (by assumption) (by assumption)) (first | (go_at_call 52; go_must (refine (series_compare y x _ HSY.out HX.out).mono ?_; rintro _ w1 ⟨rfl, hf⟩)))
      replace I := I.out.still (by assumption)
      clear hp hq hm1 hm2 hm3
      obtain ⟨cv, hcv⟩ : ∃ cv, Ser.cmp y x = cv := ⟨_, rfl⟩
      rw [hcv] at HS ⊢
      clear hcv
      rename World => w2
      have hfw : Fr wr w2 := by assumption
      replace hcm := hfw.cell hcm
      replace hcs := hfw.cell hcs
      replace hct := hfw.cell hct
      have hfz := (I.own (v := .slice (some ⟨ab, 0, none⟩) l.length c) (l := l) (.there (.there .here))).frozen (j * 3 + 2)
      by_cases hneg : cv < 0
      · have HQ : Hid ((qb, ql) = (true, l.take (j + 1) ++ x :: l.drop (j + 1))) := Lib.hid (HS.out.trans (if_pos hneg))
        clear HS hcm hcs hct hfz HSY HY hj1 hj3 hj2
        obtain ⟨k1, hk1⟩ : ∃ k1, j + 1 = k1 := ⟨_, rfl⟩
        obtain rfl : kk = (k1 : Int) := by rw [← hk1]; exact HK.out
        rw [hk1] at HQ hk
        have HKL := Lib.hid hk
        clear HK hk1 hk
        go_upto_region 12 with fail
        have F := I.facts
        dsimp only [AllF, Asr.facts, Blk, OwnS] at F
        have HLen : Hid ((l.take k1 ++ x :: l.drop k1).length = l.length + 1) := Lib.hid (by rw [List.length_append, List.length_take, List.length_cons, List.length_drop]; omega)
        have FA := fun o => (I.still ((Fr.refl _).alloc o)).facts
        dsimp only [AllF, Asr.facts, Blk, OwnS] at FA
        go_region_law ((rw [if_pos (by rfl)]); go_simp; ((go_at_call 53; go_must (refine (series_Insert (.slice (some ⟨ab, 0, none⟩) l.length c) l x k1 w2.heap.size HKL.out (by have := HL.out; omega) w0 _ _ _ (I.alloc (encR x) 36).drew (.there (.there (.there .here)))).mono ?_; rintro _ w1 ⟨v', rfl, S⟩; obtain ⟨A2, c2, rfl, _, _, _, _⟩ := (S.own .here).reads encR_len; rw [HLen.out] at S ⊢; have F2 := S.facts; dsimp only [AllF, Asr.facts, Blk, OwnS] at F2))))
        all_goals
          have I3 := S.set (g := g) (i := 2) (v := .slice A2 (l.length + 1) c2) (by first | (with_reducible repeat (first | exact .here | apply Upd.there)); done | repeat (first | exact .here | apply Upd.there)) rfl
          clear S F2 F FA I
          have h1 : qb = true := congrArg Prod.fst HQ.out
          have h2 : ql = l.take k1 ++ x :: l.drop k1 := congrArg Prod.snd HQ.out
          have H1 := Lib.hid h1
          have H2 := Lib.hid h2
          clear h1 h2
          go_wp2_with fail
          try rw [Exit.noGoto_ret]
          go_ret2
          exact ⟨by rw [H1.out]; rfl, by rw [H2.out]; exact SerO.mk (I3.drop (A := Blk gr [.int .i64 x.m, .int .i64 x.s, .int .i64 x.t] 36) (.there .here)) .here .here⟩
      · by_cases hz : cv = 0
        · have hzb : (cv == 0) = true := by simpa using hz
          have HQ : Hid ((qb, ql) = (decide (y.t < x.t), l.set j { y with t := max y.t x.t })) := Lib.hid (HS.out.trans (by rw [if_neg hneg, if_pos hz]))
          clear HS hz
          go_upto_region 8 with fail
          have F := I.facts
          dsimp only [AllF, Asr.facts, Blk, OwnS] at F
          go_quiet (fail)
          go_upto_region 9 with fail
          go_region
          have hmx : max y.t x.t = if y.t < x.t then x.t else y.t := by split <;> omega
          have I3 := (I.drewN (nq + 1)).setOwn (g := ab) (i := j) (f := 2) (l' := l.set j { y with t := max y.t x.t }) (u := .int .i64 (if y.t < x.t then x.t else y.t)) (by first | (with_reducible repeat (first | exact .here | apply Upd.there)); done | repeat (first | exact .here | apply Upd.there)) encR_len (x := y) (x' := { y with t := max y.t x.t }) (by rw [List.getElem?_eq_getElem hk, HY.out]) (by decide) (by rw [← hmx]; rfl) rfl
          have h1 : qb = decide (y.t < x.t) := congrArg Prod.fst HQ.out
          have h2 : ql = l.set j { y with t := max y.t x.t } := congrArg Prod.snd HQ.out
          have H1 := Lib.hid h1
          have H2 := Lib.hid h2
          clear h1 h2 F I hmx HQ
          generalize (if y.t < x.t then x.t else y.t) = tm at I3 ⊢
          generalize decide (y.t < x.t) = db at H1 ⊢
          go_wp2_with fail
          try rw [Exit.noGoto_ret]
          go_ret2
          exact ⟨by rw [H1.out]; rfl, by rw [H2.out]; exact SerO.mk (I3.drop (A := Blk gr [.int .i64 x.m, .int .i64 x.s, .int .i64 x.t] 36) .here) (.there .here) .here⟩
        · have hzb : (cv == 0) = false := by simpa using hz
          have HQ : Hid (Ser.putAt l x j = (qb, ql)) := Lib.hid (HS.out.trans (by rw [if_neg hneg, if_neg hz])).symm
          clear HS hz
          go_wp2_with fail
          all_goals try omega
          go_roundw
          case rel => exact ⟨j, j, rfl, Lib.hid rfl, by omega, HQ, I⟩
          case measure => have := HK.out; simp [intOf]; omega
end Go.Proofs.Ytggeloihnbjogaa
