
/- Readings (layer 6): the reference's Put. -/
import Derived.Test.YtggeloihnbjogaaSerV
namespace Go.Proofs.Ytggeloihnbjogaa
open Go.RowKit Go.Hf
theorem Ser.rput_none (l : List Rd) (x : Rd) (h : ∀ y ∈ l, Ser.key y ≠ Ser.key x) : Ser.rput l x = (true, l ++ [x]) := by
  rcases Ser.rput_spec x l with ⟨j, hj, hk, _⟩ | ⟨_, he⟩
  · exact absurd hk (h _ (List.getElem_mem hj))
  · exact he
theorem Ser.rput_at (x : Rd) : ∀ (l : List Rd) (k : Nat) (hk : k < l.length), (∀ j (h : j < l.length), j < k → Ser.key l[j] ≠ Ser.key x) → Ser.key l[k] = Ser.key x → Ser.rput l x = if x.t ≤ l[k].t then (false, l) else (true, l.set k { l[k] with t := x.t })
  | y :: l, 0, _, _, he => by
    have he2 : y.m = x.m ∧ y.s = x.s := (Ser.key_iff _ _).1 he
    rw [Ser.rput, if_pos he2]
    rfl
  | y :: l, k + 1, hk, h, he => by
    have h0 : ¬ (y.m = x.m ∧ y.s = x.s) := fun e => h 0 (by simp) (by omega) ((Ser.key_iff _ _).2 e)
    have ih := Ser.rput_at x l k (by simpa using hk) (fun j hj hjk => h (j + 1) (by simpa using hj) (by omega)) he
    rw [Ser.rput, if_neg h0, ih]
    show _ = if x.t ≤ (l[k]'(by simpa using hk)).t then _ else _
    split <;> rfl
set_option maxRecDepth 100000 in
theorem ref06_Put_no (g : Nat) (x : Rd) (w0 : World) (hx : Ser.right x = false) :
    Calls Try.prog 15 #[.pointer (some ⟨g, 0, none⟩), aggR x] w0 fun e w' => e = .returned (.tuple #[.bool false, .int .i64 1]) ∧ Fr w0 w' := by
  have I := St.refl w0
  have HX := Lib.hid hx
  clear hx
  go_enter Try.func15, Try.ntmps15
  try dsimp only [List.append]
  go_wp2_with (first | (first | ((with_reducible refine gguard ?_); (first | refine w_guardT (by rfl) (fun hb => ?_) (fun hb => ?_) | refine w_guardF (by rfl) (fun hb => ?_) (fun hb => ?_)) <;> first | (cases hb; done) | cases hb | ((try rw [hb]) <;> (try simp at hb) <;> go_prune <;> (try (with_reducible replace hb := eqPair hb)))) | (((with_reducible refine gbox ?_); first | refine w_boxA I (by rfl) ?_ | refine w_box1 I (by (conv => lhs; whnf) <;> rfl) (by rfl) ?_); clear I; intro g w I) | ((with_reducible refine galloc ?_); refine w_alloc I ?_; clear I; intro g w I) | ((with_reducible refine gload ?_); first | refine w_loadB I (by rfl) (by first | (with_reducible repeat (first | exact .here | apply At.there)); done | repeat (first | exact .here | apply At.there)) (by rfl) ?_ | refine w_loadBR I (by rfl) (by first | (with_reducible repeat (first | exact .here | apply At.there)); done | repeat (first | exact .here | apply At.there)) (by rfl) ?_ | refine w_load0 I (by rfl) (by assumption) ?_) | ((with_reducible refine gstore ?_); (first | refine w_storeB I (by rfl) (by (conv => lhs; whnf) <;> rfl) (by first | (with_reducible repeat (first | exact .here | apply Upd.there)); done | repeat (first | exact .here | apply Upd.there)) (by rfl) (by rfl) (by simp only [List.set_cons_zero, List.set_cons_succ] <;> rfl) ?_ | refine w_storeBR I (by rfl) (by rfl) (by first | (with_reducible repeat (first | exact .here | apply Upd.there)); done | repeat (first | exact .here | apply Upd.there)) (by rfl) (by rfl) (by rfl) ?_); clear I; intro w I)) | (go_at_call 54; go_must (refine (ref06_Right x _).mono ?_; rintro _ w1 ⟨rfl, hf⟩; rw [HX.out]; replace I := I.still hf; clear hf)))
  exact ret_2 rfl (by first | (exact ResV.t _ (by rfl)) | (exact ResV.row I (by rfl) (by first | (with_reducible repeat (first | exact .here | apply At.there)); done | repeat (first | exact .here | apply At.there)) (by rfl)) | (exact ResV.one I (by rfl) (by first | (with_reducible repeat (first | exact .here | apply At.there)); done | repeat (first | exact .here | apply At.there)))) (by first | (exact ResV.t _ (by rfl)) | (exact ResV.row I (by rfl) (by first | (with_reducible repeat (first | exact .here | apply At.there)); done | repeat (first | exact .here | apply At.there)) (by rfl)) | (exact ResV.one I (by rfl) (by first | (with_reducible repeat (first | exact .here | apply At.there)); done | repeat (first | exact .here | apply At.there)))) rfl ⟨rfl, I.fr⟩
set_option maxRecDepth 100000 in
set_option maxHeartbeats 4000000 in
theorem ref06_Put (g : Nat) (a b : Int) (l : List Rd) (x : Rd) (hx : Ser.right x = true) (hl : l.length ≤ 10000) (w0 w : World) (L R : List Asr) (I : St w0 w L) (hA : At (RefO g a b l) L R) :
    Calls Try.prog 15 #[.pointer (some ⟨g, 0, none⟩), aggR x] w fun e w' => e = .returned (.tuple #[.bool (Ser.rput l x).1, .int .i64 0]) ∧ St w0 w' (RefO g a b (Ser.rput l x).2 :: R) := by
  obtain ⟨v, I⟩ := RefO.open I hA
  clear hA
  obtain ⟨A, c, rfl, hcl, hcm, -, -⟩ := (I.own (v := v) (l := l) (.there .here)).reads encR_len
  unfold maxLen at hcm
  have HX := Lib.hid hx
  clear hx
  go_enter Try.func15, Try.ntmps15
  try dsimp only [List.append]
  go_upto_region 4 with (first | ((with_reducible refine gbox (ty := 36) ?_); (first | refine w_boxA I (by rfl) ?_ | refine w_box1 I (by (conv => lhs; whnf) <;> rfl) (by rfl) ?_); clear I; intro gr w I) | (first | ((with_reducible refine gguard ?_); (first | refine w_guardT (by rfl) (fun hb => ?_) (fun hb => ?_) | refine w_guardF (by rfl) (fun hb => ?_) (fun hb => ?_)) <;> first | (cases hb; done) | cases hb | ((try rw [hb]) <;> (try simp at hb) <;> go_prune <;> (try (with_reducible replace hb := eqPair hb)))) | (((with_reducible refine gbox ?_); first | refine w_boxA I (by rfl) ?_ | refine w_box1 I (by (conv => lhs; whnf) <;> rfl) (by rfl) ?_); clear I; intro g w I) | ((with_reducible refine galloc ?_); refine w_alloc I ?_; clear I; intro g w I) | ((with_reducible refine gload ?_); first | refine w_loadB I (by rfl) (by first | (with_reducible repeat (first | exact .here | apply At.there)); done | repeat (first | exact .here | apply At.there)) (by rfl) ?_ | refine w_loadBR I (by rfl) (by first | (with_reducible repeat (first | exact .here | apply At.there)); done | repeat (first | exact .here | apply At.there)) (by rfl) ?_ | refine w_load0 I (by rfl) (by assumption) ?_) | ((with_reducible refine gstore ?_); (first | refine w_storeB I (by rfl) (by (conv => lhs; whnf) <;> rfl) (by first | (with_reducible repeat (first | exact .here | apply Upd.there)); done | repeat (first | exact .here | apply Upd.there)) (by rfl) (by rfl) (by simp only [List.set_cons_zero, List.set_cons_succ] <;> rfl) ?_ | refine w_storeBR I (by rfl) (by rfl) (by first | (with_reducible repeat (first | exact .here | apply Upd.there)); done | repeat (first | exact .here | apply Upd.there)) (by rfl) (by rfl) (by rfl) ?_); clear I; intro w I)) | (go_at_call 54; go_must (refine (ref06_Right x _).mono ?_; rintro _ w1 ⟨rfl, hf⟩; rw [HX.out]; replace I := I.still hf; clear hf)))
  all_goals try omega
  go_wp2_with fail
  go_loopw [7] (fun i wr => ∃ k : Nat, i = .int .i64 k ∧ k ≤ l.length ∧ Hid (∀ j (h : j < l.length), j < k → Ser.key l[j] ≠ Ser.key x) ∧ St w0 wr (Blk gr [.int .i64 x.m, .int .i64 x.s, .int .i64 x.t] 36 :: Blk g [.int .i64 a, .int .i64 b, .slice A l.length c] 32 :: OwnS 36 3 encR (.slice A l.length c) l :: R)) (fun i _ => l.length - (intOf i).toNat)
  case atStart => exact ⟨0, rfl, by omega, Lib.hid (fun j _ h => by omega), I⟩
  case round =>
    clear I
    obtain ⟨k, rfl, hk, HN, I⟩ := hrel
    rename World => wr
    by_cases hlt : k < l.length
    · have hlt2 : (k : Int) < (l.length : Int) := by omega
      have hpos : 0 < l.length := by omega
      obtain ⟨gv, c9, hab, -, -, -⟩ := (I.own (v := .slice A l.length c) (l := l) (.there (.there .here))).base_of (by intro e; rw [e] at hpos; simp at hpos)
      injection hab with e1 e2 e3
      subst e1 e3
      clear e2 hpos
      have x0 := (I.own (v := .slice (some ⟨gv, 0, none⟩) l.length c) (l := l) (.there (.there .here))).cell encR_len k hlt 0 _ rfl
      rw [Nat.add_zero] at x0
      have x1 := (I.own (v := .slice (some ⟨gv, 0, none⟩) l.length c) (l := l) (.there (.there .here))).cell encR_len k hlt 1 _ rfl
      have x2 := (I.own (v := .slice (some ⟨gv, 0, none⟩) l.length c) (l := l) (.there (.there .here))).cell encR_len k hlt 2 _ rfl
      have hfz := (I.own (v := .slice (some ⟨gv, 0, none⟩) l.length c) (l := l) (.there (.there .here))).frozen (k * 3 + 2)
      obtain ⟨y, hy⟩ : ∃ y, l[k] = y := ⟨_, rfl⟩
      have HY := Lib.hid hy
      rw [hy] at x0 x1 x2
      clear hy
      have F := I.facts
      dsimp only [AllF, Asr.facts, Blk, OwnS] at F
      cases e1 : (y.m == x.m) with
      | false =>
        have HN2 : Hid (∀ j (h : j < l.length), j < k + 1 → Ser.key l[j] ≠ Ser.key x) := Lib.hid (fun j h hj => by
          by_cases c : j < k
          · exact HN.out j h c
          · obtain rfl : j = k := by omega
            rw [HY.out]; intro e; have := (Ser.key_iff _ _).1 e; simp [this] at e1)
        go_upto_region 7 with fail
        all_goals try omega
        go_quiet (fail)
        replace I := I.drewN nq
        clear F x0 x1 x2 hfz
        go_wp2_with fail
        go_roundw
        case rel => exact ⟨k + 1, by go_num, by omega, HN2, I⟩
        case measure => simp [intOf]; omega
      | true =>
        cases e2 : (y.s == x.s) with
        | false =>
          have HN2 : Hid (∀ j (h : j < l.length), j < k + 1 → Ser.key l[j] ≠ Ser.key x) := Lib.hid (fun j h hj => by
            by_cases c : j < k
            · exact HN.out j h c
            · obtain rfl : j = k := by omega
              rw [HY.out]; intro e; have := (Ser.key_iff _ _).1 e; simp [this] at e2)
          go_upto_region 7 with fail
          all_goals try omega
          go_quiet (fail)
          replace I := I.drewN nq
          clear F x0 x1 x2 hfz
          go_wp2_with fail
          go_roundw
          case rel => exact ⟨k + 1, by go_num, by omega, HN2, I⟩
          case measure => simp [intOf]; omega
        | true =>
          have HP := Lib.hid (Ser.rput_at x l k hlt HN.out (by rw [HY.out]; exact (Ser.key_iff _ _).2 ⟨eq_of_beq e1, eq_of_beq e2⟩))
          by_cases ht : x.t ≤ y.t
          · have d1 : decide (x.t ≤ y.t) = true := decide_eq_true ht
            have HP2 : Hid (Ser.rput l x = (false, l)) := Lib.hid (HP.out.trans (if_pos (by rw [HY.out]; exact ht)))
            clear HP ht
            go_upto_region 7 with fail
            all_goals try omega
            go_quiet (fail)
            have I1 := I.drewN nq
            replace I1 := Lib.hid I1
            go_upto_region 8 with fail
            go_quiet (fail)
            replace I := I1.out.drewN nq
            clear F x0 x1 x2 hfz I1
            go_wp2_with (first | ((with_reducible refine gguard ?_); (first | refine w_guardT (by rfl) (fun hb => ?_) (fun hb => ?_) | refine w_guardF (by rfl) (fun hb => ?_) (fun hb => ?_)) <;> first | (cases hb; done) | cases hb | ((try rw [hb]) <;> (try simp at hb) <;> go_prune <;> (try (with_reducible replace hb := eqPair hb)))) | (((with_reducible refine gbox ?_); first | refine w_boxA I (by rfl) ?_ | refine w_box1 I (by (conv => lhs; whnf) <;> rfl) (by rfl) ?_); clear I; intro g w I) | ((with_reducible refine galloc ?_); refine w_alloc I ?_; clear I; intro g w I) | ((with_reducible refine gload ?_); first | refine w_loadB I (by rfl) (by first | (with_reducible repeat (first | exact .here | apply At.there)); done | repeat (first | exact .here | apply At.there)) (by rfl) ?_ | refine w_loadBR I (by rfl) (by first | (with_reducible repeat (first | exact .here | apply At.there)); done | repeat (first | exact .here | apply At.there)) (by rfl) ?_ | refine w_load0 I (by rfl) (by assumption) ?_) | ((with_reducible refine gstore ?_); (first | refine w_storeB I (by rfl) (by (conv => lhs; whnf) <;> rfl) (by first | (with_reducible repeat (first | exact .here | apply Upd.there)); done | repeat (first | exact .here | apply Upd.there)) (by rfl) (by rfl) (by simp only [List.set_cons_zero, List.set_cons_succ] <;> rfl) ?_ | refine w_storeBR I (by rfl) (by rfl) (by first | (with_reducible repeat (first | exact .here | apply Upd.there)); done | repeat (first | exact .here | apply Upd.there)) (by rfl) (by rfl) (by rfl) ?_); clear I; intro w I))
            exact ret_2 rfl (by first | (exact ResV.t _ (by rfl)) | (exact ResV.row I (by rfl) (by first | (with_reducible repeat (first | exact .here | apply At.there)); done | repeat (first | exact .here | apply At.there)) (by rfl)) | (exact ResV.one I (by rfl) (by first | (with_reducible repeat (first | exact .here | apply At.there)); done | repeat (first | exact .here | apply At.there)))) (by first | (exact ResV.t _ (by rfl)) | (exact ResV.row I (by rfl) (by first | (with_reducible repeat (first | exact .here | apply At.there)); done | repeat (first | exact .here | apply At.there)) (by rfl)) | (exact ResV.one I (by rfl) (by first | (with_reducible repeat (first | exact .here | apply At.there)); done | repeat (first | exact .here | apply At.there)))) rfl ⟨by rw [HP2.out]; rfl, by rw [HP2.out]; exact RefO.mk I.drop1 (.there .here) .here⟩
          · have d1 : decide (x.t ≤ y.t) = false := decide_eq_false ht
            have HP2 : Hid (Ser.rput l x = (true, l.set k { y with t := x.t })) := Lib.hid (HP.out.trans (by rw [if_neg (by rw [HY.out]; exact ht), HY.out]))
            clear HP ht
            go_upto_region 7 with fail
            all_goals try omega
            go_quiet (fail)
            have I1 := Lib.hid (fun m => I.drewN (nq + m + 1))
            go_upto_region 8 with fail
            go_quiet (fail)
            go_upto_region 10 with fail
            go_region
            have I3 := (I1.out nq).setOwn (g := gv) (i := k) (f := 2) (l' := l.set k { y with t := x.t }) (u := .int .i64 x.t) (by first | (with_reducible repeat (first | exact .here | apply Upd.there)); done | repeat (first | exact .here | apply Upd.there)) encR_len (x := y) (x' := { y with t := x.t }) (by rw [List.getElem?_eq_getElem hlt, HY.out]) (by decide) rfl rfl
            clear F x0 x1 x2 hfz I I1
            go_wp2_with fail
            exact ret_2 rfl (by first | (exact ResV.t _ (by rfl)) | (exact ResV.row I (by rfl) (by first | (with_reducible repeat (first | exact .here | apply At.there)); done | repeat (first | exact .here | apply At.there)) (by rfl)) | (exact ResV.one I (by rfl) (by first | (with_reducible repeat (first | exact .here | apply At.there)); done | repeat (first | exact .here | apply At.there)))) (by first | (exact ResV.t _ (by rfl)) | (exact ResV.row I (by rfl) (by first | (with_reducible repeat (first | exact .here | apply At.there)); done | repeat (first | exact .here | apply At.there)) (by rfl)) | (exact ResV.one I (by rfl) (by first | (with_reducible repeat (first | exact .here | apply At.there)); done | repeat (first | exact .here | apply At.there)))) rfl ⟨by rw [HP2.out]; rfl, by rw [HP2.out]; exact RefO.mk (I3.drop .here) (.there .here) .here⟩
    · obtain rfl : k = l.length := by omega
      have HP : Hid (Ser.rput l x = (true, l ++ [x])) := Lib.hid (Ser.rput_none l x fun y hy => by obtain ⟨j, hj, rfl⟩ := List.mem_iff_getElem.1 hy; exact HN.out j hj hj)
      have hlt2 : ¬ (l.length : Int) < (l.length : Int) := by omega
      have F0 := I.facts
      dsimp only [AllF, Asr.facts, Blk, OwnS] at F0
      go_upto_region 12 with fail
      all_goals try omega
      clear F0
      have J := I.drew
      have F := J.facts
      dsimp only [AllF, Asr.facts, Blk, OwnS] at F
      have FA := fun o => (I.still ((Fr.refl _).alloc o)).facts
      dsimp only [AllF, Asr.facts, Blk, OwnS] at FA
      go_region_law ((refine step_append encR_len encR_one (by decide) (I.alloc _ _).drew (by rfl) (.there (.there (.there .here))) (by rfl) ((I.alloc _ _).drew.slvB (l2 := [x]) .here (by simp [encR]) rfl (by simp [maxLen]) encR_len) (by simp; omega) (by simp [maxLen]; omega) ?_; intro A2 m2 c2 w2 I2; have F2 := I2.facts; dsimp only [AllF, Asr.facts, Blk, OwnS] at F2))
      all_goals
        have I3 := I2.set (g := g) (i := 2) (v := .slice A2 m2 c2) (by first | (with_reducible repeat (first | exact .here | apply Upd.there)); done | repeat (first | exact .here | apply Upd.there)) rfl
        clear F FA F2 J I2 I
        have I := I3
        clear I3
        go_wp2_with (first | ((with_reducible refine gguard ?_); (first | refine w_guardT (by rfl) (fun hb => ?_) (fun hb => ?_) | refine w_guardF (by rfl) (fun hb => ?_) (fun hb => ?_)) <;> first | (cases hb; done) | cases hb | ((try rw [hb]) <;> (try simp at hb) <;> go_prune <;> (try (with_reducible replace hb := eqPair hb)))) | (((with_reducible refine gbox ?_); first | refine w_boxA I (by rfl) ?_ | refine w_box1 I (by (conv => lhs; whnf) <;> rfl) (by rfl) ?_); clear I; intro g w I) | ((with_reducible refine galloc ?_); refine w_alloc I ?_; clear I; intro g w I) | ((with_reducible refine gload ?_); first | refine w_loadB I (by rfl) (by first | (with_reducible repeat (first | exact .here | apply At.there)); done | repeat (first | exact .here | apply At.there)) (by rfl) ?_ | refine w_loadBR I (by rfl) (by first | (with_reducible repeat (first | exact .here | apply At.there)); done | repeat (first | exact .here | apply At.there)) (by rfl) ?_ | refine w_load0 I (by rfl) (by assumption) ?_) | ((with_reducible refine gstore ?_); (first | refine w_storeB I (by rfl) (by (conv => lhs; whnf) <;> rfl) (by first | (with_reducible repeat (first | exact .here | apply Upd.there)); done | repeat (first | exact .here | apply Upd.there)) (by rfl) (by rfl) (by simp only [List.set_cons_zero, List.set_cons_succ] <;> rfl) ?_ | refine w_storeBR I (by rfl) (by rfl) (by first | (with_reducible repeat (first | exact .here | apply Upd.there)); done | repeat (first | exact .here | apply Upd.there)) (by rfl) (by rfl) (by rfl) ?_); clear I; intro w I))
        exact ret_2 rfl (by first | (exact ResV.t _ (by rfl)) | (exact ResV.row I (by rfl) (by first | (with_reducible repeat (first | exact .here | apply At.there)); done | repeat (first | exact .here | apply At.there)) (by rfl)) | (exact ResV.one I (by rfl) (by first | (with_reducible repeat (first | exact .here | apply At.there)); done | repeat (first | exact .here | apply At.there)))) (by first | (exact ResV.t _ (by rfl)) | (exact ResV.row I (by rfl) (by first | (with_reducible repeat (first | exact .here | apply At.there)); done | repeat (first | exact .here | apply At.there)) (by rfl)) | (exact ResV.one I (by rfl) (by first | (with_reducible repeat (first | exact .here | apply At.there)); done | repeat (first | exact .here | apply At.there)))) rfl ⟨by rw [HP.out]; rfl, by rw [HP.out]; exact RefO.mk ((I.drop (.there .here)).drop (.there .here)) .here .here⟩
end Go.Proofs.Ytggeloihnbjogaa
