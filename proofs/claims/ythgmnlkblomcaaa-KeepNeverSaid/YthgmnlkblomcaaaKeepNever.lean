/- KeepNever: of any lot of at most 60 stays, and exposure: what is released is not over its allowance, what may be shipped is released, not over, and not old; more exposure lets nothing more be done, a greater grant nothing less; a lot told with an error is empty. -/
import Derived.Test.YthgmnlkblomcaaaKeepK
import Derived.Deep.CutBlock
namespace Go.Proofs.Ythgmnlkblomcaaa
namespace Keep
theorem two_mono (a b c : Int) (h : b ≤ c) : Sat.two a b ≤ Sat.two a c := by unfold Sat.two Sat.fit; repeat' split <;> omega
theorem two_most (a g : Int) : Sat.two a g ≤ Sat.two a 4611686018427387904 := by unfold Sat.two Sat.fit; repeat' split <;> omega
theorem over_mono {p : Prod} {d : Lot} {x y : Int} (h : x ≤ y) (hy : over p d y = false) : over p d x = false := by
  unfold over at *; simp only [decide_eq_false_iff_not] at *; omega
theorem never_judge (p : Prod) (d : Lot) (x : Int) : ¬ (judge p d x).1.status = 1 ∨ x ≤ allow p (judge p d x).1 := by
  unfold judge
  split
  · rename_i h
    left
    unfold hold behind
    simp [h.1, Status.After]
  · rename_i h
    by_cases h1 : d.status = 1
    · right
      have h2 : ¬ over p d x = true := fun h3 => h ⟨h1, h3⟩
      unfold over at h2
      simp only [decide_eq_true_eq] at h2
      show x ≤ allow p d
      omega
    · exact .inl h1
theorem held_judge (p : Prod) (d : Lot) (x : Int) : (judge p d x).2 = false ∨ ((judge p d x).1.status = 2 ∧ (judge p d x).1.order = 0 ∧ d.status = 1) := by
  unfold judge
  split
  · rename_i h
    right
    unfold hold behind
    simp [h.1, Status.After]
  · exact .inl rfl
theorem after_ok (s e : Int) (h : (Status.After s e).2 = 0) : (e = 0 ∨ e = 2) → (Status.After s e).1 = 1 := by
  unfold Status.After at *
  intro he
  rcases he with rfl | rfl
  · repeat' split at h
    all_goals simp_all
  · repeat' split at h
    all_goals simp_all
theorem behind_cases (d : Lot) (e : Int) (does : Lot → Lot) (bad : Lot → Bool) :
    (behind d e does bad).2 ≠ 0 ∧ (behind d e does bad).1 = Lot.zero ∨ (behind d e does bad).2 = 0 ∧ (Status.After d.status e).2 = 0 ∧ bad (does { d with status := (Status.After d.status e).1 }) = false ∧ (behind d e does bad).1 = does { d with status := (Status.After d.status e).1 } := by
  unfold behind
  by_cases h1 : (Status.After d.status e).2 ≠ 0
  · rw [if_pos h1]; exact .inl ⟨h1, rfl⟩
  · rw [if_neg h1]
    by_cases h2 : bad (does { d with status := (Status.After d.status e).1 }) = true
    · rw [if_pos h2]; exact .inl ⟨by decide, rfl⟩
    · rw [if_neg h2]; exact .inr ⟨rfl, by simpa using h1, by simpa using h2, rfl⟩
theorem behind_ok (d : Lot) (e : Int) (does : Lot → Lot) (bad : Lot → Bool) (h1 : (Status.After d.status e).2 = 0) (h2 : bad (does { d with status := (Status.After d.status e).1 }) = false) : (behind d e does bad).2 = 0 := by
  rcases behind_cases d e does bad with h | h
  · unfold behind at h; rw [if_neg (by simp [h1]), if_neg (by simp [h2])] at h; exact absurd rfl h.1
  · exact h.1
theorem over_false {p : Prod} {d : Lot} {x : Int} (h : over p d x = false) : x ≤ allow p d := by unfold over at h; simp only [decide_eq_false_iff_not] at h; omega
theorem never_release (p : Prod) (d : Lot) (x : Int) : ¬ (release p d x).2 = 0 ∨ ((release p d x).1.status = 1 ∧ x ≤ allow p (release p d x).1) := by
  unfold release
  rcases behind_cases d 0 (fun d => d) (fun d => over p d x) with h | ⟨_, h1, h2, h3⟩
  · exact .inl h.1
  · rw [h3]; exact .inr ⟨after_ok _ _ h1 (.inl rfl), over_false h2⟩
theorem empty_release (p : Prod) (d : Lot) (x : Int) : (release p d x).2 = 0 ∨ ((release p d x).1.id = 0 ∧ (release p d x).1.units = 0) := by
  unfold release
  rcases behind_cases d 0 (fun d => d) (fun d => over p d x) with h | h
  · rw [h.2]; exact .inr ⟨rfl, rfl⟩
  · exact .inl h.1
theorem never_review (p : Prod) (d : Lot) (x g : Int) : ¬ (review p d x g).2 = 0 ∨ ((review p d x g).1.status = 1 ∧ x ≤ allow p (review p d x g).1) := by
  unfold review
  split
  · exact .inl (by decide)
  · unfold accept
    rcases behind_cases d 2 (fun d => { d with grant := Sat.two d.grant g }) (fun d => over p d x) with h | ⟨_, h1, h2, h3⟩
    · exact .inl h.1
    · rw [h3]; exact .inr ⟨after_ok _ _ h1 (.inr rfl), over_false h2⟩
theorem empty_review (p : Prod) (d : Lot) (x g : Int) : (review p d x g).2 = 0 ∨ ((review p d x g).1.id = 0 ∧ (review p d x g).1.units = 0) := by
  unfold review
  split
  · exact .inr ⟨rfl, rfl⟩
  · unfold accept
    rcases behind_cases d 2 (fun d => { d with grant := Sat.two d.grant g }) (fun d => over p d x) with h | h
    · rw [h.2]; exact .inr ⟨rfl, rfl⟩
    · exact .inl h.1
theorem never_may (p : Prod) (d : Lot) (x now : Int) : ¬ may p d x now = 0 ∨ (d.status = 1 ∧ x ≤ allow p d ∧ now < d.expiry) := by
  unfold may
  split
  · exact .inl (by decide)
  · split
    · exact .inl (by decide)
    · split
      · exact .inl (by decide)
      · rename_i h1 h2 h3
        exact .inr ⟨by omega, over_false (by simpa using h3), by omega⟩
theorem more_release (p : Prod) (d : Lot) (x y : Int) (h : x ≤ y) : ¬ (release p d y).2 = 0 ∨ (release p d x).2 = 0 := by
  unfold release
  rcases behind_cases d 0 (fun d => d) (fun d => over p d y) with k | ⟨_, h1, h2, _⟩
  · exact .inl k.1
  · exact .inr (behind_ok _ _ _ _ h1 (over_mono h h2))
theorem more_review (p : Prod) (d : Lot) (x y g : Int) (h : x ≤ y) : ¬ (review p d y g).2 = 0 ∨ (review p d x g).2 = 0 := by
  unfold review
  split
  · exact .inl (by decide)
  · unfold accept
    rcases behind_cases d 2 (fun d => { d with grant := Sat.two d.grant g }) (fun d => over p d y) with k | ⟨_, h1, h2, _⟩
    · exact .inl k.1
    · exact .inr (behind_ok _ _ _ _ h1 (over_mono h h2))
theorem most_review (p : Prod) (d : Lot) (x g : Int) : ¬ (review p d x g).2 = 0 ∨ (review p d x 4611686018427387904).2 = 0 := by
  unfold review
  split
  · exact .inl (by decide)
  · rw [if_neg (by omega)]
    unfold accept
    rcases behind_cases d 2 (fun d => { d with grant := Sat.two d.grant g }) (fun d => over p d x) with k | ⟨_, h1, h2, _⟩
    · exact .inl k.1
    · refine .inr (behind_ok _ _ _ _ h1 ?_)
      have h3 := over_false h2
      unfold over
      simp only [decide_eq_false_iff_not]
      have h4 := two_mono p.budget _ _ (two_most d.grant g)
      unfold allow at *
      dsimp only at *
      omega
theorem more_may (p : Prod) (d : Lot) (x y now : Int) (h : x ≤ y) : ¬ may p d y now = 0 ∨ may p d x now = 0 := by
  rcases never_may p d y now with k | ⟨h1, h2, h3⟩
  · exact .inl k
  · right
    unfold may
    rw [if_neg (by omega), if_neg (by omega), if_neg]
    unfold over
    simp only [decide_eq_true_eq]
    omega
end Keep
end Go.Proofs.Ythgmnlkblomcaaa
namespace Go.Proofs.Ythgmnlkblomcaaa.keepNever
open Go.ChangeShapes Go.WideShapes Go.ChangeAt Go.RowKit Go.Hf

set_option maxRecDepth 100000 in
set_option maxHeartbeats 4000000 in
theorem law (p : Prod) (d : Lot) (A : Option Addr) (n c : Nat) (ss : List Stay) (x0 x1 x2 x3 : Int) (w0 : World) (h : Stays w0 (.slice A n c) ss) :
    Calls Try.prog 11 #[aggP p, aggL d A n c, .agg #[.int .i64 x0, .int .i64 x1, .int .i64 x2, .int .i64 x3]] w0 fun en w' => en = .returned (.bool true) ∧ Fr w0 w' := by
  have hm := h.len_le
  unfold maxLen at hm
  have hn : ss.length = n := by obtain ⟨_, _, _, h1, h2, _⟩ := h; injection h1 with _ h3 _; omega
  subst hn
  have HV := Lib.hid h
  clear h
  have I := St.refl w0
  by_cases hl3 : 60 < ss.length
  · go_enter Try.func11, Try.ntmps11
    try dsimp only [List.append]
    go_wp2_with (first | (first | ((with_reducible refine gguard ?_); first | refine w_want (by rfl) ?_ | ((first | refine w_guardT (by rfl) (fun hb => ?_) (fun hb => ?_) | refine w_guardF (by rfl) (fun hb => ?_) (fun hb => ?_)) <;> (try rw [hb]) <;> (try simp only [decide_eq_true_eq, decide_eq_false_iff_not, Bool.and_eq_true, Bool.or_eq_true, Bool.and_eq_false_iff, Bool.or_eq_false_iff, beq_iff_eq, bne_iff_ne, beq_eq_false_iff_ne, bne_eq_false_iff_eq, Bool.not_eq_true, Bool.not_eq_false] at hb) <;> go_prune <;> (try (with_reducible replace hb := eqPair hb)))) | (((with_reducible refine gbox ?_); first | refine w_boxA I (by rfl) ?_ | refine w_box1 I (by (conv => lhs; whnf) <;> rfl) (by rfl) ?_); clear I; intro g w I) | ((with_reducible refine galloc ?_); refine w_alloc I ?_; clear I; intro g w I) | ((with_reducible refine gload ?_); first | refine w_loadB I (by rfl) (by first | (with_reducible repeat (first | exact .here | apply At.there)); done | repeat (first | exact .here | apply At.there)) (by rfl) ?_ | refine w_loadBR I (by rfl) (by first | (with_reducible repeat (first | exact .here | apply At.there)); done | repeat (first | exact .here | apply At.there)) (by rfl) ?_ | refine w_load0 I (by rfl) (by assumption) ?_) | ((with_reducible refine gstore ?_); (first | refine w_storeB I (by rfl) (by (conv => lhs; whnf) <;> rfl) (by first | (with_reducible repeat (first | exact .here | apply Upd.there)); done | repeat (first | exact .here | apply Upd.there)) (by rfl) (by rfl) (by simp only [List.set_cons_zero, List.set_cons_succ] <;> rfl) ?_ | refine w_storeBR I (by rfl) (by rfl) (by first | (with_reducible repeat (first | exact .here | apply Upd.there)); done | repeat (first | exact .here | apply Upd.there)) (by rfl) (by rfl) (by rfl) ?_); clear I; intro w I)) | (go_at_call 47; go_must (refine (law14_alive _).mono ?_; rintro _ w1 ⟨rfl, hf⟩; replace I := I.still hf; clear hf)))
    go_ret
    exact ⟨rfl, I.fr⟩
  · have hl4 : ss.length ≤ 1000 := by omega
    obtain ⟨mo, hmo⟩ : ∃ mo, (if x0 < x3 then x3 else x0) = mo := ⟨_, rfl⟩
    have hmx : x0 ≤ mo := by rw [← hmo]; split <;> omega
    have G8 := Lib.hid (Keep.more_release p d x0 mo hmx)
    have G9 := Lib.hid (Keep.more_review p d x0 mo x1 hmx)
    have G10 := Lib.hid (Keep.most_review p d x0 x1)
    have G11 := Lib.hid (Keep.more_may p d x0 mo x2 hmx)
    have G1 := Lib.hid (Keep.never_judge p d x0)
    have G4 := Lib.hid (Keep.held_judge p d x0)
    have G2 := Lib.hid (Keep.never_release p d x0)
    have G5 := Lib.hid (Keep.empty_release p d x0)
    have G3 := Lib.hid (Keep.never_review p d x0 x1)
    have G6 := Lib.hid (Keep.empty_review p d x0 x1)
    have G7 := Lib.hid (Keep.never_may p d x0 x2)
    have HMO := Lib.hid hmo
    have HJ := Lib.hid (fun wx (hx : Stays wx (.slice A ss.length c) ss) => keep_judge p d x0 A _ c ss wx hx hl4)
    have HR := Lib.hid (fun wx (hx : Stays wx (.slice A ss.length c) ss) => keep_release p d x0 A _ c ss wx hx hl4)
    have HW := Lib.hid (fun wx (hx : Stays wx (.slice A ss.length c) ss) => keep_review p d x0 x1 A _ c ss wx hx hl4)
    have HM := Lib.hid (fun wx => keep_may p d x0 x2 A ss.length c wx)
    have HR2 := Lib.hid (fun wx (hx : Stays wx (.slice A ss.length c) ss) => keep_release p d mo A _ c ss wx hx hl4)
    have HW2 := Lib.hid (fun wx (hx : Stays wx (.slice A ss.length c) ss) => keep_review p d mo x1 A _ c ss wx hx hl4)
    have HW3 := Lib.hid (fun wx (hx : Stays wx (.slice A ss.length c) ss) => keep_review p d x0 4611686018427387904 A _ c ss wx hx hl4)
    have HM2 := Lib.hid (fun wx => keep_may p d mo x2 A ss.length c wx)
    generalize Keep.judge p d x0 = j at G1 G4 HJ
    generalize Keep.release p d x0 = r at G2 G5 G8 HR
    generalize Keep.review p d x0 x1 = v at G3 G6 G9 G10 HW
    generalize Keep.may p d x0 x2 = m at G7 G11 HM
    generalize Keep.release p d mo = r2 at G8 HR2
    generalize Keep.review p d mo x1 = v2 at G9 HW2
    generalize Keep.review p d x0 4611686018427387904 = v3 at G10 HW3
    generalize Keep.may p d mo x2 = m2 at G11 HM2
    clear hmo hmx
    generalize e1 : Keep.allow p j.1 = a1 at G1
    generalize e2 : Keep.allow p r.1 = a2 at G2
    generalize e3 : Keep.allow p v.1 = a3 at G3
    generalize e4 : Keep.allow p d = a4 at G7
    have E1 := Lib.hid e1
    have E2 := Lib.hid e2
    have E3 := Lib.hid e3
    have E4 := Lib.hid e4
    clear e1 e2 e3 e4
    go_enter Try.func11, Try.ntmps11
    try dsimp only [List.append]
    go_upto_region 7 with (first | ((with_reducible refine gguard ?_); first | refine w_want (by rfl) ?_ | ((first | refine w_guardT (by rfl) (fun hb => ?_) (fun hb => ?_) | refine w_guardF (by rfl) (fun hb => ?_) (fun hb => ?_)) <;> (try rw [hb]) <;> (try simp only [decide_eq_true_eq, decide_eq_false_iff_not, Bool.and_eq_true, Bool.or_eq_true, Bool.and_eq_false_iff, Bool.or_eq_false_iff, beq_iff_eq, bne_iff_ne, beq_eq_false_iff_ne, bne_eq_false_iff_eq, Bool.not_eq_true, Bool.not_eq_false] at hb) <;> go_prune <;> (try (with_reducible replace hb := eqPair hb)))) | (((with_reducible refine gbox ?_); first | refine w_boxA I (by rfl) ?_ | refine w_box1 I (by (conv => lhs; whnf) <;> rfl) (by rfl) ?_); clear I; intro g w I) | ((with_reducible refine galloc ?_); refine w_alloc I ?_; clear I; intro g w I) | ((with_reducible refine gload ?_); first | refine w_loadB I (by rfl) (by first | (with_reducible repeat (first | exact .here | apply At.there)); done | repeat (first | exact .here | apply At.there)) (by rfl) ?_ | refine w_loadBR I (by rfl) (by first | (with_reducible repeat (first | exact .here | apply At.there)); done | repeat (first | exact .here | apply At.there)) (by rfl) ?_ | refine w_load0 I (by rfl) (by assumption) ?_) | ((with_reducible refine gstore ?_); (first | refine w_storeB I (by rfl) (by (conv => lhs; whnf) <;> rfl) (by first | (with_reducible repeat (first | exact .here | apply Upd.there)); done | repeat (first | exact .here | apply Upd.there)) (by rfl) (by rfl) (by simp only [List.set_cons_zero, List.set_cons_succ] <;> rfl) ?_ | refine w_storeBR I (by rfl) (by rfl) (by first | (with_reducible repeat (first | exact .here | apply Upd.there)); done | repeat (first | exact .here | apply Upd.there)) (by rfl) (by rfl) (by rfl) ?_); clear I; intro w I))
    rw [HMO.out]
    go_upto_region 10 with (first | (first | ((with_reducible refine gguard ?_); first | refine w_want (by rfl) ?_ | ((first | refine w_guardT (by rfl) (fun hb => ?_) (fun hb => ?_) | refine w_guardF (by rfl) (fun hb => ?_) (fun hb => ?_)) <;> (try rw [hb]) <;> (try simp only [decide_eq_true_eq, decide_eq_false_iff_not, Bool.and_eq_true, Bool.or_eq_true, Bool.and_eq_false_iff, Bool.or_eq_false_iff, beq_iff_eq, bne_iff_ne, beq_eq_false_iff_ne, bne_eq_false_iff_eq, Bool.not_eq_true, Bool.not_eq_false] at hb) <;> go_prune <;> (try (with_reducible replace hb := eqPair hb)))) | (((with_reducible refine gbox ?_); first | refine w_boxA I (by rfl) ?_ | refine w_box1 I (by (conv => lhs; whnf) <;> rfl) (by rfl) ?_); clear I; intro g w I) | ((with_reducible refine galloc ?_); refine w_alloc I ?_; clear I; intro g w I) | ((with_reducible refine gload ?_); first | refine w_loadB I (by rfl) (by first | (with_reducible repeat (first | exact .here | apply At.there)); done | repeat (first | exact .here | apply At.there)) (by rfl) ?_ | refine w_loadBR I (by rfl) (by first | (with_reducible repeat (first | exact .here | apply At.there)); done | repeat (first | exact .here | apply At.there)) (by rfl) ?_ | refine w_load0 I (by rfl) (by assumption) ?_) | ((with_reducible refine gstore ?_); (first | refine w_storeB I (by rfl) (by (conv => lhs; whnf) <;> rfl) (by first | (with_reducible repeat (first | exact .here | apply Upd.there)); done | repeat (first | exact .here | apply Upd.there)) (by rfl) (by rfl) (by simp only [List.set_cons_zero, List.set_cons_succ] <;> rfl) ?_ | refine w_storeBR I (by rfl) (by rfl) (by first | (with_reducible repeat (first | exact .here | apply Upd.there)); done | repeat (first | exact .here | apply Upd.there)) (by rfl) (by rfl) (by rfl) ?_); clear I; intro w I)) | (go_at_call 48; go_must (refine (HJ.out _ (HV.out.frF I.fr)).mono ?_; rintro _ w1 ⟨A1, n1, c1, rfl, S⟩; replace I := I.then1 S; clear S)) | (go_at_call 50; go_must (refine (HR.out _ (HV.out.frF I.fr)).mono ?_; rintro _ w1 ⟨A2, n2, c2, rfl, S⟩; replace I := I.then1 S; clear S)) | (go_at_call 52; go_must (refine (HW.out _ (HV.out.frF I.fr)).mono ?_; rintro _ w1 ⟨A4, n4, c4, rfl, S⟩; replace I := I.then1 S; clear S)))
    obtain ⟨wa, rfl⟩ : ∃ y : World, y = w := ⟨_, rfl⟩
    have I0 := Lib.hid I
    go_cut [103] from 62 to 103 (fun cv wx => cv = .bool false ∧ Fr wa wx)
    case first =>
      have c1 : (j.1.status == 1) = true ∧ decide (a1 < x0) = false ∨ (j.1.status == 1) = false := by have := G1.out; by_cases h : j.1.status = 1 <;> simp [h]; omega
      have c2 : (r.2 == 0) = true ∧ (r.1.status != 1) = false ∧ decide (a2 < x0) = false ∨ (r.2 == 0) = false := by have := G2.out; by_cases h : r.2 = 0 <;> simp [h]; omega
      have c3 : (v.2 == 0) = true ∧ (v.1.status != 1) = false ∧ decide (a3 < x0) = false ∨ (v.2 == 0) = false := by have := G3.out; by_cases h : v.2 = 0 <;> simp [h]; omega
      have J := Fr.refl wa
      rcases c1 with ⟨p1, p2⟩ | p1 <;> rcases c2 with ⟨p3, p4, p5⟩ | p3 <;> rcases c3 with ⟨p6, p7, p8⟩ | p6
      all_goals
        have F := I.facts; dsimp only [AllF, Asr.facts, Blk, OwnS] at F
        go_wp2_with (first | (go_at_call 59; ((with_reducible refine (keep_Allowance p j.1 A1 n1 c1 _).mono ?_); rintro _ w1 ⟨rfl, hf⟩; rw [E1.out]; replace I := I.still hf; replace J := J.trans hf; clear hf F; have F := I.facts; dsimp only [AllF, Asr.facts, Blk, OwnS] at F)) | (go_at_call 59; ((with_reducible refine (keep_Allowance p r.1 A2 n2 c2 _).mono ?_); rintro _ w1 ⟨rfl, hf⟩; rw [E2.out]; replace I := I.still hf; replace J := J.trans hf; clear hf F; have F := I.facts; dsimp only [AllF, Asr.facts, Blk, OwnS] at F)) | (go_at_call 59; ((with_reducible refine (keep_Allowance p v.1 A4 n4 c4 _).mono ?_); rintro _ w1 ⟨rfl, hf⟩; rw [E3.out]; replace I := I.still hf; replace J := J.trans hf; clear hf F; have F := I.facts; dsimp only [AllF, Asr.facts, Blk, OwnS] at F)))
        go_meet
        case rel => exact ⟨rfl, J⟩
    case rest =>
    obtain ⟨rfl, hf1⟩ := hcut
    replace I := I.still hf1
    go_upto_region 12 with fail
    go_cut [12, 40, 44, 46, 147] from 104 to 147 (fun jv ju js jt cv wx => jv = .bool j.2 ∧ ju = .tuple #[aggL j.1 A1 n1 c1, .bool j.2] ∧ js = .tuple #[aggL j.1 A1 n1 c1, .bool j.2] ∧ jt = .bool j.2 ∧ cv = .bool false ∧ Fr wa wx)
    case first =>
      have c4 : j.2 = false ∨ (j.2 = true ∧ (j.1.status != 2) = false ∧ (j.1.order != 0) = false ∧ (d.status != 1) = false) := by rcases G4.out with h | ⟨h1, h2, h3⟩; exact .inl h; cases h : j.2 <;> simp [h1, h2, h3]
      have c5 : (r.2 != 0) = false ∨ (r.2 != 0) = true ∧ (r.1.id != 0) = false ∧ (r.1.units != 0) = false := by rcases G5.out with h | ⟨h1, h2⟩; exact .inl (by simp [h]); by_cases h : r.2 = 0 <;> simp [h, h1, h2]
      have c6 : (v.2 != 0) = false ∨ (v.2 != 0) = true ∧ (v.1.id != 0) = false ∧ (v.1.units != 0) = false := by rcases G6.out with h | ⟨h1, h2⟩; exact .inl (by simp [h]); by_cases h : v.2 = 0 <;> simp [h, h1, h2]
      rcases c4 with p1 | ⟨p1, p2, p3, p4⟩ <;> rcases c5 with p5 | ⟨p5, p6, p7⟩ <;> rcases c6 with p8 | ⟨p8, p9, p10⟩
      all_goals
        have F := I.facts; dsimp only [AllF, Asr.facts, Blk, OwnS] at F
        go_wp2_with fail
        go_meet
        case rel => exact ⟨by rw [p1], by rw [p1], by rw [p1], by rw [p1], rfl, hf1⟩
    case rest =>
    clear I hf1
    obtain ⟨rfl, rfl, rfl, rfl, rfl, hf⟩ := hcut
    have I := I0.out.still hf
    clear hf I0
    go_upto_region 15 with (first | (first | ((with_reducible refine gguard ?_); first | refine w_want (by rfl) ?_ | ((first | refine w_guardT (by rfl) (fun hb => ?_) (fun hb => ?_) | refine w_guardF (by rfl) (fun hb => ?_) (fun hb => ?_)) <;> (try rw [hb]) <;> (try simp only [decide_eq_true_eq, decide_eq_false_iff_not, Bool.and_eq_true, Bool.or_eq_true, Bool.and_eq_false_iff, Bool.or_eq_false_iff, beq_iff_eq, bne_iff_ne, beq_eq_false_iff_ne, bne_eq_false_iff_eq, Bool.not_eq_true, Bool.not_eq_false] at hb) <;> go_prune <;> (try (with_reducible replace hb := eqPair hb)))) | (((with_reducible refine gbox ?_); first | refine w_boxA I (by rfl) ?_ | refine w_box1 I (by (conv => lhs; whnf) <;> rfl) (by rfl) ?_); clear I; intro g w I) | ((with_reducible refine galloc ?_); refine w_alloc I ?_; clear I; intro g w I) | ((with_reducible refine gload ?_); first | refine w_loadB I (by rfl) (by first | (with_reducible repeat (first | exact .here | apply At.there)); done | repeat (first | exact .here | apply At.there)) (by rfl) ?_ | refine w_loadBR I (by rfl) (by first | (with_reducible repeat (first | exact .here | apply At.there)); done | repeat (first | exact .here | apply At.there)) (by rfl) ?_ | refine w_load0 I (by rfl) (by assumption) ?_) | ((with_reducible refine gstore ?_); (first | refine w_storeB I (by rfl) (by (conv => lhs; whnf) <;> rfl) (by first | (with_reducible repeat (first | exact .here | apply Upd.there)); done | repeat (first | exact .here | apply Upd.there)) (by rfl) (by rfl) (by simp only [List.set_cons_zero, List.set_cons_succ] <;> rfl) ?_ | refine w_storeBR I (by rfl) (by rfl) (by first | (with_reducible repeat (first | exact .here | apply Upd.there)); done | repeat (first | exact .here | apply Upd.there)) (by rfl) (by rfl) (by rfl) ?_); clear I; intro w I)) | (go_at_call 61; go_must (refine (HM.out _).mono ?_; rintro _ w1 ⟨rfl, S⟩; replace I := I.then0 S; clear S)))
    obtain ⟨wc, rfl⟩ : ∃ y : World, y = w1 := ⟨_, rfl⟩
    go_cut [172] from 153 to 172 (fun cv wx => cv = .bool false ∧ Fr wc wx)
    case first =>
      have c7 : (m == 0) = false ∨ (m == 0) = true ∧ (d.status != 1) = false ∧ decide (a4 < x0) = false ∧ decide (d.expiry ≤ x2) = false := by have := G7.out; by_cases h : m = 0 <;> simp [h]; omega
      have J := Fr.refl wc
      rcases c7 with p1 | ⟨p1, p2, p3, p4⟩
      all_goals
        have F := I.facts; dsimp only [AllF, Asr.facts, Blk, OwnS] at F
        go_wp2_with (first | (go_at_call 59; ((with_reducible refine (keep_Allowance p d A _ c _).mono ?_); rintro _ w1 ⟨rfl, hf⟩; rw [E4.out]; replace I := I.still hf; replace J := J.trans hf; clear hf F; have F := I.facts; dsimp only [AllF, Asr.facts, Blk, OwnS] at F)))
        go_meet
        case rel => exact ⟨rfl, J⟩
    case rest =>
    obtain ⟨rfl, hf⟩ := hcut
    replace I := I.still hf
    clear hf
    go_upto_region 21 with (first | (first | ((with_reducible refine gguard ?_); first | refine w_want (by rfl) ?_ | ((first | refine w_guardT (by rfl) (fun hb => ?_) (fun hb => ?_) | refine w_guardF (by rfl) (fun hb => ?_) (fun hb => ?_)) <;> (try rw [hb]) <;> (try simp only [decide_eq_true_eq, decide_eq_false_iff_not, Bool.and_eq_true, Bool.or_eq_true, Bool.and_eq_false_iff, Bool.or_eq_false_iff, beq_iff_eq, bne_iff_ne, beq_eq_false_iff_ne, bne_eq_false_iff_eq, Bool.not_eq_true, Bool.not_eq_false] at hb) <;> go_prune <;> (try (with_reducible replace hb := eqPair hb)))) | (((with_reducible refine gbox ?_); first | refine w_boxA I (by rfl) ?_ | refine w_box1 I (by (conv => lhs; whnf) <;> rfl) (by rfl) ?_); clear I; intro g w I) | ((with_reducible refine galloc ?_); refine w_alloc I ?_; clear I; intro g w I) | ((with_reducible refine gload ?_); first | refine w_loadB I (by rfl) (by first | (with_reducible repeat (first | exact .here | apply At.there)); done | repeat (first | exact .here | apply At.there)) (by rfl) ?_ | refine w_loadBR I (by rfl) (by first | (with_reducible repeat (first | exact .here | apply At.there)); done | repeat (first | exact .here | apply At.there)) (by rfl) ?_ | refine w_load0 I (by rfl) (by assumption) ?_) | ((with_reducible refine gstore ?_); (first | refine w_storeB I (by rfl) (by (conv => lhs; whnf) <;> rfl) (by first | (with_reducible repeat (first | exact .here | apply Upd.there)); done | repeat (first | exact .here | apply Upd.there)) (by rfl) (by rfl) (by simp only [List.set_cons_zero, List.set_cons_succ] <;> rfl) ?_ | refine w_storeBR I (by rfl) (by rfl) (by first | (with_reducible repeat (first | exact .here | apply Upd.there)); done | repeat (first | exact .here | apply Upd.there)) (by rfl) (by rfl) (by rfl) ?_); clear I; intro w I)) | (go_at_call 61; go_must (refine (HM2.out _).mono ?_; rintro _ w1 ⟨rfl, S⟩; replace I := I.then0 S; clear S)) | (go_at_call 50; go_must (refine (HR2.out _ (HV.out.frF I.fr)).mono ?_; rintro _ w1 ⟨A5, n5, c5, rfl, S⟩; replace I := I.then1 S; clear S)) | (go_at_call 52; ((with_reducible refine (HW2.out _ (HV.out.frF I.fr)).mono ?_); rintro _ w1 ⟨A6, n6, c6, rfl, S⟩; replace I := I.then1 S; clear S)) | (go_at_call 52; ((with_reducible refine (HW3.out _ (HV.out.frF I.fr)).mono ?_); rintro _ w1 ⟨A7, n7, c7, rfl, S⟩; replace I := I.then1 S; clear S)))
    have c8 : (r2.2 != 0) = true ∨ (r2.2 != 0) = false ∧ (r.2 == 0) = true := by have := G8.out; by_cases h : r2.2 = 0 <;> simp [h]; omega
    have c9 : (v2.2 != 0) = true ∨ (v2.2 != 0) = false ∧ (v.2 == 0) = true := by have := G9.out; by_cases h : v2.2 = 0 <;> simp [h]; omega
    have c10 : (v.2 != 0) = true ∨ (v.2 != 0) = false ∧ (v3.2 == 0) = true := by have := G10.out; by_cases h : v.2 = 0 <;> simp [h]; omega
    have c11 : (m2 != 0) = true ∨ (m2 != 0) = false ∧ (m == 0) = true := by have := G11.out; by_cases h : m2 = 0 <;> simp [h]; omega
    rcases c8 with p1 | ⟨p1, p2⟩ <;> rcases c9 with p3 | ⟨p3, p4⟩ <;> rcases c10 with p5 | ⟨p5, p6⟩ <;> rcases c11 with p7 | ⟨p7, p8⟩
    all_goals
      go_wp2_with (first | (first | ((with_reducible refine gguard ?_); first | refine w_want (by rfl) ?_ | ((first | refine w_guardT (by rfl) (fun hb => ?_) (fun hb => ?_) | refine w_guardF (by rfl) (fun hb => ?_) (fun hb => ?_)) <;> (try rw [hb]) <;> (try simp only [decide_eq_true_eq, decide_eq_false_iff_not, Bool.and_eq_true, Bool.or_eq_true, Bool.and_eq_false_iff, Bool.or_eq_false_iff, beq_iff_eq, bne_iff_ne, beq_eq_false_iff_ne, bne_eq_false_iff_eq, Bool.not_eq_true, Bool.not_eq_false] at hb) <;> go_prune <;> (try (with_reducible replace hb := eqPair hb)))) | (((with_reducible refine gbox ?_); first | refine w_boxA I (by rfl) ?_ | refine w_box1 I (by (conv => lhs; whnf) <;> rfl) (by rfl) ?_); clear I; intro g w I) | ((with_reducible refine galloc ?_); refine w_alloc I ?_; clear I; intro g w I) | ((with_reducible refine gload ?_); first | refine w_loadB I (by rfl) (by first | (with_reducible repeat (first | exact .here | apply At.there)); done | repeat (first | exact .here | apply At.there)) (by rfl) ?_ | refine w_loadBR I (by rfl) (by first | (with_reducible repeat (first | exact .here | apply At.there)); done | repeat (first | exact .here | apply At.there)) (by rfl) ?_ | refine w_load0 I (by rfl) (by assumption) ?_) | ((with_reducible refine gstore ?_); (first | refine w_storeB I (by rfl) (by (conv => lhs; whnf) <;> rfl) (by first | (with_reducible repeat (first | exact .here | apply Upd.there)); done | repeat (first | exact .here | apply Upd.there)) (by rfl) (by rfl) (by simp only [List.set_cons_zero, List.set_cons_succ] <;> rfl) ?_ | refine w_storeBR I (by rfl) (by rfl) (by first | (with_reducible repeat (first | exact .here | apply Upd.there)); done | repeat (first | exact .here | apply Upd.there)) (by rfl) (by rfl) (by rfl) ?_); clear I; intro w I)) | (go_at_call 47; go_must (refine (law14_alive _).mono ?_; rintro _ w1 ⟨rfl, hf⟩; replace I := I.still hf; clear hf)))
      go_ret
      exact ⟨rfl, I.fr⟩
set_option maxRecDepth 100000 in
theorem walk {H : Type} {enc : TypeId × Value → H} (W : World) (base : Nat) (args : Array Value) (ds : List (DataW H)) (ps : List MemPlace) (hval : ∀ (j : Nat) t v, Try.f11.params[j]? = some t → args[j]? = some v → Value.okWide Try.prog W .any base t v)
    (hA : DataW.TrodAll enc Try.prog W 0 (fun _ => true) true Try.f11.params.toList args.toList ds ps) : Calls Try.prog 11 args W fun e W' => e = .returned (.bool true) ∧ Fr W W' := by
  rw [Try.params11] at hA
  obtain ⟨v0, vs0, d0, ds0, p0, q0, hargs, rfl, rfl, h0, r0⟩ := trodAll_cons hA
  obtain ⟨v1, vs1, d1, ds1, p1, q1, rfl, rfl, rfl, h1, r1⟩ := trodAll_cons r0
  obtain ⟨v2, vs2, d2, ds2, p2, q2, rfl, rfl, rfl, h2, r2⟩ := trodAll_cons r1
  obtain ⟨rfl, rfl, rfl⟩ := trodAll_nil r2
  obtain rfl : args = #[v0, v1, v2] := by cases args; simp_all
  rw [Try.params11] at hval
  obtain ⟨p, rfl⟩ := open_prod (hval 0 _ v0 rfl rfl) h0
  obtain ⟨l, A, n, c, ss, rfl, hs⟩ := open_lot (hval 1 _ v1 rfl rfl) h1
  obtain ⟨cs, rfl, hf⟩ := open_flat_arg (ks := [.int .i64, .int .i64, .int .i64, .int .i64]) (by kernel_rfl) (hval 2 _ v2 rfl rfl) h2
  obtain ⟨x0, x1, x2, x3, rfl⟩ := ints4 hf
  exact law p l A n c ss x0 x1 x2 x3 W hs

theorem own : ownKnob Try.prog.godebug = none := by kernel_rfl

set_option maxRecDepth 100000 in
theorem lifted (os : Os) (started : os.Started) (H : Type) (enc : TypeId × Value → H) :
    ReturnsInHanded {} Try.checked os 11 .any (Rows.keepNeverSpec.pre6 enc Try.prog Try.f11 Rows.keepNeverRow.domain false) (Rows.keepNeverSpec.post enc Try.prog Try.f11 false true false false) :=
  Hf.law_lifted (C := Try.checked) own started (by kernel_rfl) Try.func11
    (ChangeSpec.witness6 (enc := enc) (C := Try.checked) false ⟨#[], #[aggP ⟨0, 0, 0⟩, aggL Lot.zero none 0 0, .agg #[.int .i64 0, .int .i64 0, .int .i64 0, .int .i64 0]], []⟩ 8 (by kernel_rfl) (by kernel_rfl) (by kernel_rfl) (by kernel_rfl))
    rfl (by kernel_rfl) Try.underlying4 (by kernel_rfl) (by kernel_rfl)
    (by intro ds h; rw [Try.params11] at h; match ds, h with | [_, _, _], _ => rfl) walk

theorem over : Rows.keepNeverRow.holds Try.pinned (OpenSpec.ofChange Rows.keepNeverSpec) :=
  OpenClaim.holds_of_wide 11 Try.f11 rfl rfl rfl rfl rfl rfl rfl ⟨rfl, rfl, rfl, rfl, rfl⟩ rfl rfl rfl rfl rfl (by kernel_rfl) Try.func11 (by kernel_rfl)
    (of_decide_eq_true (by kernel_rfl)) (by unfold Func.isWrapper; first | (rw [if_pos (by decide +kernel)]; kernel_rfl) | (rw [if_neg (by decide +kernel)]; exact ⟨rfl, rfl⟩))
    (fun os started H enc _ => lifted os started H enc)

/-- The statement. -/
theorem proved : Rows.KeepNeverSaid := over
#print axioms proved
end Go.Proofs.Ythgmnlkblomcaaa.keepNever
