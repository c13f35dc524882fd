
/- Readings (layer 6): contracts of what may be, New, compare; the reference's. -/
import Derived.Test.YtggeloihnbjogaaSer
import Derived.Test.YtggeloihnbjogaaTypes
import Derived.Test.YtggeloihnbjogaaStN
import Derived.Deep.CutBlock
namespace Go.Proofs.Ytggeloihnbjogaa
open Go.RowKit Go.Hf

theorem series_tenth (t : Int) (w : World) : Calls Try.prog 49 #[.int .i64 t] w fun e w' => e = .returned (.bool (Ser.tenth t)) ∧ w = w' := by
  unfold Ser.tenth
  by_cases h1 : -1099511627776 ≤ t
  · by_cases h2 : t ≤ 1099511627776
    · rw [decide_eq_true h1, decide_eq_true h2]
      go_enter Try.func49, Try.ntmps49
      go_wp2_with fail
      all_goals first | (go_ret; exact ⟨rfl, rfl⟩) | omega
    · rw [decide_eq_true h1, decide_eq_false h2]
      go_enter Try.func49, Try.ntmps49
      go_wp2_with fail
      all_goals first | (go_ret; exact ⟨rfl, rfl⟩) | omega
  · rw [decide_eq_false h1]
    go_enter Try.func49, Try.ntmps49
    go_wp2_with fail
    all_goals first | (go_ret; exact ⟨rfl, rfl⟩) | omega
theorem ref01_Right (t : Int) (w : World) : Calls Try.prog 50 #[.int .i64 t] w fun e w' => e = .returned (.bool (Ser.tenth t)) ∧ w = w' := by
  unfold Ser.tenth
  by_cases h1 : -1099511627776 ≤ t
  · by_cases h2 : t ≤ 1099511627776
    · rw [decide_eq_true h1, decide_eq_true h2]
      go_enter Try.func50, Try.ntmps50
      go_wp2_with fail
      all_goals first | (go_ret; exact ⟨rfl, rfl⟩) | omega
    · rw [decide_eq_true h1, decide_eq_false h2]
      go_enter Try.func50, Try.ntmps50
      go_wp2_with fail
      all_goals first | (go_ret; exact ⟨rfl, rfl⟩) | omega
  · rw [decide_eq_false h1]
    go_enter Try.func50, Try.ntmps50
    go_wp2_with fail
    all_goals first | (go_ret; exact ⟨rfl, rfl⟩) | omega
set_option maxRecDepth 100000 in
theorem series_right (x : Rd) (w0 : World) : Calls Try.prog 51 #[aggR x] w0 fun e w' => e = .returned (.bool (Ser.right x)) ∧ Fr w0 w' := by
  have I := St.refl w0
  obtain ⟨q, hq⟩ : ∃ q : Bool, Ser.tenth x.t = q := ⟨_, rfl⟩
  have HQ := Lib.hid hq
  clear hq
  by_cases h1 : (0 : Int) ≤ x.m
  case neg =>
    have d_h1 : decide ((0 : Int) ≤ x.m) = false := decide_eq_false h1
    have HE : Hid (Ser.right x = false) := Lib.hid (by unfold Ser.right; simp [h1])
    go_enter Try.func51, Try.ntmps51
    try dsimp only [List.append]
    go_upto_region 1 with (first | ((with_reducible refine gguard ?_); (first | refine w_guardT (by rfl) (fun hb => ?_) (fun hb => ?_) | refine w_guardF (by rfl) (fun hb => ?_) (fun hb => ?_)) <;> first | (cases hb; done) | cases hb | ((try rw [hb]) <;> (try simp at hb) <;> go_prune <;> (try (with_reducible replace hb := eqPair hb)))) | (((with_reducible refine gbox ?_); first | refine w_boxA I (by rfl) ?_ | refine w_box1 I (by (conv => lhs; whnf) <;> rfl) (by rfl) ?_); clear I; intro g w I) | ((with_reducible refine galloc ?_); refine w_alloc I ?_; clear I; intro g w I) | ((with_reducible refine gload ?_); first | refine w_loadB I (by rfl) (by first | (with_reducible repeat (first | exact .here | apply At.there)); done | repeat (first | exact .here | apply At.there)) (by rfl) ?_ | refine w_loadBR I (by rfl) (by first | (with_reducible repeat (first | exact .here | apply At.there)); done | repeat (first | exact .here | apply At.there)) (by rfl) ?_ | refine w_load0 I (by rfl) (by assumption) ?_) | ((with_reducible refine gstore ?_); (first | refine w_storeB I (by rfl) (by (conv => lhs; whnf) <;> rfl) (by first | (with_reducible repeat (first | exact .here | apply Upd.there)); done | repeat (first | exact .here | apply Upd.there)) (by rfl) (by rfl) (by simp only [List.set_cons_zero, List.set_cons_succ] <;> rfl) ?_ | refine w_storeBR I (by rfl) (by rfl) (by first | (with_reducible repeat (first | exact .here | apply Upd.there)); done | repeat (first | exact .here | apply Upd.there)) (by rfl) (by rfl) (by rfl) ?_); clear I; intro w I))
    have F := I.facts
    dsimp only [AllF, Asr.facts, Blk, OwnS] at F
    go_wp2_with ((go_at_call 49; go_must (refine (series_tenth _ _).mono ?_; rintro _ w1 ⟨rfl, rfl⟩; rw [HQ.out])))
    all_goals first | (go_ret; exact ⟨by rw [HE.out]; first | rfl | simp, I.fr⟩) | omega
  have d_h1 : decide ((0 : Int) ≤ x.m) = true := decide_eq_true h1
  by_cases h2 : x.m < 1048576
  case neg =>
    have d_h2 : decide (x.m < 1048576) = false := decide_eq_false h2
    have HE : Hid (Ser.right x = false) := Lib.hid (by unfold Ser.right; simp [h2])
    go_enter Try.func51, Try.ntmps51
    try dsimp only [List.append]
    go_upto_region 1 with (first | ((with_reducible refine gguard ?_); (first | refine w_guardT (by rfl) (fun hb => ?_) (fun hb => ?_) | refine w_guardF (by rfl) (fun hb => ?_) (fun hb => ?_)) <;> first | (cases hb; done) | cases hb | ((try rw [hb]) <;> (try simp at hb) <;> go_prune <;> (try (with_reducible replace hb := eqPair hb)))) | (((with_reducible refine gbox ?_); first | refine w_boxA I (by rfl) ?_ | refine w_box1 I (by (conv => lhs; whnf) <;> rfl) (by rfl) ?_); clear I; intro g w I) | ((with_reducible refine galloc ?_); refine w_alloc I ?_; clear I; intro g w I) | ((with_reducible refine gload ?_); first | refine w_loadB I (by rfl) (by first | (with_reducible repeat (first | exact .here | apply At.there)); done | repeat (first | exact .here | apply At.there)) (by rfl) ?_ | refine w_loadBR I (by rfl) (by first | (with_reducible repeat (first | exact .here | apply At.there)); done | repeat (first | exact .here | apply At.there)) (by rfl) ?_ | refine w_load0 I (by rfl) (by assumption) ?_) | ((with_reducible refine gstore ?_); (first | refine w_storeB I (by rfl) (by (conv => lhs; whnf) <;> rfl) (by first | (with_reducible repeat (first | exact .here | apply Upd.there)); done | repeat (first | exact .here | apply Upd.there)) (by rfl) (by rfl) (by simp only [List.set_cons_zero, List.set_cons_succ] <;> rfl) ?_ | refine w_storeBR I (by rfl) (by rfl) (by first | (with_reducible repeat (first | exact .here | apply Upd.there)); done | repeat (first | exact .here | apply Upd.there)) (by rfl) (by rfl) (by rfl) ?_); clear I; intro w I))
    have F := I.facts
    dsimp only [AllF, Asr.facts, Blk, OwnS] at F
    go_wp2_with ((go_at_call 49; go_must (refine (series_tenth _ _).mono ?_; rintro _ w1 ⟨rfl, rfl⟩; rw [HQ.out])))
    all_goals first | (go_ret; exact ⟨by rw [HE.out]; first | rfl | simp, I.fr⟩) | omega
  have d_h2 : decide (x.m < 1048576) = true := decide_eq_true h2
  by_cases h3 : (0 : Int) ≤ x.s
  case neg =>
    have d_h3 : decide ((0 : Int) ≤ x.s) = false := decide_eq_false h3
    have HE : Hid (Ser.right x = false) := Lib.hid (by unfold Ser.right; simp [h3])
    go_enter Try.func51, Try.ntmps51
    try dsimp only [List.append]
    go_upto_region 1 with (first | ((with_reducible refine gguard ?_); (first | refine w_guardT (by rfl) (fun hb => ?_) (fun hb => ?_) | refine w_guardF (by rfl) (fun hb => ?_) (fun hb => ?_)) <;> first | (cases hb; done) | cases hb | ((try rw [hb]) <;> (try simp at hb) <;> go_prune <;> (try (with_reducible replace hb := eqPair hb)))) | (((with_reducible refine gbox ?_); first | refine w_boxA I (by rfl) ?_ | refine w_box1 I (by (conv => lhs; whnf) <;> rfl) (by rfl) ?_); clear I; intro g w I) | ((with_reducible refine galloc ?_); refine w_alloc I ?_; clear I; intro g w I) | ((with_reducible refine gload ?_); first | refine w_loadB I (by rfl) (by first | (with_reducible repeat (first | exact .here | apply At.there)); done | repeat (first | exact .here | apply At.there)) (by rfl) ?_ | refine w_loadBR I (by rfl) (by first | (with_reducible repeat (first | exact .here | apply At.there)); done | repeat (first | exact .here | apply At.there)) (by rfl) ?_ | refine w_load0 I (by rfl) (by assumption) ?_) | ((with_reducible refine gstore ?_); (first | refine w_storeB I (by rfl) (by (conv => lhs; whnf) <;> rfl) (by first | (with_reducible repeat (first | exact .here | apply Upd.there)); done | repeat (first | exact .here | apply Upd.there)) (by rfl) (by rfl) (by simp only [List.set_cons_zero, List.set_cons_succ] <;> rfl) ?_ | refine w_storeBR I (by rfl) (by rfl) (by first | (with_reducible repeat (first | exact .here | apply Upd.there)); done | repeat (first | exact .here | apply Upd.there)) (by rfl) (by rfl) (by rfl) ?_); clear I; intro w I))
    have F := I.facts
    dsimp only [AllF, Asr.facts, Blk, OwnS] at F
    go_wp2_with ((go_at_call 49; go_must (refine (series_tenth _ _).mono ?_; rintro _ w1 ⟨rfl, rfl⟩; rw [HQ.out])))
    all_goals first | (go_ret; exact ⟨by rw [HE.out]; first | rfl | simp, I.fr⟩) | omega
  have d_h3 : decide ((0 : Int) ≤ x.s) = true := decide_eq_true h3
  by_cases h4 : x.s < 65536
  case neg =>
    have d_h4 : decide (x.s < 65536) = false := decide_eq_false h4
    have HE : Hid (Ser.right x = false) := Lib.hid (by unfold Ser.right; simp [h4])
    go_enter Try.func51, Try.ntmps51
    try dsimp only [List.append]
    go_upto_region 1 with (first | ((with_reducible refine gguard ?_); (first | refine w_guardT (by rfl) (fun hb => ?_) (fun hb => ?_) | refine w_guardF (by rfl) (fun hb => ?_) (fun hb => ?_)) <;> first | (cases hb; done) | cases hb | ((try rw [hb]) <;> (try simp at hb) <;> go_prune <;> (try (with_reducible replace hb := eqPair hb)))) | (((with_reducible refine gbox ?_); first | refine w_boxA I (by rfl) ?_ | refine w_box1 I (by (conv => lhs; whnf) <;> rfl) (by rfl) ?_); clear I; intro g w I) | ((with_reducible refine galloc ?_); refine w_alloc I ?_; clear I; intro g w I) | ((with_reducible refine gload ?_); first | refine w_loadB I (by rfl) (by first | (with_reducible repeat (first | exact .here | apply At.there)); done | repeat (first | exact .here | apply At.there)) (by rfl) ?_ | refine w_loadBR I (by rfl) (by first | (with_reducible repeat (first | exact .here | apply At.there)); done | repeat (first | exact .here | apply At.there)) (by rfl) ?_ | refine w_load0 I (by rfl) (by assumption) ?_) | ((with_reducible refine gstore ?_); (first | refine w_storeB I (by rfl) (by (conv => lhs; whnf) <;> rfl) (by first | (with_reducible repeat (first | exact .here | apply Upd.there)); done | repeat (first | exact .here | apply Upd.there)) (by rfl) (by rfl) (by simp only [List.set_cons_zero, List.set_cons_succ] <;> rfl) ?_ | refine w_storeBR I (by rfl) (by rfl) (by first | (with_reducible repeat (first | exact .here | apply Upd.there)); done | repeat (first | exact .here | apply Upd.there)) (by rfl) (by rfl) (by rfl) ?_); clear I; intro w I))
    have F := I.facts
    dsimp only [AllF, Asr.facts, Blk, OwnS] at F
    go_wp2_with ((go_at_call 49; go_must (refine (series_tenth _ _).mono ?_; rintro _ w1 ⟨rfl, rfl⟩; rw [HQ.out])))
    all_goals first | (go_ret; exact ⟨by rw [HE.out]; first | rfl | simp, I.fr⟩) | omega
  have d_h4 : decide (x.s < 65536) = true := decide_eq_true h4
  have HE : Hid (Ser.right x = q) := Lib.hid (by unfold Ser.right; rw [HQ.out]; simp [h1, h2, h3, h4])
  go_enter Try.func51, Try.ntmps51
  try dsimp only [List.append]
  go_upto_region 1 with (first | ((with_reducible refine gguard ?_); (first | refine w_guardT (by rfl) (fun hb => ?_) (fun hb => ?_) | refine w_guardF (by rfl) (fun hb => ?_) (fun hb => ?_)) <;> first | (cases hb; done) | cases hb | ((try rw [hb]) <;> (try simp at hb) <;> go_prune <;> (try (with_reducible replace hb := eqPair hb)))) | (((with_reducible refine gbox ?_); first | refine w_boxA I (by rfl) ?_ | refine w_box1 I (by (conv => lhs; whnf) <;> rfl) (by rfl) ?_); clear I; intro g w I) | ((with_reducible refine galloc ?_); refine w_alloc I ?_; clear I; intro g w I) | ((with_reducible refine gload ?_); first | refine w_loadB I (by rfl) (by first | (with_reducible repeat (first | exact .here | apply At.there)); done | repeat (first | exact .here | apply At.there)) (by rfl) ?_ | refine w_loadBR I (by rfl) (by first | (with_reducible repeat (first | exact .here | apply At.there)); done | repeat (first | exact .here | apply At.there)) (by rfl) ?_ | refine w_load0 I (by rfl) (by assumption) ?_) | ((with_reducible refine gstore ?_); (first | refine w_storeB I (by rfl) (by (conv => lhs; whnf) <;> rfl) (by first | (with_reducible repeat (first | exact .here | apply Upd.there)); done | repeat (first | exact .here | apply Upd.there)) (by rfl) (by rfl) (by simp only [List.set_cons_zero, List.set_cons_succ] <;> rfl) ?_ | refine w_storeBR I (by rfl) (by rfl) (by first | (with_reducible repeat (first | exact .here | apply Upd.there)); done | repeat (first | exact .here | apply Upd.there)) (by rfl) (by rfl) (by rfl) ?_); clear I; intro w I))
  have F := I.facts
  dsimp only [AllF, Asr.facts, Blk, OwnS] at F
  go_wp2_with ((go_at_call 49; go_must (refine (series_tenth _ _).mono ?_; rintro _ w1 ⟨rfl, rfl⟩; rw [HQ.out])))
  all_goals first | (go_ret; exact ⟨by rw [HE.out]; first | rfl | simp, I.fr⟩) | omega
set_option maxRecDepth 100000 in
theorem ref06_Right (x : Rd) (w0 : World) : Calls Try.prog 54 #[aggR x] w0 fun e w' => e = .returned (.bool (Ser.right x)) ∧ Fr w0 w' := by
  have I := St.refl w0
  obtain ⟨q, hq⟩ : ∃ q : Bool, Ser.tenth x.t = q := ⟨_, rfl⟩
  have HQ := Lib.hid hq
  clear hq
  cases q with
  | false =>
    have HE : Hid (Ser.right x = false) := Lib.hid (by unfold Ser.right; rw [HQ.out]; simp)
    go_enter Try.func54, Try.ntmps54
    try dsimp only [List.append]
    go_upto_region 1 with (first | ((with_reducible refine gguard ?_); (first | refine w_guardT (by rfl) (fun hb => ?_) (fun hb => ?_) | refine w_guardF (by rfl) (fun hb => ?_) (fun hb => ?_)) <;> first | (cases hb; done) | cases hb | ((try rw [hb]) <;> (try simp at hb) <;> go_prune <;> (try (with_reducible replace hb := eqPair hb)))) | (((with_reducible refine gbox ?_); first | refine w_boxA I (by rfl) ?_ | refine w_box1 I (by (conv => lhs; whnf) <;> rfl) (by rfl) ?_); clear I; intro g w I) | ((with_reducible refine galloc ?_); refine w_alloc I ?_; clear I; intro g w I) | ((with_reducible refine gload ?_); first | refine w_loadB I (by rfl) (by first | (with_reducible repeat (first | exact .here | apply At.there)); done | repeat (first | exact .here | apply At.there)) (by rfl) ?_ | refine w_loadBR I (by rfl) (by first | (with_reducible repeat (first | exact .here | apply At.there)); done | repeat (first | exact .here | apply At.there)) (by rfl) ?_ | refine w_load0 I (by rfl) (by assumption) ?_) | ((with_reducible refine gstore ?_); (first | refine w_storeB I (by rfl) (by (conv => lhs; whnf) <;> rfl) (by first | (with_reducible repeat (first | exact .here | apply Upd.there)); done | repeat (first | exact .here | apply Upd.there)) (by rfl) (by rfl) (by simp only [List.set_cons_zero, List.set_cons_succ] <;> rfl) ?_ | refine w_storeBR I (by rfl) (by rfl) (by first | (with_reducible repeat (first | exact .here | apply Upd.there)); done | repeat (first | exact .here | apply Upd.there)) (by rfl) (by rfl) (by rfl) ?_); clear I; intro w I))
    have F := I.facts
    dsimp only [AllF, Asr.facts, Blk, OwnS] at F
    go_wp2_with ((go_at_call 50; go_must (refine (ref01_Right _ _).mono ?_; rintro _ w1 ⟨rfl, rfl⟩; rw [HQ.out])))
    all_goals first | (go_ret; exact ⟨by rw [HE.out]; first | rfl | simp, I.fr⟩) | omega
  | true =>
  by_cases h1 : (0 : Int) ≤ x.m
  case neg =>
    have d_h1 : decide ((0 : Int) ≤ x.m) = false := decide_eq_false h1
    have HE : Hid (Ser.right x = false) := Lib.hid (by unfold Ser.right; simp; omega)
    go_enter Try.func54, Try.ntmps54
    try dsimp only [List.append]
    go_upto_region 1 with (first | ((with_reducible refine gguard ?_); (first | refine w_guardT (by rfl) (fun hb => ?_) (fun hb => ?_) | refine w_guardF (by rfl) (fun hb => ?_) (fun hb => ?_)) <;> first | (cases hb; done) | cases hb | ((try rw [hb]) <;> (try simp at hb) <;> go_prune <;> (try (with_reducible replace hb := eqPair hb)))) | (((with_reducible refine gbox ?_); first | refine w_boxA I (by rfl) ?_ | refine w_box1 I (by (conv => lhs; whnf) <;> rfl) (by rfl) ?_); clear I; intro g w I) | ((with_reducible refine galloc ?_); refine w_alloc I ?_; clear I; intro g w I) | ((with_reducible refine gload ?_); first | refine w_loadB I (by rfl) (by first | (with_reducible repeat (first | exact .here | apply At.there)); done | repeat (first | exact .here | apply At.there)) (by rfl) ?_ | refine w_loadBR I (by rfl) (by first | (with_reducible repeat (first | exact .here | apply At.there)); done | repeat (first | exact .here | apply At.there)) (by rfl) ?_ | refine w_load0 I (by rfl) (by assumption) ?_) | ((with_reducible refine gstore ?_); (first | refine w_storeB I (by rfl) (by (conv => lhs; whnf) <;> rfl) (by first | (with_reducible repeat (first | exact .here | apply Upd.there)); done | repeat (first | exact .here | apply Upd.there)) (by rfl) (by rfl) (by simp only [List.set_cons_zero, List.set_cons_succ] <;> rfl) ?_ | refine w_storeBR I (by rfl) (by rfl) (by first | (with_reducible repeat (first | exact .here | apply Upd.there)); done | repeat (first | exact .here | apply Upd.there)) (by rfl) (by rfl) (by rfl) ?_); clear I; intro w I))
    have F := I.facts
    dsimp only [AllF, Asr.facts, Blk, OwnS] at F
    go_wp2_with ((go_at_call 50; go_must (refine (ref01_Right _ _).mono ?_; rintro _ w1 ⟨rfl, rfl⟩; rw [HQ.out])))
    all_goals first | (go_ret; exact ⟨by rw [HE.out]; first | rfl | simp, I.fr⟩) | omega
  have d_h1 : decide ((0 : Int) ≤ x.m) = true := decide_eq_true h1
  by_cases h2 : x.m ≤ 1048575
  case neg =>
    have d_h2 : decide (x.m ≤ 1048575) = false := decide_eq_false h2
    have HE : Hid (Ser.right x = false) := Lib.hid (by unfold Ser.right; simp; omega)
    go_enter Try.func54, Try.ntmps54
    try dsimp only [List.append]
    go_upto_region 1 with (first | ((with_reducible refine gguard ?_); (first | refine w_guardT (by rfl) (fun hb => ?_) (fun hb => ?_) | refine w_guardF (by rfl) (fun hb => ?_) (fun hb => ?_)) <;> first | (cases hb; done) | cases hb | ((try rw [hb]) <;> (try simp at hb) <;> go_prune <;> (try (with_reducible replace hb := eqPair hb)))) | (((with_reducible refine gbox ?_); first | refine w_boxA I (by rfl) ?_ | refine w_box1 I (by (conv => lhs; whnf) <;> rfl) (by rfl) ?_); clear I; intro g w I) | ((with_reducible refine galloc ?_); refine w_alloc I ?_; clear I; intro g w I) | ((with_reducible refine gload ?_); first | refine w_loadB I (by rfl) (by first | (with_reducible repeat (first | exact .here | apply At.there)); done | repeat (first | exact .here | apply At.there)) (by rfl) ?_ | refine w_loadBR I (by rfl) (by first | (with_reducible repeat (first | exact .here | apply At.there)); done | repeat (first | exact .here | apply At.there)) (by rfl) ?_ | refine w_load0 I (by rfl) (by assumption) ?_) | ((with_reducible refine gstore ?_); (first | refine w_storeB I (by rfl) (by (conv => lhs; whnf) <;> rfl) (by first | (with_reducible repeat (first | exact .here | apply Upd.there)); done | repeat (first | exact .here | apply Upd.there)) (by rfl) (by rfl) (by simp only [List.set_cons_zero, List.set_cons_succ] <;> rfl) ?_ | refine w_storeBR I (by rfl) (by rfl) (by first | (with_reducible repeat (first | exact .here | apply Upd.there)); done | repeat (first | exact .here | apply Upd.there)) (by rfl) (by rfl) (by rfl) ?_); clear I; intro w I))
    have F := I.facts
    dsimp only [AllF, Asr.facts, Blk, OwnS] at F
    go_wp2_with ((go_at_call 50; go_must (refine (ref01_Right _ _).mono ?_; rintro _ w1 ⟨rfl, rfl⟩; rw [HQ.out])))
    all_goals first | (go_ret; exact ⟨by rw [HE.out]; first | rfl | simp, I.fr⟩) | omega
  have d_h2 : decide (x.m ≤ 1048575) = true := decide_eq_true h2
  by_cases h3 : (0 : Int) ≤ x.s
  case neg =>
    have d_h3 : decide ((0 : Int) ≤ x.s) = false := decide_eq_false h3
    have HE : Hid (Ser.right x = false) := Lib.hid (by unfold Ser.right; simp; omega)
    go_enter Try.func54, Try.ntmps54
    try dsimp only [List.append]
    go_upto_region 1 with (first | ((with_reducible refine gguard ?_); (first | refine w_guardT (by rfl) (fun hb => ?_) (fun hb => ?_) | refine w_guardF (by rfl) (fun hb => ?_) (fun hb => ?_)) <;> first | (cases hb; done) | cases hb | ((try rw [hb]) <;> (try simp at hb) <;> go_prune <;> (try (with_reducible replace hb := eqPair hb)))) | (((with_reducible refine gbox ?_); first | refine w_boxA I (by rfl) ?_ | refine w_box1 I (by (conv => lhs; whnf) <;> rfl) (by rfl) ?_); clear I; intro g w I) | ((with_reducible refine galloc ?_); refine w_alloc I ?_; clear I; intro g w I) | ((with_reducible refine gload ?_); first | refine w_loadB I (by rfl) (by first | (with_reducible repeat (first | exact .here | apply At.there)); done | repeat (first | exact .here | apply At.there)) (by rfl) ?_ | refine w_loadBR I (by rfl) (by first | (with_reducible repeat (first | exact .here | apply At.there)); done | repeat (first | exact .here | apply At.there)) (by rfl) ?_ | refine w_load0 I (by rfl) (by assumption) ?_) | ((with_reducible refine gstore ?_); (first | refine w_storeB I (by rfl) (by (conv => lhs; whnf) <;> rfl) (by first | (with_reducible repeat (first | exact .here | apply Upd.there)); done | repeat (first | exact .here | apply Upd.there)) (by rfl) (by rfl) (by simp only [List.set_cons_zero, List.set_cons_succ] <;> rfl) ?_ | refine w_storeBR I (by rfl) (by rfl) (by first | (with_reducible repeat (first | exact .here | apply Upd.there)); done | repeat (first | exact .here | apply Upd.there)) (by rfl) (by rfl) (by rfl) ?_); clear I; intro w I))
    have F := I.facts
    dsimp only [AllF, Asr.facts, Blk, OwnS] at F
    go_wp2_with ((go_at_call 50; go_must (refine (ref01_Right _ _).mono ?_; rintro _ w1 ⟨rfl, rfl⟩; rw [HQ.out])))
    all_goals first | (go_ret; exact ⟨by rw [HE.out]; first | rfl | simp, I.fr⟩) | omega
  have d_h3 : decide ((0 : Int) ≤ x.s) = true := decide_eq_true h3
  by_cases h4 : x.s ≤ 65535
  case neg =>
    have d_h4 : decide (x.s ≤ 65535) = false := decide_eq_false h4
    have HE : Hid (Ser.right x = false) := Lib.hid (by unfold Ser.right; simp; omega)
    go_enter Try.func54, Try.ntmps54
    try dsimp only [List.append]
    go_upto_region 1 with (first | ((with_reducible refine gguard ?_); (first | refine w_guardT (by rfl) (fun hb => ?_) (fun hb => ?_) | refine w_guardF (by rfl) (fun hb => ?_) (fun hb => ?_)) <;> first | (cases hb; done) | cases hb | ((try rw [hb]) <;> (try simp at hb) <;> go_prune <;> (try (with_reducible replace hb := eqPair hb)))) | (((with_reducible refine gbox ?_); first | refine w_boxA I (by rfl) ?_ | refine w_box1 I (by (conv => lhs; whnf) <;> rfl) (by rfl) ?_); clear I; intro g w I) | ((with_reducible refine galloc ?_); refine w_alloc I ?_; clear I; intro g w I) | ((with_reducible refine gload ?_); first | refine w_loadB I (by rfl) (by first | (with_reducible repeat (first | exact .here | apply At.there)); done | repeat (first | exact .here | apply At.there)) (by rfl) ?_ | refine w_loadBR I (by rfl) (by first | (with_reducible repeat (first | exact .here | apply At.there)); done | repeat (first | exact .here | apply At.there)) (by rfl) ?_ | refine w_load0 I (by rfl) (by assumption) ?_) | ((with_reducible refine gstore ?_); (first | refine w_storeB I (by rfl) (by (conv => lhs; whnf) <;> rfl) (by first | (with_reducible repeat (first | exact .here | apply Upd.there)); done | repeat (first | exact .here | apply Upd.there)) (by rfl) (by rfl) (by simp only [List.set_cons_zero, List.set_cons_succ] <;> rfl) ?_ | refine w_storeBR I (by rfl) (by rfl) (by first | (with_reducible repeat (first | exact .here | apply Upd.there)); done | repeat (first | exact .here | apply Upd.there)) (by rfl) (by rfl) (by rfl) ?_); clear I; intro w I))
    have F := I.facts
    dsimp only [AllF, Asr.facts, Blk, OwnS] at F
    go_wp2_with ((go_at_call 50; go_must (refine (ref01_Right _ _).mono ?_; rintro _ w1 ⟨rfl, rfl⟩; rw [HQ.out])))
    all_goals first | (go_ret; exact ⟨by rw [HE.out]; first | rfl | simp, I.fr⟩) | omega
  have d_h4 : decide (x.s ≤ 65535) = true := decide_eq_true h4
  have HE : Hid (Ser.right x = true) := Lib.hid (by unfold Ser.right; rw [HQ.out]; simp; omega)
  go_enter Try.func54, Try.ntmps54
  try dsimp only [List.append]
  go_upto_region 1 with (first | ((with_reducible refine gguard ?_); (first | refine w_guardT (by rfl) (fun hb => ?_) (fun hb => ?_) | refine w_guardF (by rfl) (fun hb => ?_) (fun hb => ?_)) <;> first | (cases hb; done) | cases hb | ((try rw [hb]) <;> (try simp at hb) <;> go_prune <;> (try (with_reducible replace hb := eqPair hb)))) | (((with_reducible refine gbox ?_); first | refine w_boxA I (by rfl) ?_ | refine w_box1 I (by (conv => lhs; whnf) <;> rfl) (by rfl) ?_); clear I; intro g w I) | ((with_reducible refine galloc ?_); refine w_alloc I ?_; clear I; intro g w I) | ((with_reducible refine gload ?_); first | refine w_loadB I (by rfl) (by first | (with_reducible repeat (first | exact .here | apply At.there)); done | repeat (first | exact .here | apply At.there)) (by rfl) ?_ | refine w_loadBR I (by rfl) (by first | (with_reducible repeat (first | exact .here | apply At.there)); done | repeat (first | exact .here | apply At.there)) (by rfl) ?_ | refine w_load0 I (by rfl) (by assumption) ?_) | ((with_reducible refine gstore ?_); (first | refine w_storeB I (by rfl) (by (conv => lhs; whnf) <;> rfl) (by first | (with_reducible repeat (first | exact .here | apply Upd.there)); done | repeat (first | exact .here | apply Upd.there)) (by rfl) (by rfl) (by simp only [List.set_cons_zero, List.set_cons_succ] <;> rfl) ?_ | refine w_storeBR I (by rfl) (by rfl) (by first | (with_reducible repeat (first | exact .here | apply Upd.there)); done | repeat (first | exact .here | apply Upd.there)) (by rfl) (by rfl) (by rfl) ?_); clear I; intro w I))
  have F := I.facts
  dsimp only [AllF, Asr.facts, Blk, OwnS] at F
  go_wp2_with ((go_at_call 50; go_must (refine (ref01_Right _ _).mono ?_; rintro _ w1 ⟨rfl, rfl⟩; rw [HQ.out])))
  all_goals first | (go_ret; exact ⟨by rw [HE.out]; first | rfl | simp, I.fr⟩) | omega
theorem ref06_May (a b : Int) (w : World) : Calls Try.prog 13 #[.int .i64 a, .int .i64 b] w fun e w' => e = .returned (.bool (Ser.may a b)) ∧ w = w' := by
  obtain ⟨q, hq⟩ : ∃ q : Bool, Ser.tenth a = q := ⟨_, rfl⟩
  have HQ := Lib.hid hq
  have HE : Hid (Ser.may a b = (q && decide (0 ≤ b) && decide (b < 1048576))) := Lib.hid (by unfold Ser.may; rw [hq])
  clear hq
  cases q with
  | false =>
    go_enter Try.func13, Try.ntmps13
    go_wp2_with ((go_at_call 50; go_must (refine (ref01_Right _ _).mono ?_; rintro _ w1 ⟨rfl, rfl⟩; rw [HQ.out])))
    all_goals first | (go_ret; exact ⟨by rw [HE.out]; rfl, rfl⟩) | omega
  | true =>
    by_cases h1 : 0 ≤ b
    · have d1 : decide ((0 : Int) ≤ b) = true := decide_eq_true h1
      by_cases h2 : b ≤ 1048575
      · have d2 : decide (b ≤ (1048575 : Int)) = true := decide_eq_true h2
        have d3 : decide (b < (1048576 : Int)) = true := decide_eq_true (by omega)
        rw [d1, d3] at HE
        go_enter Try.func13, Try.ntmps13
        go_wp2_with ((go_at_call 50; go_must (refine (ref01_Right _ _).mono ?_; rintro _ w1 ⟨rfl, rfl⟩; rw [HQ.out])))
        all_goals first | (go_ret; exact ⟨by rw [HE.out]; rfl, rfl⟩) | omega
      · have d2 : decide (b ≤ (1048575 : Int)) = false := decide_eq_false h2
        have d3 : decide (b < (1048576 : Int)) = false := decide_eq_false (by omega)
        rw [d1, d3] at HE
        go_enter Try.func13, Try.ntmps13
        go_wp2_with ((go_at_call 50; go_must (refine (ref01_Right _ _).mono ?_; rintro _ w1 ⟨rfl, rfl⟩; rw [HQ.out])))
        all_goals first | (go_ret; exact ⟨by rw [HE.out]; rfl, rfl⟩) | omega
    · have d1 : decide ((0 : Int) ≤ b) = false := decide_eq_false h1
      go_enter Try.func13, Try.ntmps13
      go_wp2_with ((go_at_call 50; go_must (refine (ref01_Right _ _).mono ?_; rintro _ w1 ⟨rfl, rfl⟩; rw [HQ.out])))
      all_goals first | (go_ret; exact ⟨by rw [HE.out, d1]; rfl, rfl⟩) | omega
/-- A series: its block, its readings. -/
abbrev SerO (g : Nat) (a b : Int) (l : List Rd) : Asr := ExS fun v : Value => AllS [Blk g [.int .i64 a, .int .i64 b, v] 91, OwnS 36 3 encR v l]
theorem SerO.open {g : Nat} {a b : Int} {l : List Rd} {w0 w : World} {L R : List Asr} (I : St w0 w L) (hA : At (SerO g a b l) L R) : ∃ v, St w0 w (Blk g [.int .i64 a, .int .i64 b, v] 91 :: OwnS 36 3 encR v l :: R) := by
  obtain ⟨v, I2⟩ := (I.take hA).ex
  exact ⟨v, I2.all⟩
theorem SerO.mk {g : Nat} {a b : Int} {l : List Rd} {v : Value} {w0 w : World} {L R1 R : List Asr} (I : St w0 w L) (h1 : At (OwnS 36 3 encR v l) L R1) (h2 : At (Blk g [.int .i64 a, .int .i64 b, v] 91) R1 R) : St w0 w (SerO g a b l :: R) :=
  St.mkEx v (St.mkAll (((I.take h1).take (.there h2)) : St w0 w (Blk g [.int .i64 a, .int .i64 b, v] 91 :: OwnS 36 3 encR v l :: R)))
theorem series_New_ok (a b : Int) (w0 w : World) (L : List Asr) (I : St w0 w L) (h : Ser.may a b = true) : Calls Try.prog 12 #[.int .i64 a, .int .i64 b] w fun e w' => ∃ g, e = .returned (.tuple #[.pointer (some ⟨g, 0, none⟩), .int .i64 0]) ∧ St w0 w' (SerO g a b [] :: L) := by
  have hq : Ser.tenth a = true ∧ 0 ≤ b ∧ b < 1048576 := by
    unfold Ser.may at h
    simp only [Bool.and_eq_true, decide_eq_true_eq] at h
    exact ⟨h.1.1, h.1.2, h.2⟩
  obtain ⟨hq1, h1, h2⟩ := hq
  have HQ := Lib.hid hq1
  clear h hq1
  go_enter Try.func12, Try.ntmps12
  try dsimp only [List.append]
  go_wp2_with (first | (first | ((with_reducible refine gguard ?_); (first | refine w_guardT (by rfl) (fun hb => ?_) (fun hb => ?_) | refine w_guardF (by rfl) (fun hb => ?_) (fun hb => ?_)) <;> first | (cases hb; done) | cases hb | ((try rw [hb]) <;> (try simp at hb) <;> go_prune <;> (try (with_reducible replace hb := eqPair hb)))) | (((with_reducible refine gbox ?_); first | refine w_boxA I (by rfl) ?_ | refine w_box1 I (by (conv => lhs; whnf) <;> rfl) (by rfl) ?_); clear I; intro g w I) | ((with_reducible refine galloc ?_); refine w_alloc I ?_; clear I; intro g w I) | ((with_reducible refine gload ?_); first | refine w_loadB I (by rfl) (by first | (with_reducible repeat (first | exact .here | apply At.there)); done | repeat (first | exact .here | apply At.there)) (by rfl) ?_ | refine w_loadBR I (by rfl) (by first | (with_reducible repeat (first | exact .here | apply At.there)); done | repeat (first | exact .here | apply At.there)) (by rfl) ?_ | refine w_load0 I (by rfl) (by assumption) ?_) | ((with_reducible refine gstore ?_); (first | refine w_storeB I (by rfl) (by (conv => lhs; whnf) <;> rfl) (by first | (with_reducible repeat (first | exact .here | apply Upd.there)); done | repeat (first | exact .here | apply Upd.there)) (by rfl) (by rfl) (by simp only [List.set_cons_zero, List.set_cons_succ] <;> rfl) ?_ | refine w_storeBR I (by rfl) (by rfl) (by first | (with_reducible repeat (first | exact .here | apply Upd.there)); done | repeat (first | exact .here | apply Upd.there)) (by rfl) (by rfl) (by rfl) ?_); clear I; intro w I)) | (go_at_call 49; go_must (refine (series_tenth _ _).mono ?_; rintro _ w1 ⟨rfl, rfl⟩; rw [HQ.out])))
  all_goals try omega
  exact ret_2 rfl (by first | (exact ResV.t _ (by rfl)) | (exact ResV.row I (by rfl) (by first | (with_reducible repeat (first | exact .here | apply At.there)); done | repeat (first | exact .here | apply At.there)) (by rfl)) | (exact ResV.one I (by rfl) (by first | (with_reducible repeat (first | exact .here | apply At.there)); done | repeat (first | exact .here | apply At.there)))) (by first | (exact ResV.t _ (by rfl)) | (exact ResV.row I (by rfl) (by first | (with_reducible repeat (first | exact .here | apply At.there)); done | repeat (first | exact .here | apply At.there)) (by rfl)) | (exact ResV.one I (by rfl) (by first | (with_reducible repeat (first | exact .here | apply At.there)); done | repeat (first | exact .here | apply At.there)))) rfl ⟨_, rfl, SerO.mk (I.nilOwn 36 3 encR) .here .here⟩
theorem series_New_no (a b : Int) (w : World) (h : Ser.may a b = false) : Calls Try.prog 12 #[.int .i64 a, .int .i64 b] w fun e w' => e = .returned (.tuple #[.pointer none, .int .i64 1]) ∧ w = w' := by
  obtain ⟨q, hq⟩ : ∃ q : Bool, Ser.tenth a = q := ⟨_, rfl⟩
  unfold Ser.may at h
  have HQ := Lib.hid hq
  rw [hq] at h
  clear hq
  cases q with
  | false =>
    clear h
    go_enter Try.func12, Try.ntmps12
    go_wp2_with ((go_at_call 49; go_must (refine (series_tenth _ _).mono ?_; rintro _ w1 ⟨rfl, rfl⟩; rw [HQ.out])))
    all_goals first | (go_ret2; exact ⟨rfl, rfl⟩) | omega
  | true =>
    have h3 : b < 0 ∨ (0 ≤ b ∧ 1048576 ≤ b) := by simp at h; omega
    clear h
    rcases h3 with h3 | ⟨h3, h4⟩
    · have d1 : decide (b < (0 : Int)) = true := decide_eq_true h3
      go_enter Try.func12, Try.ntmps12
      go_wp2_with ((go_at_call 49; go_must (refine (series_tenth _ _).mono ?_; rintro _ w1 ⟨rfl, rfl⟩; rw [HQ.out])))
      all_goals first | (go_ret2; exact ⟨rfl, rfl⟩) | omega
    · have d1 : decide (b < (0 : Int)) = false := decide_eq_false (by omega)
      have d2 : decide ((1048576 : Int) ≤ b) = true := decide_eq_true h4
      go_enter Try.func12, Try.ntmps12
      go_wp2_with ((go_at_call 49; go_must (refine (series_tenth _ _).mono ?_; rintro _ w1 ⟨rfl, rfl⟩; rw [HQ.out])))
      all_goals first | (go_ret2; exact ⟨rfl, rfl⟩) | omega
def Ser.orF : List Int → Int
  | [] => 0
  | x :: l => if x ≠ 0 then x else Ser.orF l
set_option maxHeartbeats 1000000 in
theorem cmp_Or (v : Value) (l : List Int) (w : World) (h : SlV 1 (flat encI) w v l) : Calls Try.prog 94 #[v] w fun e w' => e = .returned (.int .i64 (Ser.orF l)) ∧ w = w' := by
  have hm := h.len_le
  unfold maxLen at hm
  obtain ⟨A, _, c, rfl, rfl, _, _, _, hs⟩ := h
  have HS := Lib.hid hs
  clear hs
  go_enter Try.func94, Try.ntmps94
  go_wp2_with fail
  go_loop [8] (fun i => ∃ k : Nat, i = .int .i64 k ∧ k ≤ l.length ∧ Hid (Ser.orF (l.drop k) = Ser.orF l)) (fun i => l.length - (intOf i).toNat)
  case atStart => exact ⟨0, rfl, by omega, Lib.hid rfl⟩
  case round =>
    obtain ⟨k, rfl, hk, HA⟩ := hrel
    by_cases hlt : k < l.length
    · obtain ⟨b, o, rfl, hc⟩ := HS.out.atI k hlt
      have HN : Hid (Ser.orF (l.drop k) = if l[k] ≠ 0 then l[k] else Ser.orF (l.drop (k + 1))) := Lib.hid (by rw [List.drop_eq_getElem_cons hlt]; rfl)
      have hkl : (k : Int) < (l.length : Int) := by omega
      generalize l[k] = x at *
      by_cases hx : x = 0
      · have hxb : (x != 0) = false := by simp [hx]
        have HF : Hid (Ser.orF (l.drop (k + 1)) = Ser.orF l) := Lib.hid (by rw [← HA.out, HN.out, if_neg (by simp [hx])])
        clear hx
        go_wp2_with fail
        all_goals go_round
        case rel => exact ⟨k + 1, by go_num, by omega, HF⟩
        case measure => simp [intOf]; omega
      · have hxb : (x != 0) = true := by simpa using hx
        have HF : Hid (Ser.orF l = x) := Lib.hid (by rw [← HA.out, HN.out, if_pos hx])
        clear hx
        go_wp2_with fail
        go_ret
        exact ⟨by rw [HF.out]; rfl, rfl⟩
    · obtain rfl : k = l.length := by omega
      have HE : Hid (Ser.orF l = 0) := Lib.hid (by have := HA.out; rw [List.drop_length] at this; exact this.symm)
      go_wp2_with fail
      go_ret
      exact ⟨by rw [HE.out]; rfl, rfl⟩
theorem Ser.cmp_or (a b : Rd) : Ser.orF [a.m - b.m, a.s - b.s] = Ser.cmp a b := by
  unfold Ser.cmp Ser.orF Ser.orF Ser.orF
  split
  · rfl
  · split <;> omega
def Ser.small (a : Rd) : Prop := 0 ≤ a.m ∧ a.m < 1048576 ∧ 0 ≤ a.s ∧ a.s < 65536
set_option maxRecDepth 100000 in
theorem series_compare (a b : Rd) (w0 : World) (ha : Ser.small a) (hb : Ser.small b) : Calls Try.prog 52 #[aggR a, aggR b] w0 fun e w' => e = .returned (.int .i64 (Ser.cmp a b)) ∧ Fr w0 w' := by
  have I := St.refl w0
  have HE := Lib.hid (Ser.cmp_or a b)
  obtain ⟨a1, a2, a3, a4⟩ := ha
  obtain ⟨b1, b2, b3, b4⟩ := hb
  go_enter Try.func52, Try.ntmps52
  try dsimp only [List.append]
  go_wp2_with (first | (first | ((with_reducible refine gguard ?_); (first | refine w_guardT (by rfl) (fun hb => ?_) (fun hb => ?_) | refine w_guardF (by rfl) (fun hb => ?_) (fun hb => ?_)) <;> first | (cases hb; done) | cases hb | ((try rw [hb]) <;> (try simp at hb) <;> go_prune <;> (try (with_reducible replace hb := eqPair hb)))) | (((with_reducible refine gbox ?_); first | refine w_boxA I (by rfl) ?_ | refine w_box1 I (by (conv => lhs; whnf) <;> rfl) (by rfl) ?_); clear I; intro g w I) | ((with_reducible refine galloc ?_); refine w_alloc I ?_; clear I; intro g w I) | ((with_reducible refine gload ?_); first | refine w_loadB I (by rfl) (by first | (with_reducible repeat (first | exact .here | apply At.there)); done | repeat (first | exact .here | apply At.there)) (by rfl) ?_ | refine w_loadBR I (by rfl) (by first | (with_reducible repeat (first | exact .here | apply At.there)); done | repeat (first | exact .here | apply At.there)) (by rfl) ?_ | refine w_load0 I (by rfl) (by assumption) ?_) | ((with_reducible refine gstore ?_); (first | refine w_storeB I (by rfl) (by (conv => lhs; whnf) <;> rfl) (by first | (with_reducible repeat (first | exact .here | apply Upd.there)); done | repeat (first | exact .here | apply Upd.there)) (by rfl) (by rfl) (by simp only [List.set_cons_zero, List.set_cons_succ] <;> rfl) ?_ | refine w_storeBR I (by rfl) (by rfl) (by first | (with_reducible repeat (first | exact .here | apply Upd.there)); done | repeat (first | exact .here | apply Upd.there)) (by rfl) (by rfl) (by rfl) ?_); clear I; intro w I)) | (((with_reducible refine gbsr ?_); refine w_bsv (enc := encI) [a.m - b.m, a.s - b.s] (Value.int .i64) (fun _ => rfl) encI_len I (by rfl) (by rfl) (by decide) (by decide) (by decide) ?_); clear I; intro g w I) | (go_at_call 94; go_must (refine (cmp_Or _ [a.m - b.m, a.s - b.s] _ (I.slv .here encI_len)).mono ?_; rintro _ w1 ⟨rfl, rfl⟩; rw [HE.out])))
  all_goals try omega
  go_ret
  exact ⟨rfl, I.fr⟩
theorem atR {w : World} {A : Option Addr} {l : List Rd} (h : SlA 3 (flat encR) w A l) (i : Nat) (hi : i < l.length) : ∃ b o, A = some ⟨b, o, none⟩ ∧ w.cell? ⟨b, o + i * 3, none⟩ = some (.int .i64 l[i].m) ∧ w.cell? ⟨b, o + i * 3 + 1, none⟩ = some (.int .i64 l[i].s) ∧ w.cell? ⟨b, o + i * 3 + 2, none⟩ = some (.int .i64 l[i].t) := by
  obtain ⟨b, o, rfl, cs, _, rfl, h3⟩ := h.at_ i hi
  refine ⟨b, o, rfl, ?_, ?_, ?_⟩
  · have := h3 0 _ rfl; rwa [Nat.add_zero] at this
  · exact h3 1 _ rfl
  · exact h3 2 _ rfl
end Go.Proofs.Ytggeloihnbjogaa
