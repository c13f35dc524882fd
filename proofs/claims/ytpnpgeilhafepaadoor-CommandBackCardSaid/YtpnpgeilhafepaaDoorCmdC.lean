
/- Commands (layer 18): contracts of Numbers, Right, and of the reference's. -/
import Derived.Test.YtpnpgeilhafepaaDoorRows
import Derived.Test.YtpnpgeilhafepaaDoorCmd
import Derived.Test.YtpnpgeilhafepaaDoorOctS
import Derived.Test.YtpnpgeilhafepaaDoorStO
import Derived.Test.YtpnpgeilhafepaaDoorTypes
import Derived.Deep.CutBlock
namespace Go.Proofs.YtpnpgeilhafepaaDoor
open Go.RowKit Go.Hf

/-- The table of how many numbers kinds have. -/
def Tab (w : World) : Prop := ∀ i : Nat, i < 16 → w.cell? ⟨0, i, none⟩ = some (.int .i64 (Cmd.counts.getD i 0))
theorem Tab.fr {w w' : World} (h : Tab w) (hf : Fr w w') : Tab w' := fun i hi => hf.cell (h i hi)
abbrev aggM (m : Com) (A : Option Addr) (n c : Nat) : Value := .agg #[.int .i64 m.kind, .int .i64 m.a, .int .i64 m.b, .int .i64 m.c, .int .i64 m.d, .int .i64 m.e, .slice A n c]
abbrev agg5 (m : Com) : Value := .agg #[.int .i64 m.a, .int .i64 m.b, .int .i64 m.c, .int .i64 m.d, .int .i64 m.e]

set_option maxRecDepth 100000 in
theorem command_Numbers (k : Int) (w : World) (hT : Tab w) : Calls Tryd.prog 14 #[.int .i64 k] w fun e w' => e = .returned (.int .i64 (Cmd.numbers k)) ∧ w = w' := by
  unfold Cmd.numbers
  by_cases h : k < 0 ∨ 16 ≤ k
  · rw [if_pos h]
    clear hT
    rcases h with h | h
    · go_enter Tryd.func14, Tryd.ntmps14
      go_wp2_with fail
      all_goals first | (go_ret; exact ⟨rfl, rfl⟩) | omega
    · go_enter Tryd.func14, Tryd.ntmps14
      go_wp2_with fail
      all_goals first | (go_ret; exact ⟨rfl, rfl⟩) | omega
  · rw [if_neg h]
    obtain ⟨j, rfl⟩ : ∃ j : Nat, k = j := ⟨k.toNat, by omega⟩
    have hj : j < 16 := by omega
    have hc := hT j hj
    have h1 : ¬ ((j : Int) < 0) := by omega
    have h2 : ¬ ((16 : Int) ≤ (j : Int)) := by omega
    have h3 : (j : Int) < 16 := by omega
    rw [Int.toNat_natCast]
    generalize Cmd.counts.getD j 0 = x at hc
    clear hT h
    go_enter Tryd.func14, Tryd.ntmps14
    go_wp2_with fail
    all_goals first | (go_ret; exact ⟨rfl, rfl⟩) | omega
set_option maxRecDepth 100000 in
theorem ref18_Numbers (k : Int) (w : World) : Calls Tryd.prog 15 #[.int .i64 k] w fun e w' => e = .returned (.int .i64 (Cmd.numbers k)) ∧ w = w' := by
  by_cases h : k < 0 ∨ 16 ≤ k
  · have he : Cmd.numbers k = -1 := by unfold Cmd.numbers; rw [if_pos h]
    rw [he]
    have b0 : (k == 0) = false := beq_eq_false_iff_ne.2 (by omega)
    have b1 : (k == 1) = false := beq_eq_false_iff_ne.2 (by omega)
    have b2 : (k == 2) = false := beq_eq_false_iff_ne.2 (by omega)
    have b3 : (k == 3) = false := beq_eq_false_iff_ne.2 (by omega)
    have b4 : (k == 4) = false := beq_eq_false_iff_ne.2 (by omega)
    have b5 : (k == 5) = false := beq_eq_false_iff_ne.2 (by omega)
    have b6 : (k == 6) = false := beq_eq_false_iff_ne.2 (by omega)
    have b7 : (k == 7) = false := beq_eq_false_iff_ne.2 (by omega)
    have b8 : (k == 8) = false := beq_eq_false_iff_ne.2 (by omega)
    have b9 : (k == 9) = false := beq_eq_false_iff_ne.2 (by omega)
    have b10 : (k == 10) = false := beq_eq_false_iff_ne.2 (by omega)
    have b11 : (k == 11) = false := beq_eq_false_iff_ne.2 (by omega)
    have b12 : (k == 12) = false := beq_eq_false_iff_ne.2 (by omega)
    have b13 : (k == 13) = false := beq_eq_false_iff_ne.2 (by omega)
    have b14 : (k == 14) = false := beq_eq_false_iff_ne.2 (by omega)
    have b15 : (k == 15) = false := beq_eq_false_iff_ne.2 (by omega)
    clear h
    go_enter Tryd.func15, Tryd.ntmps15
    go_wp2_with fail
    go_ret
    exact ⟨rfl, rfl⟩
  · have h16 : k = 0 ∨ k = 1 ∨ k = 2 ∨ k = 3 ∨ k = 4 ∨ k = 5 ∨ k = 6 ∨ k = 7 ∨ k = 8 ∨ k = 9 ∨ k = 10 ∨ k = 11 ∨ k = 12 ∨ k = 13 ∨ k = 14 ∨ k = 15 := by omega
    rcases h16 with rfl | rfl | rfl | rfl | rfl | rfl | rfl | rfl | rfl | rfl | rfl | rfl | rfl | rfl | rfl | rfl
    all_goals
      clear h
      go_enter Tryd.func15, Tryd.ntmps15
      go_wp2_with fail
      go_ret
      exact ⟨rfl, rfl⟩
set_option maxRecDepth 100000 in
theorem command_numbers (m : Com) (A : Option Addr) (n c : Nat) (w0 : World) : Calls Tryd.prog 32 #[aggM m A n c] w0 fun e w' => e = .returned (agg5 m) ∧ Fr w0 w' := by
  have I := St.refl w0
  go_enter Tryd.func32, Tryd.ntmps32
  go_wp2_with (first | ((with_reducible refine gguard ?_); (first | refine w_guardT (by rfl) (fun hb => ?_) (fun hb => ?_) | refine w_guardF (by rfl) (fun hb => ?_) (fun hb => ?_)) <;> first | (cases hb; done) | cases hb | ((try rw [hb]) <;> (try simp at hb) <;> go_prune <;> (try (with_reducible replace hb := eqPair hb)))) | (((with_reducible refine gbox ?_); first | refine w_boxA I (by rfl) ?_ | refine w_box1 I (by (conv => lhs; whnf) <;> rfl) (by rfl) ?_); clear I; intro g w I) | ((with_reducible refine galloc ?_); refine w_alloc I ?_; clear I; intro g w I) | ((with_reducible refine gload ?_); first | refine w_loadB I (by rfl) (by first | (with_reducible repeat (first | exact .here | apply At.there)); done | repeat (first | exact .here | apply At.there)) (by rfl) ?_ | refine w_loadBR I (by rfl) (by first | (with_reducible repeat (first | exact .here | apply At.there)); done | repeat (first | exact .here | apply At.there)) (by rfl) ?_ | refine w_load0 I (by rfl) (by assumption) ?_) | ((with_reducible refine gstore ?_); (first | refine w_storeB I (by rfl) (by (conv => lhs; whnf) <;> rfl) (by first | (with_reducible repeat (first | exact .here | apply Upd.there)); done | repeat (first | exact .here | apply Upd.there)) (by rfl) (by rfl) (by simp only [List.set_cons_zero, List.set_cons_succ] <;> rfl) ?_ | refine w_storeBR I (by rfl) (by rfl) (by first | (with_reducible repeat (first | exact .here | apply Upd.there)); done | repeat (first | exact .here | apply Upd.there)) (by rfl) (by rfl) (by rfl) ?_); clear I; intro w I))
  exact ret_1 rfl (by first | (exact ResV.t _ (by rfl)) | (exact ResV.row I (by rfl) (by first | (with_reducible repeat (first | exact .here | apply At.there)); done | repeat (first | exact .here | apply At.there)) (by rfl)) | (exact ResV.one I (by rfl) (by first | (with_reducible repeat (first | exact .here | apply At.there)); done | repeat (first | exact .here | apply At.there)))) rfl ⟨rfl, I.fr⟩
set_option maxRecDepth 100000 in
theorem ref18_number (m : Com) (A : Option Addr) (n c : Nat) (i : Int) (x : Int) (w0 : World) (hi : 0 ≤ i ∧ i ≤ 4) (hx : (Cmd.nums m).getD i.toNat 0 = x) : Calls Tryd.prog 38 #[aggM m A n c, .int .i64 i] w0 fun e w' => e = .returned (.int .i64 x) ∧ Fr w0 w' := by
  subst hx
  have I := St.refl w0
  have h5 : i = 0 ∨ i = 1 ∨ i = 2 ∨ i = 3 ∨ i = 4 := by omega
  clear hi
  rcases h5 with rfl | rfl | rfl | rfl | rfl
  all_goals
    go_enter Tryd.func38, Tryd.ntmps38
    go_wp2_with (first | ((with_reducible refine gguard ?_); (first | refine w_guardT (by rfl) (fun hb => ?_) (fun hb => ?_) | refine w_guardF (by rfl) (fun hb => ?_) (fun hb => ?_)) <;> first | (cases hb; done) | cases hb | ((try rw [hb]) <;> (try simp at hb) <;> go_prune <;> (try (with_reducible replace hb := eqPair hb)))) | (((with_reducible refine gbox ?_); first | refine w_boxA I (by rfl) ?_ | refine w_box1 I (by (conv => lhs; whnf) <;> rfl) (by rfl) ?_); clear I; intro g w I) | ((with_reducible refine galloc ?_); refine w_alloc I ?_; clear I; intro g w I) | ((with_reducible refine gload ?_); first | refine w_loadB I (by rfl) (by first | (with_reducible repeat (first | exact .here | apply At.there)); done | repeat (first | exact .here | apply At.there)) (by rfl) ?_ | refine w_loadBR I (by rfl) (by first | (with_reducible repeat (first | exact .here | apply At.there)); done | repeat (first | exact .here | apply At.there)) (by rfl) ?_ | refine w_load0 I (by rfl) (by assumption) ?_) | ((with_reducible refine gstore ?_); (first | refine w_storeB I (by rfl) (by (conv => lhs; whnf) <;> rfl) (by first | (with_reducible repeat (first | exact .here | apply Upd.there)); done | repeat (first | exact .here | apply Upd.there)) (by rfl) (by rfl) (by simp only [List.set_cons_zero, List.set_cons_succ] <;> rfl) ?_ | refine w_storeBR I (by rfl) (by rfl) (by first | (with_reducible repeat (first | exact .here | apply Upd.there)); done | repeat (first | exact .here | apply Upd.there)) (by rfl) (by rfl) (by rfl) ?_); clear I; intro w I))
    go_ret
    exact ⟨rfl, I.fr⟩
namespace Cmd
def okAt (m : Com) (n : Int) (i : Nat) : Bool := decide ((i : Int) < n) || decide ((nums m).getD i 0 = 0)
def upTo (m : Com) (n : Int) (k : Nat) : Prop := ∀ j, j < k → okAt m n j = true
theorem upTo_zero (m : Com) (n : Int) : upTo m n 0 := fun _ h => by omega
theorem upTo_low (m : Com) (n : Int) (k : Nat) (h : (k : Int) ≤ n) : upTo m n k := fun j hj => by unfold okAt; rw [decide_eq_true (by omega)]; rfl
theorem upTo_succ (m : Com) (n : Int) (k : Nat) (h : upTo m n k) (hk : okAt m n k = true) : upTo m n (k + 1) := fun j hj => by
  by_cases e : j = k
  · subst e; exact hk
  · exact h j (by omega)
theorem rest_yes (m : Com) (n : Int) (h : upTo m n 5) : rest m n = true := by
  unfold rest
  rw [List.all_eq_true]
  intro i hi
  exact h i (by simpa using hi)
theorem rest_no (m : Com) (n : Int) (k : Nat) (hk : k < 5) (h : okAt m n k = false) : rest m n = false := by
  rw [Bool.eq_false_iff]
  intro hr
  unfold rest at hr
  rw [List.all_eq_true] at hr
  have := hr k (by simpa using hk)
  unfold okAt at h
  rw [h] at this
  cases this
theorem ok_low (m : Com) (n : Int) (k : Nat) (h : (k : Int) < n) : okAt m n k = true := by unfold okAt; rw [decide_eq_true h]; rfl
theorem ok_zero (m : Com) (n : Int) (k : Nat) (h : (nums m).getD k 0 = 0) : okAt m n k = true := by unfold okAt; rw [decide_eq_true h]; simp
theorem ok_no (m : Com) (n : Int) (k : Nat) (h1 : ¬ (k : Int) < n) (h : ¬ (nums m).getD k 0 = 0) : okAt m n k = false := by unfold okAt; rw [decide_eq_false h1, decide_eq_false h]; rfl
theorem right_rest (m : Com) (bs : List UInt8) (h1 : 0 ≤ numbers m.kind) (h2 : bs.length ≤ 64) (h3 : m.kind = 0 ∨ bs.length = 0) : right m bs = rest m (numbers m.kind) := by
  unfold right
  rw [decide_eq_true h1, decide_eq_true h2]
  rcases h3 with h3 | h3
  · rw [decide_eq_true h3]; rfl
  · rw [decide_eq_true h3]; simp
theorem right_no (m : Com) (bs : List UInt8) (h : numbers m.kind < 0 ∨ 64 < bs.length ∨ (m.kind ≠ 0 ∧ 0 < bs.length)) : right m bs = false := by
  rw [Bool.eq_false_iff]
  intro hr
  unfold right at hr
  simp only [Bool.and_eq_true, Bool.or_eq_true, decide_eq_true_eq] at hr
  obtain ⟨⟨⟨h1, h2⟩, h3⟩, _⟩ := hr
  rcases h with h | h | ⟨h, h'⟩
  · omega
  · omega
  · rcases h3 with h3 | h3 <;> omega
end Cmd
set_option maxRecDepth 100000 in
set_option maxHeartbeats 600000 in
theorem command_Right (m : Com) (A : Option Addr) (n c : Nat) (bs : List UInt8) (hn : n = bs.length) (hb : n ≤ 9223372036854775807) (w0 : World) (hT : Tab w0) : Calls Tryd.prog 16 #[aggM m A n c] w0 fun e w' => e = .returned (.bool (Cmd.right m bs)) ∧ Fr w0 w' := by
  have I := St.refl w0
  obtain ⟨q, hq⟩ : ∃ q : Int, Cmd.numbers m.kind = q := ⟨_, rfl⟩
  have HL := Lib.hid hn
  clear hn
  have HN := Lib.hid hq
  have hv := Cmd.numbers_vals m.kind
  rw [hq] at hv
  clear hq
  by_cases h1 : q < 0
  · have HE : Hid (Cmd.right m bs = false) := Lib.hid (Cmd.right_no m bs (.inl (by rw [HN.out]; exact h1)))
    have d1 : decide (q < 0) = true := decide_eq_true h1
    clear hv
    go_enter Tryd.func16, Tryd.ntmps16
    go_upto_region 2 with (first | (first | ((with_reducible refine gguard ?_); (first | refine w_guardT (by rfl) (fun hb => ?_) (fun hb => ?_) | refine w_guardF (by rfl) (fun hb => ?_) (fun hb => ?_)) <;> first | (cases hb; done) | cases hb | ((try rw [hb]) <;> (try simp at hb) <;> go_prune <;> (try (with_reducible replace hb := eqPair hb)))) | (((with_reducible refine gbox ?_); first | refine w_boxA I (by rfl) ?_ | refine w_box1 I (by (conv => lhs; whnf) <;> rfl) (by rfl) ?_); clear I; intro g w I) | ((with_reducible refine galloc ?_); refine w_alloc I ?_; clear I; intro g w I) | ((with_reducible refine gload ?_); first | refine w_loadB I (by rfl) (by first | (with_reducible repeat (first | exact .here | apply At.there)); done | repeat (first | exact .here | apply At.there)) (by rfl) ?_ | refine w_loadBR I (by rfl) (by first | (with_reducible repeat (first | exact .here | apply At.there)); done | repeat (first | exact .here | apply At.there)) (by rfl) ?_ | refine w_load0 I (by rfl) (by assumption) ?_) | ((with_reducible refine gstore ?_); (first | refine w_storeB I (by rfl) (by (conv => lhs; whnf) <;> rfl) (by first | (with_reducible repeat (first | exact .here | apply Upd.there)); done | repeat (first | exact .here | apply Upd.there)) (by rfl) (by rfl) (by simp only [List.set_cons_zero, List.set_cons_succ] <;> rfl) ?_ | refine w_storeBR I (by rfl) (by rfl) (by first | (with_reducible repeat (first | exact .here | apply Upd.there)); done | repeat (first | exact .here | apply Upd.there)) (by rfl) (by rfl) (by rfl) ?_); clear I; intro w I)) | (go_at_call 14; go_must (refine (command_Numbers _ _ (hT.fr I.fr)).mono ?_; rintro _ w1 ⟨rfl, rfl⟩; rw [HN.out])))
    have F := I.facts
    dsimp only [AllF, Asr.facts, Blk, OwnS] at F
    go_wp2_with fail
    all_goals first | (go_ret; exact ⟨by rw [HE.out]; rfl, I.fr⟩) | omega
  · have d1 : decide (q < 0) = false := decide_eq_false h1
    by_cases h2 : 64 < n
    · have HE : Hid (Cmd.right m bs = false) := Lib.hid (Cmd.right_no m bs (.inr (.inl (by have := HL.out; omega))))
      have d2 : decide ((64 : Int) < (n : Int)) = true := decide_eq_true (by omega)
      clear hv
      go_enter Tryd.func16, Tryd.ntmps16
      go_upto_region 2 with (first | (first | ((with_reducible refine gguard ?_); (first | refine w_guardT (by rfl) (fun hb => ?_) (fun hb => ?_) | refine w_guardF (by rfl) (fun hb => ?_) (fun hb => ?_)) <;> first | (cases hb; done) | cases hb | ((try rw [hb]) <;> (try simp at hb) <;> go_prune <;> (try (with_reducible replace hb := eqPair hb)))) | (((with_reducible refine gbox ?_); first | refine w_boxA I (by rfl) ?_ | refine w_box1 I (by (conv => lhs; whnf) <;> rfl) (by rfl) ?_); clear I; intro g w I) | ((with_reducible refine galloc ?_); refine w_alloc I ?_; clear I; intro g w I) | ((with_reducible refine gload ?_); first | refine w_loadB I (by rfl) (by first | (with_reducible repeat (first | exact .here | apply At.there)); done | repeat (first | exact .here | apply At.there)) (by rfl) ?_ | refine w_loadBR I (by rfl) (by first | (with_reducible repeat (first | exact .here | apply At.there)); done | repeat (first | exact .here | apply At.there)) (by rfl) ?_ | refine w_load0 I (by rfl) (by assumption) ?_) | ((with_reducible refine gstore ?_); (first | refine w_storeB I (by rfl) (by (conv => lhs; whnf) <;> rfl) (by first | (with_reducible repeat (first | exact .here | apply Upd.there)); done | repeat (first | exact .here | apply Upd.there)) (by rfl) (by rfl) (by simp only [List.set_cons_zero, List.set_cons_succ] <;> rfl) ?_ | refine w_storeBR I (by rfl) (by rfl) (by first | (with_reducible repeat (first | exact .here | apply Upd.there)); done | repeat (first | exact .here | apply Upd.there)) (by rfl) (by rfl) (by rfl) ?_); clear I; intro w I)) | (go_at_call 14; go_must (refine (command_Numbers _ _ (hT.fr I.fr)).mono ?_; rintro _ w1 ⟨rfl, rfl⟩; rw [HN.out])))
      have F := I.facts
      dsimp only [AllF, Asr.facts, Blk, OwnS] at F
      go_wp2_with fail
      all_goals first | (go_ret; exact ⟨by rw [HE.out]; rfl, I.fr⟩) | omega
    · have d2 : decide ((64 : Int) < (n : Int)) = false := decide_eq_false (by omega)
      by_cases h3 : m.kind ≠ 0 ∧ 0 < n
      · have HE : Hid (Cmd.right m bs = false) := Lib.hid (Cmd.right_no m bs (.inr (.inr ⟨h3.1, by have := HL.out; omega⟩)))
        have hkb : (m.kind != 0) = true := by simpa using h3.1
        have d3 : decide ((0 : Int) < (n : Int)) = true := decide_eq_true (by omega)
        have h32 := h3.2
        clear h3 hv
        go_enter Tryd.func16, Tryd.ntmps16
        go_upto_region 2 with (first | (first | ((with_reducible refine gguard ?_); (first | refine w_guardT (by rfl) (fun hb => ?_) (fun hb => ?_) | refine w_guardF (by rfl) (fun hb => ?_) (fun hb => ?_)) <;> first | (cases hb; done) | cases hb | ((try rw [hb]) <;> (try simp at hb) <;> go_prune <;> (try (with_reducible replace hb := eqPair hb)))) | (((with_reducible refine gbox ?_); first | refine w_boxA I (by rfl) ?_ | refine w_box1 I (by (conv => lhs; whnf) <;> rfl) (by rfl) ?_); clear I; intro g w I) | ((with_reducible refine galloc ?_); refine w_alloc I ?_; clear I; intro g w I) | ((with_reducible refine gload ?_); first | refine w_loadB I (by rfl) (by first | (with_reducible repeat (first | exact .here | apply At.there)); done | repeat (first | exact .here | apply At.there)) (by rfl) ?_ | refine w_loadBR I (by rfl) (by first | (with_reducible repeat (first | exact .here | apply At.there)); done | repeat (first | exact .here | apply At.there)) (by rfl) ?_ | refine w_load0 I (by rfl) (by assumption) ?_) | ((with_reducible refine gstore ?_); (first | refine w_storeB I (by rfl) (by (conv => lhs; whnf) <;> rfl) (by first | (with_reducible repeat (first | exact .here | apply Upd.there)); done | repeat (first | exact .here | apply Upd.there)) (by rfl) (by rfl) (by simp only [List.set_cons_zero, List.set_cons_succ] <;> rfl) ?_ | refine w_storeBR I (by rfl) (by rfl) (by first | (with_reducible repeat (first | exact .here | apply Upd.there)); done | repeat (first | exact .here | apply Upd.there)) (by rfl) (by rfl) (by rfl) ?_); clear I; intro w I)) | (go_at_call 14; go_must (refine (command_Numbers _ _ (hT.fr I.fr)).mono ?_; rintro _ w1 ⟨rfl, rfl⟩; rw [HN.out])))
        have F := I.facts
        dsimp only [AllF, Asr.facts, Blk, OwnS] at F
        go_wp2_with fail
        all_goals first | (go_ret; exact ⟨by rw [HE.out]; rfl, I.fr⟩) | omega
      · have hq5 : 0 ≤ q ∧ q ≤ 5 := by omega
        have HR : Hid (Cmd.right m bs = Cmd.rest m q) := Lib.hid (by rw [← HN.out]; exact Cmd.right_rest m bs (by rw [HN.out]; omega) (by have := HL.out; omega) (by have := HL.out; omega))
        obtain ⟨hq0, hq1⟩ := hq5
        clear hv
        rw [HR.out]
        by_cases hk0 : m.kind = 0
        · have hkb : (m.kind != 0) = false := by simp [hk0]
          clear h3 hk0
          go_enter Tryd.func16, Tryd.ntmps16
          go_upto_region 2 with (first | (first | ((with_reducible refine gguard ?_); (first | refine w_guardT (by rfl) (fun hb => ?_) (fun hb => ?_) | refine w_guardF (by rfl) (fun hb => ?_) (fun hb => ?_)) <;> first | (cases hb; done) | cases hb | ((try rw [hb]) <;> (try simp at hb) <;> go_prune <;> (try (with_reducible replace hb := eqPair hb)))) | (((with_reducible refine gbox ?_); first | refine w_boxA I (by rfl) ?_ | refine w_box1 I (by (conv => lhs; whnf) <;> rfl) (by rfl) ?_); clear I; intro g w I) | ((with_reducible refine galloc ?_); refine w_alloc I ?_; clear I; intro g w I) | ((with_reducible refine gload ?_); first | refine w_loadB I (by rfl) (by first | (with_reducible repeat (first | exact .here | apply At.there)); done | repeat (first | exact .here | apply At.there)) (by rfl) ?_ | refine w_loadBR I (by rfl) (by first | (with_reducible repeat (first | exact .here | apply At.there)); done | repeat (first | exact .here | apply At.there)) (by rfl) ?_ | refine w_load0 I (by rfl) (by assumption) ?_) | ((with_reducible refine gstore ?_); (first | refine w_storeB I (by rfl) (by (conv => lhs; whnf) <;> rfl) (by first | (with_reducible repeat (first | exact .here | apply Upd.there)); done | repeat (first | exact .here | apply Upd.there)) (by rfl) (by rfl) (by simp only [List.set_cons_zero, List.set_cons_succ] <;> rfl) ?_ | refine w_storeBR I (by rfl) (by rfl) (by first | (with_reducible repeat (first | exact .here | apply Upd.there)); done | repeat (first | exact .here | apply Upd.there)) (by rfl) (by rfl) (by rfl) ?_); clear I; intro w I)) | (go_at_call 14; go_must (refine (command_Numbers _ _ (hT.fr I.fr)).mono ?_; rintro _ w1 ⟨rfl, rfl⟩; rw [HN.out])))
          have F := I.facts
          dsimp only [AllF, Asr.facts, Blk, OwnS] at F
          go_upto_region 4 with fail
          clear F
          go_wp2_with (first | (first | ((with_reducible refine gguard ?_); (first | refine w_guardT (by rfl) (fun hb => ?_) (fun hb => ?_) | refine w_guardF (by rfl) (fun hb => ?_) (fun hb => ?_)) <;> first | (cases hb; done) | cases hb | ((try rw [hb]) <;> (try simp at hb) <;> go_prune <;> (try (with_reducible replace hb := eqPair hb)))) | (((with_reducible refine gbox ?_); first | refine w_boxA I (by rfl) ?_ | refine w_box1 I (by (conv => lhs; whnf) <;> rfl) (by rfl) ?_); clear I; intro g w I) | ((with_reducible refine galloc ?_); refine w_alloc I ?_; clear I; intro g w I) | ((with_reducible refine gload ?_); first | refine w_loadB I (by rfl) (by first | (with_reducible repeat (first | exact .here | apply At.there)); done | repeat (first | exact .here | apply At.there)) (by rfl) ?_ | refine w_loadBR I (by rfl) (by first | (with_reducible repeat (first | exact .here | apply At.there)); done | repeat (first | exact .here | apply At.there)) (by rfl) ?_ | refine w_load0 I (by rfl) (by assumption) ?_) | ((with_reducible refine gstore ?_); (first | refine w_storeB I (by rfl) (by (conv => lhs; whnf) <;> rfl) (by first | (with_reducible repeat (first | exact .here | apply Upd.there)); done | repeat (first | exact .here | apply Upd.there)) (by rfl) (by rfl) (by simp only [List.set_cons_zero, List.set_cons_succ] <;> rfl) ?_ | refine w_storeBR I (by rfl) (by rfl) (by first | (with_reducible repeat (first | exact .here | apply Upd.there)); done | repeat (first | exact .here | apply Upd.there)) (by rfl) (by rfl) (by rfl) ?_); clear I; intro w I)) | (go_at_call 14; go_must (refine (command_Numbers _ _ (hT.fr I.fr)).mono ?_; rintro _ w1 ⟨rfl, rfl⟩; rw [HN.out])) | (go_at_call 32; go_must (refine (command_numbers m A n c _).mono ?_; rintro _ w1 ⟨rfl, hf⟩; replace I := I.still hf; clear hf)))
          all_goals try omega
          have I2 : St w0 w [Blk g ([.int .i64 m.a, .int .i64 m.b, .int .i64 m.c, .int .i64 m.d, .int .i64 m.e]) 50] := I.pick .here
          clear I
          go_loopw [30] (fun i wr => ∃ k : Nat, i = .int .i64 k ∧ k ≤ 5 ∧ Hid (Cmd.upTo m q k) ∧ St w0 wr [Blk g ([.int .i64 m.a, .int .i64 m.b, .int .i64 m.c, .int .i64 m.d, .int .i64 m.e]) 50]) (fun i _ => 5 - (intOf i).toNat)
          case atStart => exact ⟨0, rfl, by omega, Cmd.upTo_zero m q, I2⟩
          case round =>
            clear I2
            obtain ⟨k, rfl, hk, hU, I⟩ := hrel
            have h8 : k = 0 ∨ k = 1 ∨ k = 2 ∨ k = 3 ∨ k = 4 ∨ k = 5 := by omega
            rcases h8 with rfl | rfl | rfl | rfl | rfl | rfl
            · by_cases c1 : (0 : Int) < q
              · have HS := Lib.hid (Cmd.upTo_succ m q 0 hU.out (Cmd.ok_low m q 0 c1))
                have c1b : decide (q ≤ (0 : Int)) = false := decide_eq_false (by omega)
                have F := I.facts
                dsimp only [AllF, Asr.facts, Blk, OwnS] at F
                go_wp2_with fail
                clear F
                all_goals try omega
                go_roundw
                case rel => exact ⟨0 + 1, rfl, by omega, HS, I⟩
                case measure => simp [intOf]
              · have c1b : decide (q ≤ (0 : Int)) = true := decide_eq_true (by omega)
                by_cases c2 : m.a = 0
                · have HS := Lib.hid (Cmd.upTo_succ m q 0 hU.out (Cmd.ok_zero m q 0 c2))
                  have c2b : (m.a != 0) = false := by simp [c2]
                  clear c2
                  have F := I.facts
                  dsimp only [AllF, Asr.facts, Blk, OwnS] at F
                  go_wp2_with fail
                  clear F
                  all_goals try omega
                  go_roundw
                  case rel => exact ⟨0 + 1, rfl, by omega, HS, I⟩
                  case measure => simp [intOf]
                · have HE := Lib.hid (Cmd.rest_no m q 0 (by decide) (Cmd.ok_no m q 0 c1 c2))
                  have c2b : (m.a != 0) = true := by simpa using c2
                  clear c2
                  have F := I.facts
                  dsimp only [AllF, Asr.facts, Blk, OwnS] at F
                  go_wp2_with fail
                  clear F
                  all_goals try omega
                  go_ret
                  exact ⟨by rw [HE.out]; rfl, I.fr⟩
            · by_cases c1 : (1 : Int) < q
              · have HS := Lib.hid (Cmd.upTo_succ m q 1 hU.out (Cmd.ok_low m q 1 c1))
                have c1b : decide (q ≤ (1 : Int)) = false := decide_eq_false (by omega)
                have F := I.facts
                dsimp only [AllF, Asr.facts, Blk, OwnS] at F
                go_wp2_with fail
                clear F
                all_goals try omega
                go_roundw
                case rel => exact ⟨1 + 1, rfl, by omega, HS, I⟩
                case measure => simp [intOf]
              · have c1b : decide (q ≤ (1 : Int)) = true := decide_eq_true (by omega)
                by_cases c2 : m.b = 0
                · have HS := Lib.hid (Cmd.upTo_succ m q 1 hU.out (Cmd.ok_zero m q 1 c2))
                  have c2b : (m.b != 0) = false := by simp [c2]
                  clear c2
                  have F := I.facts
                  dsimp only [AllF, Asr.facts, Blk, OwnS] at F
                  go_wp2_with fail
                  clear F
                  all_goals try omega
                  go_roundw
                  case rel => exact ⟨1 + 1, rfl, by omega, HS, I⟩
                  case measure => simp [intOf]
                · have HE := Lib.hid (Cmd.rest_no m q 1 (by decide) (Cmd.ok_no m q 1 c1 c2))
                  have c2b : (m.b != 0) = true := by simpa using c2
                  clear c2
                  have F := I.facts
                  dsimp only [AllF, Asr.facts, Blk, OwnS] at F
                  go_wp2_with fail
                  clear F
                  all_goals try omega
                  go_ret
                  exact ⟨by rw [HE.out]; rfl, I.fr⟩
            · by_cases c1 : (2 : Int) < q
              · have HS := Lib.hid (Cmd.upTo_succ m q 2 hU.out (Cmd.ok_low m q 2 c1))
                have c1b : decide (q ≤ (2 : Int)) = false := decide_eq_false (by omega)
                have F := I.facts
                dsimp only [AllF, Asr.facts, Blk, OwnS] at F
                go_wp2_with fail
                clear F
                all_goals try omega
                go_roundw
                case rel => exact ⟨2 + 1, rfl, by omega, HS, I⟩
                case measure => simp [intOf]
              · have c1b : decide (q ≤ (2 : Int)) = true := decide_eq_true (by omega)
                by_cases c2 : m.c = 0
                · have HS := Lib.hid (Cmd.upTo_succ m q 2 hU.out (Cmd.ok_zero m q 2 c2))
                  have c2b : (m.c != 0) = false := by simp [c2]
                  clear c2
                  have F := I.facts
                  dsimp only [AllF, Asr.facts, Blk, OwnS] at F
                  go_wp2_with fail
                  clear F
                  all_goals try omega
                  go_roundw
                  case rel => exact ⟨2 + 1, rfl, by omega, HS, I⟩
                  case measure => simp [intOf]
                · have HE := Lib.hid (Cmd.rest_no m q 2 (by decide) (Cmd.ok_no m q 2 c1 c2))
                  have c2b : (m.c != 0) = true := by simpa using c2
                  clear c2
                  have F := I.facts
                  dsimp only [AllF, Asr.facts, Blk, OwnS] at F
                  go_wp2_with fail
                  clear F
                  all_goals try omega
                  go_ret
                  exact ⟨by rw [HE.out]; rfl, I.fr⟩
            · by_cases c1 : (3 : Int) < q
              · have HS := Lib.hid (Cmd.upTo_succ m q 3 hU.out (Cmd.ok_low m q 3 c1))
                have c1b : decide (q ≤ (3 : Int)) = false := decide_eq_false (by omega)
                have F := I.facts
                dsimp only [AllF, Asr.facts, Blk, OwnS] at F
                go_wp2_with fail
                clear F
                all_goals try omega
                go_roundw
                case rel => exact ⟨3 + 1, rfl, by omega, HS, I⟩
                case measure => simp [intOf]
              · have c1b : decide (q ≤ (3 : Int)) = true := decide_eq_true (by omega)
                by_cases c2 : m.d = 0
                · have HS := Lib.hid (Cmd.upTo_succ m q 3 hU.out (Cmd.ok_zero m q 3 c2))
                  have c2b : (m.d != 0) = false := by simp [c2]
                  clear c2
                  have F := I.facts
                  dsimp only [AllF, Asr.facts, Blk, OwnS] at F
                  go_wp2_with fail
                  clear F
                  all_goals try omega
                  go_roundw
                  case rel => exact ⟨3 + 1, rfl, by omega, HS, I⟩
                  case measure => simp [intOf]
                · have HE := Lib.hid (Cmd.rest_no m q 3 (by decide) (Cmd.ok_no m q 3 c1 c2))
                  have c2b : (m.d != 0) = true := by simpa using c2
                  clear c2
                  have F := I.facts
                  dsimp only [AllF, Asr.facts, Blk, OwnS] at F
                  go_wp2_with fail
                  clear F
                  all_goals try omega
                  go_ret
                  exact ⟨by rw [HE.out]; rfl, I.fr⟩
            · by_cases c1 : (4 : Int) < q
              · have HS := Lib.hid (Cmd.upTo_succ m q 4 hU.out (Cmd.ok_low m q 4 c1))
                have c1b : decide (q ≤ (4 : Int)) = false := decide_eq_false (by omega)
                have F := I.facts
                dsimp only [AllF, Asr.facts, Blk, OwnS] at F
                go_wp2_with fail
                clear F
                all_goals try omega
                go_roundw
                case rel => exact ⟨4 + 1, rfl, by omega, HS, I⟩
                case measure => simp [intOf]
              · have c1b : decide (q ≤ (4 : Int)) = true := decide_eq_true (by omega)
                by_cases c2 : m.e = 0
                · have HS := Lib.hid (Cmd.upTo_succ m q 4 hU.out (Cmd.ok_zero m q 4 c2))
                  have c2b : (m.e != 0) = false := by simp [c2]
                  clear c2
                  have F := I.facts
                  dsimp only [AllF, Asr.facts, Blk, OwnS] at F
                  go_wp2_with fail
                  clear F
                  all_goals try omega
                  go_roundw
                  case rel => exact ⟨4 + 1, rfl, by omega, HS, I⟩
                  case measure => simp [intOf]
                · have HE := Lib.hid (Cmd.rest_no m q 4 (by decide) (Cmd.ok_no m q 4 c1 c2))
                  have c2b : (m.e != 0) = true := by simpa using c2
                  clear c2
                  have F := I.facts
                  dsimp only [AllF, Asr.facts, Blk, OwnS] at F
                  go_wp2_with fail
                  clear F
                  all_goals try omega
                  go_ret
                  exact ⟨by rw [HE.out]; rfl, I.fr⟩
            · have HE := Lib.hid (Cmd.rest_yes m q hU.out)
              go_wp2_with (first | ((with_reducible refine gguard ?_); (first | refine w_guardT (by rfl) (fun hb => ?_) (fun hb => ?_) | refine w_guardF (by rfl) (fun hb => ?_) (fun hb => ?_)) <;> first | (cases hb; done) | cases hb | ((try rw [hb]) <;> (try simp at hb) <;> go_prune <;> (try (with_reducible replace hb := eqPair hb)))) | (((with_reducible refine gbox ?_); first | refine w_boxA I (by rfl) ?_ | refine w_box1 I (by (conv => lhs; whnf) <;> rfl) (by rfl) ?_); clear I; intro g w I) | ((with_reducible refine galloc ?_); refine w_alloc I ?_; clear I; intro g w I) | ((with_reducible refine gload ?_); first | refine w_loadB I (by rfl) (by first | (with_reducible repeat (first | exact .here | apply At.there)); done | repeat (first | exact .here | apply At.there)) (by rfl) ?_ | refine w_loadBR I (by rfl) (by first | (with_reducible repeat (first | exact .here | apply At.there)); done | repeat (first | exact .here | apply At.there)) (by rfl) ?_ | refine w_load0 I (by rfl) (by assumption) ?_) | ((with_reducible refine gstore ?_); (first | refine w_storeB I (by rfl) (by (conv => lhs; whnf) <;> rfl) (by first | (with_reducible repeat (first | exact .here | apply Upd.there)); done | repeat (first | exact .here | apply Upd.there)) (by rfl) (by rfl) (by simp only [List.set_cons_zero, List.set_cons_succ] <;> rfl) ?_ | refine w_storeBR I (by rfl) (by rfl) (by first | (with_reducible repeat (first | exact .here | apply Upd.there)); done | repeat (first | exact .here | apply Upd.there)) (by rfl) (by rfl) (by rfl) ?_); clear I; intro w I))
              go_ret
              exact ⟨by rw [HE.out]; rfl, I.fr⟩
        · have hkb : (m.kind != 0) = true := by simpa using hk0
          have d3 : decide ((0 : Int) < (n : Int)) = false := decide_eq_false (by omega)
          have hn0 : ¬ 0 < n := by omega
          clear h3
          go_enter Tryd.func16, Tryd.ntmps16
          go_upto_region 2 with (first | (first | ((with_reducible refine gguard ?_); (first | refine w_guardT (by rfl) (fun hb => ?_) (fun hb => ?_) | refine w_guardF (by rfl) (fun hb => ?_) (fun hb => ?_)) <;> first | (cases hb; done) | cases hb | ((try rw [hb]) <;> (try simp at hb) <;> go_prune <;> (try (with_reducible replace hb := eqPair hb)))) | (((with_reducible refine gbox ?_); first | refine w_boxA I (by rfl) ?_ | refine w_box1 I (by (conv => lhs; whnf) <;> rfl) (by rfl) ?_); clear I; intro g w I) | ((with_reducible refine galloc ?_); refine w_alloc I ?_; clear I; intro g w I) | ((with_reducible refine gload ?_); first | refine w_loadB I (by rfl) (by first | (with_reducible repeat (first | exact .here | apply At.there)); done | repeat (first | exact .here | apply At.there)) (by rfl) ?_ | refine w_loadBR I (by rfl) (by first | (with_reducible repeat (first | exact .here | apply At.there)); done | repeat (first | exact .here | apply At.there)) (by rfl) ?_ | refine w_load0 I (by rfl) (by assumption) ?_) | ((with_reducible refine gstore ?_); (first | refine w_storeB I (by rfl) (by (conv => lhs; whnf) <;> rfl) (by first | (with_reducible repeat (first | exact .here | apply Upd.there)); done | repeat (first | exact .here | apply Upd.there)) (by rfl) (by rfl) (by simp only [List.set_cons_zero, List.set_cons_succ] <;> rfl) ?_ | refine w_storeBR I (by rfl) (by rfl) (by first | (with_reducible repeat (first | exact .here | apply Upd.there)); done | repeat (first | exact .here | apply Upd.there)) (by rfl) (by rfl) (by rfl) ?_); clear I; intro w I)) | (go_at_call 14; go_must (refine (command_Numbers _ _ (hT.fr I.fr)).mono ?_; rintro _ w1 ⟨rfl, rfl⟩; rw [HN.out])))
          have F := I.facts
          dsimp only [AllF, Asr.facts, Blk, OwnS] at F
          go_upto_region 4 with fail
          clear F
          go_wp2_with (first | (first | ((with_reducible refine gguard ?_); (first | refine w_guardT (by rfl) (fun hb => ?_) (fun hb => ?_) | refine w_guardF (by rfl) (fun hb => ?_) (fun hb => ?_)) <;> first | (cases hb; done) | cases hb | ((try rw [hb]) <;> (try simp at hb) <;> go_prune <;> (try (with_reducible replace hb := eqPair hb)))) | (((with_reducible refine gbox ?_); first | refine w_boxA I (by rfl) ?_ | refine w_box1 I (by (conv => lhs; whnf) <;> rfl) (by rfl) ?_); clear I; intro g w I) | ((with_reducible refine galloc ?_); refine w_alloc I ?_; clear I; intro g w I) | ((with_reducible refine gload ?_); first | refine w_loadB I (by rfl) (by first | (with_reducible repeat (first | exact .here | apply At.there)); done | repeat (first | exact .here | apply At.there)) (by rfl) ?_ | refine w_loadBR I (by rfl) (by first | (with_reducible repeat (first | exact .here | apply At.there)); done | repeat (first | exact .here | apply At.there)) (by rfl) ?_ | refine w_load0 I (by rfl) (by assumption) ?_) | ((with_reducible refine gstore ?_); (first | refine w_storeB I (by rfl) (by (conv => lhs; whnf) <;> rfl) (by first | (with_reducible repeat (first | exact .here | apply Upd.there)); done | repeat (first | exact .here | apply Upd.there)) (by rfl) (by rfl) (by simp only [List.set_cons_zero, List.set_cons_succ] <;> rfl) ?_ | refine w_storeBR I (by rfl) (by rfl) (by first | (with_reducible repeat (first | exact .here | apply Upd.there)); done | repeat (first | exact .here | apply Upd.there)) (by rfl) (by rfl) (by rfl) ?_); clear I; intro w I)) | (go_at_call 14; go_must (refine (command_Numbers _ _ (hT.fr I.fr)).mono ?_; rintro _ w1 ⟨rfl, rfl⟩; rw [HN.out])) | (go_at_call 32; go_must (refine (command_numbers m A n c _).mono ?_; rintro _ w1 ⟨rfl, hf⟩; replace I := I.still hf; clear hf)))
          all_goals try omega
          have I2 : St w0 w [Blk g ([.int .i64 m.a, .int .i64 m.b, .int .i64 m.c, .int .i64 m.d, .int .i64 m.e]) 50] := I.pick .here
          clear I
          go_loopw [30] (fun i wr => ∃ k : Nat, i = .int .i64 k ∧ k ≤ 5 ∧ Hid (Cmd.upTo m q k) ∧ St w0 wr [Blk g ([.int .i64 m.a, .int .i64 m.b, .int .i64 m.c, .int .i64 m.d, .int .i64 m.e]) 50]) (fun i _ => 5 - (intOf i).toNat)
          case atStart => exact ⟨0, rfl, by omega, Cmd.upTo_zero m q, I2⟩
          case round =>
            clear I2
            obtain ⟨k, rfl, hk, hU, I⟩ := hrel
            have h8 : k = 0 ∨ k = 1 ∨ k = 2 ∨ k = 3 ∨ k = 4 ∨ k = 5 := by omega
            rcases h8 with rfl | rfl | rfl | rfl | rfl | rfl
            · by_cases c1 : (0 : Int) < q
              · have HS := Lib.hid (Cmd.upTo_succ m q 0 hU.out (Cmd.ok_low m q 0 c1))
                have c1b : decide (q ≤ (0 : Int)) = false := decide_eq_false (by omega)
                have F := I.facts
                dsimp only [AllF, Asr.facts, Blk, OwnS] at F
                go_wp2_with fail
                clear F
                all_goals try omega
                go_roundw
                case rel => exact ⟨0 + 1, rfl, by omega, HS, I⟩
                case measure => simp [intOf]
              · have c1b : decide (q ≤ (0 : Int)) = true := decide_eq_true (by omega)
                by_cases c2 : m.a = 0
                · have HS := Lib.hid (Cmd.upTo_succ m q 0 hU.out (Cmd.ok_zero m q 0 c2))
                  have c2b : (m.a != 0) = false := by simp [c2]
                  clear c2
                  have F := I.facts
                  dsimp only [AllF, Asr.facts, Blk, OwnS] at F
                  go_wp2_with fail
                  clear F
                  all_goals try omega
                  go_roundw
                  case rel => exact ⟨0 + 1, rfl, by omega, HS, I⟩
                  case measure => simp [intOf]
                · have HE := Lib.hid (Cmd.rest_no m q 0 (by decide) (Cmd.ok_no m q 0 c1 c2))
                  have c2b : (m.a != 0) = true := by simpa using c2
                  clear c2
                  have F := I.facts
                  dsimp only [AllF, Asr.facts, Blk, OwnS] at F
                  go_wp2_with fail
                  clear F
                  all_goals try omega
                  go_ret
                  exact ⟨by rw [HE.out]; rfl, I.fr⟩
            · by_cases c1 : (1 : Int) < q
              · have HS := Lib.hid (Cmd.upTo_succ m q 1 hU.out (Cmd.ok_low m q 1 c1))
                have c1b : decide (q ≤ (1 : Int)) = false := decide_eq_false (by omega)
                have F := I.facts
                dsimp only [AllF, Asr.facts, Blk, OwnS] at F
                go_wp2_with fail
                clear F
                all_goals try omega
                go_roundw
                case rel => exact ⟨1 + 1, rfl, by omega, HS, I⟩
                case measure => simp [intOf]
              · have c1b : decide (q ≤ (1 : Int)) = true := decide_eq_true (by omega)
                by_cases c2 : m.b = 0
                · have HS := Lib.hid (Cmd.upTo_succ m q 1 hU.out (Cmd.ok_zero m q 1 c2))
                  have c2b : (m.b != 0) = false := by simp [c2]
                  clear c2
                  have F := I.facts
                  dsimp only [AllF, Asr.facts, Blk, OwnS] at F
                  go_wp2_with fail
                  clear F
                  all_goals try omega
                  go_roundw
                  case rel => exact ⟨1 + 1, rfl, by omega, HS, I⟩
                  case measure => simp [intOf]
                · have HE := Lib.hid (Cmd.rest_no m q 1 (by decide) (Cmd.ok_no m q 1 c1 c2))
                  have c2b : (m.b != 0) = true := by simpa using c2
                  clear c2
                  have F := I.facts
                  dsimp only [AllF, Asr.facts, Blk, OwnS] at F
                  go_wp2_with fail
                  clear F
                  all_goals try omega
                  go_ret
                  exact ⟨by rw [HE.out]; rfl, I.fr⟩
            · by_cases c1 : (2 : Int) < q
              · have HS := Lib.hid (Cmd.upTo_succ m q 2 hU.out (Cmd.ok_low m q 2 c1))
                have c1b : decide (q ≤ (2 : Int)) = false := decide_eq_false (by omega)
                have F := I.facts
                dsimp only [AllF, Asr.facts, Blk, OwnS] at F
                go_wp2_with fail
                clear F
                all_goals try omega
                go_roundw
                case rel => exact ⟨2 + 1, rfl, by omega, HS, I⟩
                case measure => simp [intOf]
              · have c1b : decide (q ≤ (2 : Int)) = true := decide_eq_true (by omega)
                by_cases c2 : m.c = 0
                · have HS := Lib.hid (Cmd.upTo_succ m q 2 hU.out (Cmd.ok_zero m q 2 c2))
                  have c2b : (m.c != 0) = false := by simp [c2]
                  clear c2
                  have F := I.facts
                  dsimp only [AllF, Asr.facts, Blk, OwnS] at F
                  go_wp2_with fail
                  clear F
                  all_goals try omega
                  go_roundw
                  case rel => exact ⟨2 + 1, rfl, by omega, HS, I⟩
                  case measure => simp [intOf]
                · have HE := Lib.hid (Cmd.rest_no m q 2 (by decide) (Cmd.ok_no m q 2 c1 c2))
                  have c2b : (m.c != 0) = true := by simpa using c2
                  clear c2
                  have F := I.facts
                  dsimp only [AllF, Asr.facts, Blk, OwnS] at F
                  go_wp2_with fail
                  clear F
                  all_goals try omega
                  go_ret
                  exact ⟨by rw [HE.out]; rfl, I.fr⟩
            · by_cases c1 : (3 : Int) < q
              · have HS := Lib.hid (Cmd.upTo_succ m q 3 hU.out (Cmd.ok_low m q 3 c1))
                have c1b : decide (q ≤ (3 : Int)) = false := decide_eq_false (by omega)
                have F := I.facts
                dsimp only [AllF, Asr.facts, Blk, OwnS] at F
                go_wp2_with fail
                clear F
                all_goals try omega
                go_roundw
                case rel => exact ⟨3 + 1, rfl, by omega, HS, I⟩
                case measure => simp [intOf]
              · have c1b : decide (q ≤ (3 : Int)) = true := decide_eq_true (by omega)
                by_cases c2 : m.d = 0
                · have HS := Lib.hid (Cmd.upTo_succ m q 3 hU.out (Cmd.ok_zero m q 3 c2))
                  have c2b : (m.d != 0) = false := by simp [c2]
                  clear c2
                  have F := I.facts
                  dsimp only [AllF, Asr.facts, Blk, OwnS] at F
                  go_wp2_with fail
                  clear F
                  all_goals try omega
                  go_roundw
                  case rel => exact ⟨3 + 1, rfl, by omega, HS, I⟩
                  case measure => simp [intOf]
                · have HE := Lib.hid (Cmd.rest_no m q 3 (by decide) (Cmd.ok_no m q 3 c1 c2))
                  have c2b : (m.d != 0) = true := by simpa using c2
                  clear c2
                  have F := I.facts
                  dsimp only [AllF, Asr.facts, Blk, OwnS] at F
                  go_wp2_with fail
                  clear F
                  all_goals try omega
                  go_ret
                  exact ⟨by rw [HE.out]; rfl, I.fr⟩
            · by_cases c1 : (4 : Int) < q
              · have HS := Lib.hid (Cmd.upTo_succ m q 4 hU.out (Cmd.ok_low m q 4 c1))
                have c1b : decide (q ≤ (4 : Int)) = false := decide_eq_false (by omega)
                have F := I.facts
                dsimp only [AllF, Asr.facts, Blk, OwnS] at F
                go_wp2_with fail
                clear F
                all_goals try omega
                go_roundw
                case rel => exact ⟨4 + 1, rfl, by omega, HS, I⟩
                case measure => simp [intOf]
              · have c1b : decide (q ≤ (4 : Int)) = true := decide_eq_true (by omega)
                by_cases c2 : m.e = 0
                · have HS := Lib.hid (Cmd.upTo_succ m q 4 hU.out (Cmd.ok_zero m q 4 c2))
                  have c2b : (m.e != 0) = false := by simp [c2]
                  clear c2
                  have F := I.facts
                  dsimp only [AllF, Asr.facts, Blk, OwnS] at F
                  go_wp2_with fail
                  clear F
                  all_goals try omega
                  go_roundw
                  case rel => exact ⟨4 + 1, rfl, by omega, HS, I⟩
                  case measure => simp [intOf]
                · have HE := Lib.hid (Cmd.rest_no m q 4 (by decide) (Cmd.ok_no m q 4 c1 c2))
                  have c2b : (m.e != 0) = true := by simpa using c2
                  clear c2
                  have F := I.facts
                  dsimp only [AllF, Asr.facts, Blk, OwnS] at F
                  go_wp2_with fail
                  clear F
                  all_goals try omega
                  go_ret
                  exact ⟨by rw [HE.out]; rfl, I.fr⟩
            · have HE := Lib.hid (Cmd.rest_yes m q hU.out)
              go_wp2_with (first | ((with_reducible refine gguard ?_); (first | refine w_guardT (by rfl) (fun hb => ?_) (fun hb => ?_) | refine w_guardF (by rfl) (fun hb => ?_) (fun hb => ?_)) <;> first | (cases hb; done) | cases hb | ((try rw [hb]) <;> (try simp at hb) <;> go_prune <;> (try (with_reducible replace hb := eqPair hb)))) | (((with_reducible refine gbox ?_); first | refine w_boxA I (by rfl) ?_ | refine w_box1 I (by (conv => lhs; whnf) <;> rfl) (by rfl) ?_); clear I; intro g w I) | ((with_reducible refine galloc ?_); refine w_alloc I ?_; clear I; intro g w I) | ((with_reducible refine gload ?_); first | refine w_loadB I (by rfl) (by first | (with_reducible repeat (first | exact .here | apply At.there)); done | repeat (first | exact .here | apply At.there)) (by rfl) ?_ | refine w_loadBR I (by rfl) (by first | (with_reducible repeat (first | exact .here | apply At.there)); done | repeat (first | exact .here | apply At.there)) (by rfl) ?_ | refine w_load0 I (by rfl) (by assumption) ?_) | ((with_reducible refine gstore ?_); (first | refine w_storeB I (by rfl) (by (conv => lhs; whnf) <;> rfl) (by first | (with_reducible repeat (first | exact .here | apply Upd.there)); done | repeat (first | exact .here | apply Upd.there)) (by rfl) (by rfl) (by simp only [List.set_cons_zero, List.set_cons_succ] <;> rfl) ?_ | refine w_storeBR I (by rfl) (by rfl) (by first | (with_reducible repeat (first | exact .here | apply Upd.there)); done | repeat (first | exact .here | apply Upd.there)) (by rfl) (by rfl) (by rfl) ?_); clear I; intro w I))
              go_ret
              exact ⟨by rw [HE.out]; rfl, I.fr⟩
set_option maxRecDepth 100000 in
set_option maxHeartbeats 600000 in
theorem ref18_Right (m : Com) (A : Option Addr) (n c : Nat) (bs : List UInt8) (hn : n = bs.length) (hb : n ≤ 9223372036854775807) (w0 : World) : Calls Tryd.prog 17 #[aggM m A n c] w0 fun e w' => e = .returned (.bool (Cmd.right m bs)) ∧ Fr w0 w' := by
  have I := St.refl w0
  obtain ⟨q, hq⟩ : ∃ q : Int, Cmd.numbers m.kind = q := ⟨_, rfl⟩
  have HL := Lib.hid hn
  clear hn
  have HN := Lib.hid hq
  have hv := Cmd.numbers_vals m.kind
  rw [hq] at hv
  clear hq
  by_cases h1 : q < 0
  · have HE : Hid (Cmd.right m bs = false) := Lib.hid (Cmd.right_no m bs (.inl (by rw [HN.out]; exact h1)))
    have d1 : decide (q < 0) = true := decide_eq_true h1
    clear hv
    go_enter Tryd.func17, Tryd.ntmps17
    go_upto_region 2 with (first | (first | ((with_reducible refine gguard ?_); (first | refine w_guardT (by rfl) (fun hb => ?_) (fun hb => ?_) | refine w_guardF (by rfl) (fun hb => ?_) (fun hb => ?_)) <;> first | (cases hb; done) | cases hb | ((try rw [hb]) <;> (try simp at hb) <;> go_prune <;> (try (with_reducible replace hb := eqPair hb)))) | (((with_reducible refine gbox ?_); first | refine w_boxA I (by rfl) ?_ | refine w_box1 I (by (conv => lhs; whnf) <;> rfl) (by rfl) ?_); clear I; intro g w I) | ((with_reducible refine galloc ?_); refine w_alloc I ?_; clear I; intro g w I) | ((with_reducible refine gload ?_); first | refine w_loadB I (by rfl) (by first | (with_reducible repeat (first | exact .here | apply At.there)); done | repeat (first | exact .here | apply At.there)) (by rfl) ?_ | refine w_loadBR I (by rfl) (by first | (with_reducible repeat (first | exact .here | apply At.there)); done | repeat (first | exact .here | apply At.there)) (by rfl) ?_ | refine w_load0 I (by rfl) (by assumption) ?_) | ((with_reducible refine gstore ?_); (first | refine w_storeB I (by rfl) (by (conv => lhs; whnf) <;> rfl) (by first | (with_reducible repeat (first | exact .here | apply Upd.there)); done | repeat (first | exact .here | apply Upd.there)) (by rfl) (by rfl) (by simp only [List.set_cons_zero, List.set_cons_succ] <;> rfl) ?_ | refine w_storeBR I (by rfl) (by rfl) (by first | (with_reducible repeat (first | exact .here | apply Upd.there)); done | repeat (first | exact .here | apply Upd.there)) (by rfl) (by rfl) (by rfl) ?_); clear I; intro w I)) | (go_at_call 15; go_must (refine (ref18_Numbers _ _).mono ?_; rintro _ w1 ⟨rfl, rfl⟩; rw [HN.out])))
    have F := I.facts
    dsimp only [AllF, Asr.facts, Blk, OwnS] at F
    go_wp2_with fail
    all_goals first | (go_ret; exact ⟨by rw [HE.out]; rfl, I.fr⟩) | omega
  · have d1 : decide (q < 0) = false := decide_eq_false h1
    by_cases h2 : 64 < n
    · have HE : Hid (Cmd.right m bs = false) := Lib.hid (Cmd.right_no m bs (.inr (.inl (by have := HL.out; omega))))
      have d2 : decide ((64 : Int) < (n : Int)) = true := decide_eq_true (by omega)
      clear hv
      go_enter Tryd.func17, Tryd.ntmps17
      go_upto_region 2 with (first | (first | ((with_reducible refine gguard ?_); (first | refine w_guardT (by rfl) (fun hb => ?_) (fun hb => ?_) | refine w_guardF (by rfl) (fun hb => ?_) (fun hb => ?_)) <;> first | (cases hb; done) | cases hb | ((try rw [hb]) <;> (try simp at hb) <;> go_prune <;> (try (with_reducible replace hb := eqPair hb)))) | (((with_reducible refine gbox ?_); first | refine w_boxA I (by rfl) ?_ | refine w_box1 I (by (conv => lhs; whnf) <;> rfl) (by rfl) ?_); clear I; intro g w I) | ((with_reducible refine galloc ?_); refine w_alloc I ?_; clear I; intro g w I) | ((with_reducible refine gload ?_); first | refine w_loadB I (by rfl) (by first | (with_reducible repeat (first | exact .here | apply At.there)); done | repeat (first | exact .here | apply At.there)) (by rfl) ?_ | refine w_loadBR I (by rfl) (by first | (with_reducible repeat (first | exact .here | apply At.there)); done | repeat (first | exact .here | apply At.there)) (by rfl) ?_ | refine w_load0 I (by rfl) (by assumption) ?_) | ((with_reducible refine gstore ?_); (first | refine w_storeB I (by rfl) (by (conv => lhs; whnf) <;> rfl) (by first | (with_reducible repeat (first | exact .here | apply Upd.there)); done | repeat (first | exact .here | apply Upd.there)) (by rfl) (by rfl) (by simp only [List.set_cons_zero, List.set_cons_succ] <;> rfl) ?_ | refine w_storeBR I (by rfl) (by rfl) (by first | (with_reducible repeat (first | exact .here | apply Upd.there)); done | repeat (first | exact .here | apply Upd.there)) (by rfl) (by rfl) (by rfl) ?_); clear I; intro w I)) | (go_at_call 15; go_must (refine (ref18_Numbers _ _).mono ?_; rintro _ w1 ⟨rfl, rfl⟩; rw [HN.out])))
      have F := I.facts
      dsimp only [AllF, Asr.facts, Blk, OwnS] at F
      go_wp2_with fail
      all_goals first | (go_ret; exact ⟨by rw [HE.out]; rfl, I.fr⟩) | omega
    · have d2 : decide ((64 : Int) < (n : Int)) = false := decide_eq_false (by omega)
      by_cases h3 : m.kind ≠ 0 ∧ 0 < n
      · have HE : Hid (Cmd.right m bs = false) := Lib.hid (Cmd.right_no m bs (.inr (.inr ⟨h3.1, by have := HL.out; omega⟩)))
        have hkb : (m.kind != 0) = true := by simpa using h3.1
        have d3 : decide ((0 : Int) < (n : Int)) = true := decide_eq_true (by omega)
        have h32 := h3.2
        clear h3 hv
        go_enter Tryd.func17, Tryd.ntmps17
        go_upto_region 2 with (first | (first | ((with_reducible refine gguard ?_); (first | refine w_guardT (by rfl) (fun hb => ?_) (fun hb => ?_) | refine w_guardF (by rfl) (fun hb => ?_) (fun hb => ?_)) <;> first | (cases hb; done) | cases hb | ((try rw [hb]) <;> (try simp at hb) <;> go_prune <;> (try (with_reducible replace hb := eqPair hb)))) | (((with_reducible refine gbox ?_); first | refine w_boxA I (by rfl) ?_ | refine w_box1 I (by (conv => lhs; whnf) <;> rfl) (by rfl) ?_); clear I; intro g w I) | ((with_reducible refine galloc ?_); refine w_alloc I ?_; clear I; intro g w I) | ((with_reducible refine gload ?_); first | refine w_loadB I (by rfl) (by first | (with_reducible repeat (first | exact .here | apply At.there)); done | repeat (first | exact .here | apply At.there)) (by rfl) ?_ | refine w_loadBR I (by rfl) (by first | (with_reducible repeat (first | exact .here | apply At.there)); done | repeat (first | exact .here | apply At.there)) (by rfl) ?_ | refine w_load0 I (by rfl) (by assumption) ?_) | ((with_reducible refine gstore ?_); (first | refine w_storeB I (by rfl) (by (conv => lhs; whnf) <;> rfl) (by first | (with_reducible repeat (first | exact .here | apply Upd.there)); done | repeat (first | exact .here | apply Upd.there)) (by rfl) (by rfl) (by simp only [List.set_cons_zero, List.set_cons_succ] <;> rfl) ?_ | refine w_storeBR I (by rfl) (by rfl) (by first | (with_reducible repeat (first | exact .here | apply Upd.there)); done | repeat (first | exact .here | apply Upd.there)) (by rfl) (by rfl) (by rfl) ?_); clear I; intro w I)) | (go_at_call 15; go_must (refine (ref18_Numbers _ _).mono ?_; rintro _ w1 ⟨rfl, rfl⟩; rw [HN.out])))
        have F := I.facts
        dsimp only [AllF, Asr.facts, Blk, OwnS] at F
        go_wp2_with fail
        all_goals first | (go_ret; exact ⟨by rw [HE.out]; rfl, I.fr⟩) | omega
      · have hq5 : 0 ≤ q ∧ q ≤ 5 := by omega
        have HR : Hid (Cmd.right m bs = Cmd.rest m q) := Lib.hid (by rw [← HN.out]; exact Cmd.right_rest m bs (by rw [HN.out]; omega) (by have := HL.out; omega) (by have := HL.out; omega))
        obtain ⟨hq0, hq1⟩ := hq5
        clear hv
        rw [HR.out]
        by_cases hk0 : m.kind = 0
        · have hkb : (m.kind != 0) = false := by simp [hk0]
          clear h3 hk0
          go_enter Tryd.func17, Tryd.ntmps17
          go_upto_region 2 with (first | ((with_reducible refine gbox (ty := 25) ?_); (first | refine w_boxA I (by rfl) ?_ | refine w_box1 I (by (conv => lhs; whnf) <;> rfl) (by rfl) ?_); clear I; intro gb w I) | (first | ((with_reducible refine gguard ?_); (first | refine w_guardT (by rfl) (fun hb => ?_) (fun hb => ?_) | refine w_guardF (by rfl) (fun hb => ?_) (fun hb => ?_)) <;> first | (cases hb; done) | cases hb | ((try rw [hb]) <;> (try simp at hb) <;> go_prune <;> (try (with_reducible replace hb := eqPair hb)))) | (((with_reducible refine gbox ?_); first | refine w_boxA I (by rfl) ?_ | refine w_box1 I (by (conv => lhs; whnf) <;> rfl) (by rfl) ?_); clear I; intro g w I) | ((with_reducible refine galloc ?_); refine w_alloc I ?_; clear I; intro g w I) | ((with_reducible refine gload ?_); first | refine w_loadB I (by rfl) (by first | (with_reducible repeat (first | exact .here | apply At.there)); done | repeat (first | exact .here | apply At.there)) (by rfl) ?_ | refine w_loadBR I (by rfl) (by first | (with_reducible repeat (first | exact .here | apply At.there)); done | repeat (first | exact .here | apply At.there)) (by rfl) ?_ | refine w_load0 I (by rfl) (by assumption) ?_) | ((with_reducible refine gstore ?_); (first | refine w_storeB I (by rfl) (by (conv => lhs; whnf) <;> rfl) (by first | (with_reducible repeat (first | exact .here | apply Upd.there)); done | repeat (first | exact .here | apply Upd.there)) (by rfl) (by rfl) (by simp only [List.set_cons_zero, List.set_cons_succ] <;> rfl) ?_ | refine w_storeBR I (by rfl) (by rfl) (by first | (with_reducible repeat (first | exact .here | apply Upd.there)); done | repeat (first | exact .here | apply Upd.there)) (by rfl) (by rfl) (by rfl) ?_); clear I; intro w I)) | (go_at_call 15; go_must (refine (ref18_Numbers _ _).mono ?_; rintro _ w1 ⟨rfl, rfl⟩; rw [HN.out])))
          have F := I.facts
          dsimp only [AllF, Asr.facts, Blk, OwnS] at F
          go_upto_region 4 with fail
          clear F
          go_wp2_with (first | (first | ((with_reducible refine gguard ?_); (first | refine w_guardT (by rfl) (fun hb => ?_) (fun hb => ?_) | refine w_guardF (by rfl) (fun hb => ?_) (fun hb => ?_)) <;> first | (cases hb; done) | cases hb | ((try rw [hb]) <;> (try simp at hb) <;> go_prune <;> (try (with_reducible replace hb := eqPair hb)))) | (((with_reducible refine gbox ?_); first | refine w_boxA I (by rfl) ?_ | refine w_box1 I (by (conv => lhs; whnf) <;> rfl) (by rfl) ?_); clear I; intro g w I) | ((with_reducible refine galloc ?_); refine w_alloc I ?_; clear I; intro g w I) | ((with_reducible refine gload ?_); first | refine w_loadB I (by rfl) (by first | (with_reducible repeat (first | exact .here | apply At.there)); done | repeat (first | exact .here | apply At.there)) (by rfl) ?_ | refine w_loadBR I (by rfl) (by first | (with_reducible repeat (first | exact .here | apply At.there)); done | repeat (first | exact .here | apply At.there)) (by rfl) ?_ | refine w_load0 I (by rfl) (by assumption) ?_) | ((with_reducible refine gstore ?_); (first | refine w_storeB I (by rfl) (by (conv => lhs; whnf) <;> rfl) (by first | (with_reducible repeat (first | exact .here | apply Upd.there)); done | repeat (first | exact .here | apply Upd.there)) (by rfl) (by rfl) (by simp only [List.set_cons_zero, List.set_cons_succ] <;> rfl) ?_ | refine w_storeBR I (by rfl) (by rfl) (by first | (with_reducible repeat (first | exact .here | apply Upd.there)); done | repeat (first | exact .here | apply Upd.there)) (by rfl) (by rfl) (by rfl) ?_); clear I; intro w I)) | (go_at_call 15; go_must (refine (ref18_Numbers _ _).mono ?_; rintro _ w1 ⟨rfl, rfl⟩; rw [HN.out])))
          all_goals try omega
          have I2 : St w0 w [Blk gb ([.int .i64 m.kind, .int .i64 m.a, .int .i64 m.b, .int .i64 m.c, .int .i64 m.d, .int .i64 m.e, .slice A n c]) 25] := I.pick .here
          clear I
          go_loopw [4] (fun i wr => ∃ k : Nat, i = .int .i64 k ∧ k ≤ 5 ∧ q ≤ k ∧ Hid (Cmd.upTo m q k) ∧ St w0 wr [Blk gb ([.int .i64 m.kind, .int .i64 m.a, .int .i64 m.b, .int .i64 m.c, .int .i64 m.d, .int .i64 m.e, .slice A n c]) 25]) (fun i _ => 5 - (intOf i).toNat)
          case atStart => exact ⟨q.toNat, by rw [Int.toNat_of_nonneg hq0], by omega, by omega, Cmd.upTo_low m q _ (by omega), I2⟩
          case round =>
            clear I2
            obtain ⟨k, rfl, hk, hqk, hU, I⟩ := hrel
            have h8 : k = 0 ∨ k = 1 ∨ k = 2 ∨ k = 3 ∨ k = 4 ∨ k = 5 := by omega
            rcases h8 with rfl | rfl | rfl | rfl | rfl | rfl
            · by_cases c2 : m.a = 0
              · have HS := Lib.hid (Cmd.upTo_succ m q 0 hU.out (Cmd.ok_zero m q 0 c2))
                have c2b : (m.a != 0) = false := by simp [c2]
                clear c2
                have F := I.facts
                dsimp only [AllF, Asr.facts, Blk, OwnS] at F
                go_wp2_with (first | (go_at_call 38; go_must (refine (ref18_number m A n c 0 m.a _ (by decide) rfl).mono ?_; rintro _ w1 ⟨rfl, hf⟩; replace I := I.still hf; clear hf F)))
                all_goals try omega
                go_roundw
                case rel => exact ⟨0 + 1, rfl, by omega, by omega, HS, I⟩
                case measure => simp [intOf]
              · have HE := Lib.hid (Cmd.rest_no m q 0 (by decide) (Cmd.ok_no m q 0 (by omega) c2))
                have c2b : (m.a != 0) = true := by simpa using c2
                clear c2
                have F := I.facts
                dsimp only [AllF, Asr.facts, Blk, OwnS] at F
                go_wp2_with (first | (go_at_call 38; go_must (refine (ref18_number m A n c 0 m.a _ (by decide) rfl).mono ?_; rintro _ w1 ⟨rfl, hf⟩; replace I := I.still hf; clear hf F)))
                all_goals try omega
                go_ret
                exact ⟨by rw [HE.out]; rfl, I.fr⟩
            · by_cases c2 : m.b = 0
              · have HS := Lib.hid (Cmd.upTo_succ m q 1 hU.out (Cmd.ok_zero m q 1 c2))
                have c2b : (m.b != 0) = false := by simp [c2]
                clear c2
                have F := I.facts
                dsimp only [AllF, Asr.facts, Blk, OwnS] at F
                go_wp2_with (first | (go_at_call 38; go_must (refine (ref18_number m A n c 1 m.b _ (by decide) rfl).mono ?_; rintro _ w1 ⟨rfl, hf⟩; replace I := I.still hf; clear hf F)))
                all_goals try omega
                go_roundw
                case rel => exact ⟨1 + 1, rfl, by omega, by omega, HS, I⟩
                case measure => simp [intOf]
              · have HE := Lib.hid (Cmd.rest_no m q 1 (by decide) (Cmd.ok_no m q 1 (by omega) c2))
                have c2b : (m.b != 0) = true := by simpa using c2
                clear c2
                have F := I.facts
                dsimp only [AllF, Asr.facts, Blk, OwnS] at F
                go_wp2_with (first | (go_at_call 38; go_must (refine (ref18_number m A n c 1 m.b _ (by decide) rfl).mono ?_; rintro _ w1 ⟨rfl, hf⟩; replace I := I.still hf; clear hf F)))
                all_goals try omega
                go_ret
                exact ⟨by rw [HE.out]; rfl, I.fr⟩
            · by_cases c2 : m.c = 0
              · have HS := Lib.hid (Cmd.upTo_succ m q 2 hU.out (Cmd.ok_zero m q 2 c2))
                have c2b : (m.c != 0) = false := by simp [c2]
                clear c2
                have F := I.facts
                dsimp only [AllF, Asr.facts, Blk, OwnS] at F
                go_wp2_with (first | (go_at_call 38; go_must (refine (ref18_number m A n c 2 m.c _ (by decide) rfl).mono ?_; rintro _ w1 ⟨rfl, hf⟩; replace I := I.still hf; clear hf F)))
                all_goals try omega
                go_roundw
                case rel => exact ⟨2 + 1, rfl, by omega, by omega, HS, I⟩
                case measure => simp [intOf]
              · have HE := Lib.hid (Cmd.rest_no m q 2 (by decide) (Cmd.ok_no m q 2 (by omega) c2))
                have c2b : (m.c != 0) = true := by simpa using c2
                clear c2
                have F := I.facts
                dsimp only [AllF, Asr.facts, Blk, OwnS] at F
                go_wp2_with (first | (go_at_call 38; go_must (refine (ref18_number m A n c 2 m.c _ (by decide) rfl).mono ?_; rintro _ w1 ⟨rfl, hf⟩; replace I := I.still hf; clear hf F)))
                all_goals try omega
                go_ret
                exact ⟨by rw [HE.out]; rfl, I.fr⟩
            · by_cases c2 : m.d = 0
              · have HS := Lib.hid (Cmd.upTo_succ m q 3 hU.out (Cmd.ok_zero m q 3 c2))
                have c2b : (m.d != 0) = false := by simp [c2]
                clear c2
                have F := I.facts
                dsimp only [AllF, Asr.facts, Blk, OwnS] at F
                go_wp2_with (first | (go_at_call 38; go_must (refine (ref18_number m A n c 3 m.d _ (by decide) rfl).mono ?_; rintro _ w1 ⟨rfl, hf⟩; replace I := I.still hf; clear hf F)))
                all_goals try omega
                go_roundw
                case rel => exact ⟨3 + 1, rfl, by omega, by omega, HS, I⟩
                case measure => simp [intOf]
              · have HE := Lib.hid (Cmd.rest_no m q 3 (by decide) (Cmd.ok_no m q 3 (by omega) c2))
                have c2b : (m.d != 0) = true := by simpa using c2
                clear c2
                have F := I.facts
                dsimp only [AllF, Asr.facts, Blk, OwnS] at F
                go_wp2_with (first | (go_at_call 38; go_must (refine (ref18_number m A n c 3 m.d _ (by decide) rfl).mono ?_; rintro _ w1 ⟨rfl, hf⟩; replace I := I.still hf; clear hf F)))
                all_goals try omega
                go_ret
                exact ⟨by rw [HE.out]; rfl, I.fr⟩
            · by_cases c2 : m.e = 0
              · have HS := Lib.hid (Cmd.upTo_succ m q 4 hU.out (Cmd.ok_zero m q 4 c2))
                have c2b : (m.e != 0) = false := by simp [c2]
                clear c2
                have F := I.facts
                dsimp only [AllF, Asr.facts, Blk, OwnS] at F
                go_wp2_with (first | (go_at_call 38; go_must (refine (ref18_number m A n c 4 m.e _ (by decide) rfl).mono ?_; rintro _ w1 ⟨rfl, hf⟩; replace I := I.still hf; clear hf F)))
                all_goals try omega
                go_roundw
                case rel => exact ⟨4 + 1, rfl, by omega, by omega, HS, I⟩
                case measure => simp [intOf]
              · have HE := Lib.hid (Cmd.rest_no m q 4 (by decide) (Cmd.ok_no m q 4 (by omega) c2))
                have c2b : (m.e != 0) = true := by simpa using c2
                clear c2
                have F := I.facts
                dsimp only [AllF, Asr.facts, Blk, OwnS] at F
                go_wp2_with (first | (go_at_call 38; go_must (refine (ref18_number m A n c 4 m.e _ (by decide) rfl).mono ?_; rintro _ w1 ⟨rfl, hf⟩; replace I := I.still hf; clear hf F)))
                all_goals try omega
                go_ret
                exact ⟨by rw [HE.out]; rfl, I.fr⟩
            · have HE := Lib.hid (Cmd.rest_yes m q hU.out)
              go_wp2_with (first | ((with_reducible refine gguard ?_); (first | refine w_guardT (by rfl) (fun hb => ?_) (fun hb => ?_) | refine w_guardF (by rfl) (fun hb => ?_) (fun hb => ?_)) <;> first | (cases hb; done) | cases hb | ((try rw [hb]) <;> (try simp at hb) <;> go_prune <;> (try (with_reducible replace hb := eqPair hb)))) | (((with_reducible refine gbox ?_); first | refine w_boxA I (by rfl) ?_ | refine w_box1 I (by (conv => lhs; whnf) <;> rfl) (by rfl) ?_); clear I; intro g w I) | ((with_reducible refine galloc ?_); refine w_alloc I ?_; clear I; intro g w I) | ((with_reducible refine gload ?_); first | refine w_loadB I (by rfl) (by first | (with_reducible repeat (first | exact .here | apply At.there)); done | repeat (first | exact .here | apply At.there)) (by rfl) ?_ | refine w_loadBR I (by rfl) (by first | (with_reducible repeat (first | exact .here | apply At.there)); done | repeat (first | exact .here | apply At.there)) (by rfl) ?_ | refine w_load0 I (by rfl) (by assumption) ?_) | ((with_reducible refine gstore ?_); (first | refine w_storeB I (by rfl) (by (conv => lhs; whnf) <;> rfl) (by first | (with_reducible repeat (first | exact .here | apply Upd.there)); done | repeat (first | exact .here | apply Upd.there)) (by rfl) (by rfl) (by simp only [List.set_cons_zero, List.set_cons_succ] <;> rfl) ?_ | refine w_storeBR I (by rfl) (by rfl) (by first | (with_reducible repeat (first | exact .here | apply Upd.there)); done | repeat (first | exact .here | apply Upd.there)) (by rfl) (by rfl) (by rfl) ?_); clear I; intro w I))
              go_ret
              exact ⟨by rw [HE.out]; rfl, I.fr⟩
        · have hkb : (m.kind != 0) = true := by simpa using hk0
          have d3 : decide ((0 : Int) < (n : Int)) = false := decide_eq_false (by omega)
          have hn0 : ¬ 0 < n := by omega
          clear h3
          go_enter Tryd.func17, Tryd.ntmps17
          go_upto_region 2 with (first | ((with_reducible refine gbox (ty := 25) ?_); (first | refine w_boxA I (by rfl) ?_ | refine w_box1 I (by (conv => lhs; whnf) <;> rfl) (by rfl) ?_); clear I; intro gb w I) | (first | ((with_reducible refine gguard ?_); (first | refine w_guardT (by rfl) (fun hb => ?_) (fun hb => ?_) | refine w_guardF (by rfl) (fun hb => ?_) (fun hb => ?_)) <;> first | (cases hb; done) | cases hb | ((try rw [hb]) <;> (try simp at hb) <;> go_prune <;> (try (with_reducible replace hb := eqPair hb)))) | (((with_reducible refine gbox ?_); first | refine w_boxA I (by rfl) ?_ | refine w_box1 I (by (conv => lhs; whnf) <;> rfl) (by rfl) ?_); clear I; intro g w I) | ((with_reducible refine galloc ?_); refine w_alloc I ?_; clear I; intro g w I) | ((with_reducible refine gload ?_); first | refine w_loadB I (by rfl) (by first | (with_reducible repeat (first | exact .here | apply At.there)); done | repeat (first | exact .here | apply At.there)) (by rfl) ?_ | refine w_loadBR I (by rfl) (by first | (with_reducible repeat (first | exact .here | apply At.there)); done | repeat (first | exact .here | apply At.there)) (by rfl) ?_ | refine w_load0 I (by rfl) (by assumption) ?_) | ((with_reducible refine gstore ?_); (first | refine w_storeB I (by rfl) (by (conv => lhs; whnf) <;> rfl) (by first | (with_reducible repeat (first | exact .here | apply Upd.there)); done | repeat (first | exact .here | apply Upd.there)) (by rfl) (by rfl) (by simp only [List.set_cons_zero, List.set_cons_succ] <;> rfl) ?_ | refine w_storeBR I (by rfl) (by rfl) (by first | (with_reducible repeat (first | exact .here | apply Upd.there)); done | repeat (first | exact .here | apply Upd.there)) (by rfl) (by rfl) (by rfl) ?_); clear I; intro w I)) | (go_at_call 15; go_must (refine (ref18_Numbers _ _).mono ?_; rintro _ w1 ⟨rfl, rfl⟩; rw [HN.out])))
          have F := I.facts
          dsimp only [AllF, Asr.facts, Blk, OwnS] at F
          go_upto_region 4 with fail
          clear F
          go_wp2_with (first | (first | ((with_reducible refine gguard ?_); (first | refine w_guardT (by rfl) (fun hb => ?_) (fun hb => ?_) | refine w_guardF (by rfl) (fun hb => ?_) (fun hb => ?_)) <;> first | (cases hb; done) | cases hb | ((try rw [hb]) <;> (try simp at hb) <;> go_prune <;> (try (with_reducible replace hb := eqPair hb)))) | (((with_reducible refine gbox ?_); first | refine w_boxA I (by rfl) ?_ | refine w_box1 I (by (conv => lhs; whnf) <;> rfl) (by rfl) ?_); clear I; intro g w I) | ((with_reducible refine galloc ?_); refine w_alloc I ?_; clear I; intro g w I) | ((with_reducible refine gload ?_); first | refine w_loadB I (by rfl) (by first | (with_reducible repeat (first | exact .here | apply At.there)); done | repeat (first | exact .here | apply At.there)) (by rfl) ?_ | refine w_loadBR I (by rfl) (by first | (with_reducible repeat (first | exact .here | apply At.there)); done | repeat (first | exact .here | apply At.there)) (by rfl) ?_ | refine w_load0 I (by rfl) (by assumption) ?_) | ((with_reducible refine gstore ?_); (first | refine w_storeB I (by rfl) (by (conv => lhs; whnf) <;> rfl) (by first | (with_reducible repeat (first | exact .here | apply Upd.there)); done | repeat (first | exact .here | apply Upd.there)) (by rfl) (by rfl) (by simp only [List.set_cons_zero, List.set_cons_succ] <;> rfl) ?_ | refine w_storeBR I (by rfl) (by rfl) (by first | (with_reducible repeat (first | exact .here | apply Upd.there)); done | repeat (first | exact .here | apply Upd.there)) (by rfl) (by rfl) (by rfl) ?_); clear I; intro w I)) | (go_at_call 15; go_must (refine (ref18_Numbers _ _).mono ?_; rintro _ w1 ⟨rfl, rfl⟩; rw [HN.out])))
          all_goals try omega
          have I2 : St w0 w [Blk gb ([.int .i64 m.kind, .int .i64 m.a, .int .i64 m.b, .int .i64 m.c, .int .i64 m.d, .int .i64 m.e, .slice A n c]) 25] := I.pick .here
          clear I
          go_loopw [4] (fun i wr => ∃ k : Nat, i = .int .i64 k ∧ k ≤ 5 ∧ q ≤ k ∧ Hid (Cmd.upTo m q k) ∧ St w0 wr [Blk gb ([.int .i64 m.kind, .int .i64 m.a, .int .i64 m.b, .int .i64 m.c, .int .i64 m.d, .int .i64 m.e, .slice A n c]) 25]) (fun i _ => 5 - (intOf i).toNat)
          case atStart => exact ⟨q.toNat, by rw [Int.toNat_of_nonneg hq0], by omega, by omega, Cmd.upTo_low m q _ (by omega), I2⟩
          case round =>
            clear I2
            obtain ⟨k, rfl, hk, hqk, hU, I⟩ := hrel
            have h8 : k = 0 ∨ k = 1 ∨ k = 2 ∨ k = 3 ∨ k = 4 ∨ k = 5 := by omega
            rcases h8 with rfl | rfl | rfl | rfl | rfl | rfl
            · by_cases c2 : m.a = 0
              · have HS := Lib.hid (Cmd.upTo_succ m q 0 hU.out (Cmd.ok_zero m q 0 c2))
                have c2b : (m.a != 0) = false := by simp [c2]
                clear c2
                have F := I.facts
                dsimp only [AllF, Asr.facts, Blk, OwnS] at F
                go_wp2_with (first | (go_at_call 38; go_must (refine (ref18_number m A n c 0 m.a _ (by decide) rfl).mono ?_; rintro _ w1 ⟨rfl, hf⟩; replace I := I.still hf; clear hf F)))
                all_goals try omega
                go_roundw
                case rel => exact ⟨0 + 1, rfl, by omega, by omega, HS, I⟩
                case measure => simp [intOf]
              · have HE := Lib.hid (Cmd.rest_no m q 0 (by decide) (Cmd.ok_no m q 0 (by omega) c2))
                have c2b : (m.a != 0) = true := by simpa using c2
                clear c2
                have F := I.facts
                dsimp only [AllF, Asr.facts, Blk, OwnS] at F
                go_wp2_with (first | (go_at_call 38; go_must (refine (ref18_number m A n c 0 m.a _ (by decide) rfl).mono ?_; rintro _ w1 ⟨rfl, hf⟩; replace I := I.still hf; clear hf F)))
                all_goals try omega
                go_ret
                exact ⟨by rw [HE.out]; rfl, I.fr⟩
            · by_cases c2 : m.b = 0
              · have HS := Lib.hid (Cmd.upTo_succ m q 1 hU.out (Cmd.ok_zero m q 1 c2))
                have c2b : (m.b != 0) = false := by simp [c2]
                clear c2
                have F := I.facts
                dsimp only [AllF, Asr.facts, Blk, OwnS] at F
                go_wp2_with (first | (go_at_call 38; go_must (refine (ref18_number m A n c 1 m.b _ (by decide) rfl).mono ?_; rintro _ w1 ⟨rfl, hf⟩; replace I := I.still hf; clear hf F)))
                all_goals try omega
                go_roundw
                case rel => exact ⟨1 + 1, rfl, by omega, by omega, HS, I⟩
                case measure => simp [intOf]
              · have HE := Lib.hid (Cmd.rest_no m q 1 (by decide) (Cmd.ok_no m q 1 (by omega) c2))
                have c2b : (m.b != 0) = true := by simpa using c2
                clear c2
                have F := I.facts
                dsimp only [AllF, Asr.facts, Blk, OwnS] at F
                go_wp2_with (first | (go_at_call 38; go_must (refine (ref18_number m A n c 1 m.b _ (by decide) rfl).mono ?_; rintro _ w1 ⟨rfl, hf⟩; replace I := I.still hf; clear hf F)))
                all_goals try omega
                go_ret
                exact ⟨by rw [HE.out]; rfl, I.fr⟩
            · by_cases c2 : m.c = 0
              · have HS := Lib.hid (Cmd.upTo_succ m q 2 hU.out (Cmd.ok_zero m q 2 c2))
                have c2b : (m.c != 0) = false := by simp [c2]
                clear c2
                have F := I.facts
                dsimp only [AllF, Asr.facts, Blk, OwnS] at F
                go_wp2_with (first | (go_at_call 38; go_must (refine (ref18_number m A n c 2 m.c _ (by decide) rfl).mono ?_; rintro _ w1 ⟨rfl, hf⟩; replace I := I.still hf; clear hf F)))
                all_goals try omega
                go_roundw
                case rel => exact ⟨2 + 1, rfl, by omega, by omega, HS, I⟩
                case measure => simp [intOf]
              · have HE := Lib.hid (Cmd.rest_no m q 2 (by decide) (Cmd.ok_no m q 2 (by omega) c2))
                have c2b : (m.c != 0) = true := by simpa using c2
                clear c2
                have F := I.facts
                dsimp only [AllF, Asr.facts, Blk, OwnS] at F
                go_wp2_with (first | (go_at_call 38; go_must (refine (ref18_number m A n c 2 m.c _ (by decide) rfl).mono ?_; rintro _ w1 ⟨rfl, hf⟩; replace I := I.still hf; clear hf F)))
                all_goals try omega
                go_ret
                exact ⟨by rw [HE.out]; rfl, I.fr⟩
            · by_cases c2 : m.d = 0
              · have HS := Lib.hid (Cmd.upTo_succ m q 3 hU.out (Cmd.ok_zero m q 3 c2))
                have c2b : (m.d != 0) = false := by simp [c2]
                clear c2
                have F := I.facts
                dsimp only [AllF, Asr.facts, Blk, OwnS] at F
                go_wp2_with (first | (go_at_call 38; go_must (refine (ref18_number m A n c 3 m.d _ (by decide) rfl).mono ?_; rintro _ w1 ⟨rfl, hf⟩; replace I := I.still hf; clear hf F)))
                all_goals try omega
                go_roundw
                case rel => exact ⟨3 + 1, rfl, by omega, by omega, HS, I⟩
                case measure => simp [intOf]
              · have HE := Lib.hid (Cmd.rest_no m q 3 (by decide) (Cmd.ok_no m q 3 (by omega) c2))
                have c2b : (m.d != 0) = true := by simpa using c2
                clear c2
                have F := I.facts
                dsimp only [AllF, Asr.facts, Blk, OwnS] at F
                go_wp2_with (first | (go_at_call 38; go_must (refine (ref18_number m A n c 3 m.d _ (by decide) rfl).mono ?_; rintro _ w1 ⟨rfl, hf⟩; replace I := I.still hf; clear hf F)))
                all_goals try omega
                go_ret
                exact ⟨by rw [HE.out]; rfl, I.fr⟩
            · by_cases c2 : m.e = 0
              · have HS := Lib.hid (Cmd.upTo_succ m q 4 hU.out (Cmd.ok_zero m q 4 c2))
                have c2b : (m.e != 0) = false := by simp [c2]
                clear c2
                have F := I.facts
                dsimp only [AllF, Asr.facts, Blk, OwnS] at F
                go_wp2_with (first | (go_at_call 38; go_must (refine (ref18_number m A n c 4 m.e _ (by decide) rfl).mono ?_; rintro _ w1 ⟨rfl, hf⟩; replace I := I.still hf; clear hf F)))
                all_goals try omega
                go_roundw
                case rel => exact ⟨4 + 1, rfl, by omega, by omega, HS, I⟩
                case measure => simp [intOf]
              · have HE := Lib.hid (Cmd.rest_no m q 4 (by decide) (Cmd.ok_no m q 4 (by omega) c2))
                have c2b : (m.e != 0) = true := by simpa using c2
                clear c2
                have F := I.facts
                dsimp only [AllF, Asr.facts, Blk, OwnS] at F
                go_wp2_with (first | (go_at_call 38; go_must (refine (ref18_number m A n c 4 m.e _ (by decide) rfl).mono ?_; rintro _ w1 ⟨rfl, hf⟩; replace I := I.still hf; clear hf F)))
                all_goals try omega
                go_ret
                exact ⟨by rw [HE.out]; rfl, I.fr⟩
            · have HE := Lib.hid (Cmd.rest_yes m q hU.out)
              go_wp2_with (first | ((with_reducible refine gguard ?_); (first | refine w_guardT (by rfl) (fun hb => ?_) (fun hb => ?_) | refine w_guardF (by rfl) (fun hb => ?_) (fun hb => ?_)) <;> first | (cases hb; done) | cases hb | ((try rw [hb]) <;> (try simp at hb) <;> go_prune <;> (try (with_reducible replace hb := eqPair hb)))) | (((with_reducible refine gbox ?_); first | refine w_boxA I (by rfl) ?_ | refine w_box1 I (by (conv => lhs; whnf) <;> rfl) (by rfl) ?_); clear I; intro g w I) | ((with_reducible refine galloc ?_); refine w_alloc I ?_; clear I; intro g w I) | ((with_reducible refine gload ?_); first | refine w_loadB I (by rfl) (by first | (with_reducible repeat (first | exact .here | apply At.there)); done | repeat (first | exact .here | apply At.there)) (by rfl) ?_ | refine w_loadBR I (by rfl) (by first | (with_reducible repeat (first | exact .here | apply At.there)); done | repeat (first | exact .here | apply At.there)) (by rfl) ?_ | refine w_load0 I (by rfl) (by assumption) ?_) | ((with_reducible refine gstore ?_); (first | refine w_storeB I (by rfl) (by (conv => lhs; whnf) <;> rfl) (by first | (with_reducible repeat (first | exact .here | apply Upd.there)); done | repeat (first | exact .here | apply Upd.there)) (by rfl) (by rfl) (by simp only [List.set_cons_zero, List.set_cons_succ] <;> rfl) ?_ | refine w_storeBR I (by rfl) (by rfl) (by first | (with_reducible repeat (first | exact .here | apply Upd.there)); done | repeat (first | exact .here | apply Upd.there)) (by rfl) (by rfl) (by rfl) ?_); clear I; intro w I))
              go_ret
              exact ⟨by rw [HE.out]; rfl, I.fr⟩
end Go.Proofs.YtpnpgeilhafepaaDoor
