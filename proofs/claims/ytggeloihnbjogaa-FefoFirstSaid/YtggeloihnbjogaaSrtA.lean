
/- Lots (layer 15): what a lot is, and which goes ahead: the comparison's contract. -/
import Derived.Test.YtggeloihnbjogaaSerA
import Derived.Test.YtggeloihnbjogaaSrt
import Derived.Deep.RegionHeld3
namespace Go.Proofs.Ytggeloihnbjogaa
open Go.RowKit Go.Hf
/-- A lot; 'tag': its place as it came, which no cell holds. -/
structure Lt where
  id : Int
  prod : Int
  units : Int
  exp : Int
  gr : Int
  ord : Int
  st : Int
  A : Option Addr
  n : Nat
  c : Nat
  tag : Nat
def encT (x : Lt) : List Value := [.int .i64 x.id, .int .i64 x.prod, .int .i64 x.units, .int .i64 x.exp, .int .i64 x.gr, .int .i64 x.ord, .int .i64 x.st, .slice x.A x.n x.c]
theorem encT_len (x : Lt) : (encT x).length = 8 := rfl
theorem encT_one (o : Lt) : ∀ u ∈ encT o, u.oneCell' = true := by intro u hu; simp [encT] at hu; rcases hu with rfl | rfl | rfl | rfl | rfl | rfl | rfl | rfl <;> rfl
abbrev aggT (x : Lt) : Value := .agg #[.int .i64 x.id, .int .i64 x.prod, .int .i64 x.units, .int .i64 x.exp, .int .i64 x.gr, .int .i64 x.ord, .int .i64 x.st, .slice x.A x.n x.c]
namespace Fef
def cmpI (a b : Int) : Int := if a < b then -1 else if b < a then 1 else 0
def cf (x y : Lt) : Int := if cmpI x.exp y.exp ≠ 0 then cmpI x.exp y.exp else cmpI x.id y.id
def neg (x y : Lt) : Bool := decide (x.exp < y.exp) || ((x.exp == y.exp) && decide (x.id < y.id))
def lt (x y : Lt) : Prop := x.exp < y.exp ∨ x.exp = y.exp ∧ (x.id < y.id ∨ x.id = y.id ∧ x.tag < y.tag)
theorem neg_iff (x y : Lt) : neg x y = true ↔ x.exp < y.exp ∨ x.exp = y.exp ∧ x.id < y.id := by unfold neg; simp
theorem cf_neg (x y : Lt) : decide (cf x y < 0) = neg x y := by
  rw [Bool.eq_iff_iff, neg_iff, decide_eq_true_eq]
  unfold cf cmpI
  repeat' split
  all_goals omega
theorem ord : Srt.Ord neg Lt.tag lt where
  trans := by intro x y z h1 h2; unfold lt at *; omega
  neg_iff := by intro x y h; rw [neg_iff]; unfold lt; omega
  tot := by intro x y h; unfold lt; omega
end Fef
theorem cmp_isNaN (a : Int) (w : World) : Calls Try.prog 123 #[.int .i64 a] w fun e w' => e = .returned (.bool false) ∧ w = w' := by
  have h : (a != a) = false := by simp
  go_enter Try.func123, Try.ntmps123
  go_wp2_with fail
  go_ret
  exact ⟨rfl, rfl⟩
set_option maxRecDepth 100000 in
theorem cmp_Compare (a b : Int) (w : World) : Calls Try.prog 102 #[.int .i64 a, .int .i64 b] w fun e w' => e = .returned (.int .i64 (Fef.cmpI a b)) ∧ w = w' := by
  by_cases h1 : a < b
  · have d1 : decide (a < b) = true := decide_eq_true h1
    have HE : Hid (Fef.cmpI a b = -1) := Lib.hid (if_pos h1)
    clear h1
    go_enter Try.func102, Try.ntmps102
    go_wp2_with (first | (go_at_call 123; go_must (refine (cmp_isNaN _ _).mono ?_; rintro _ w1 ⟨rfl, rfl⟩)))
    go_ret
    exact ⟨by rw [HE.out]; rfl, rfl⟩
  · have d1 : decide (a < b) = false := decide_eq_false h1
    by_cases h2 : b < a
    · have d2 : decide (b < a) = true := decide_eq_true h2
      have HE : Hid (Fef.cmpI a b = 1) := Lib.hid ((if_neg h1).trans (if_pos h2))
      clear h1 h2
      go_enter Try.func102, Try.ntmps102
      go_wp2_with (first | (go_at_call 123; go_must (refine (cmp_isNaN _ _).mono ?_; rintro _ w1 ⟨rfl, rfl⟩)))
      go_ret
      exact ⟨by rw [HE.out]; rfl, rfl⟩
    · have d2 : decide (b < a) = false := decide_eq_false h2
      have HE : Hid (Fef.cmpI a b = 0) := Lib.hid ((if_neg h1).trans (if_neg h2))
      clear h1 h2
      go_enter Try.func102, Try.ntmps102
      go_wp2_with (first | (go_at_call 123; go_must (refine (cmp_isNaN _ _).mono ?_; rintro _ w1 ⟨rfl, rfl⟩)))
      go_ret
      exact ⟨by rw [HE.out]; rfl, rfl⟩
theorem Fef.or_cf (x y : Lt) : Ser.orF [Fef.cmpI x.exp y.exp, Fef.cmpI x.id y.id] = Fef.cf x y := by
  unfold Fef.cf Ser.orF Ser.orF Ser.orF
  generalize Fef.cmpI x.exp y.exp = p
  generalize Fef.cmpI x.id y.id = q
  split
  · rfl
  · split <;> omega
set_option maxRecDepth 100000 in
set_option maxHeartbeats 2000000 in
theorem fefo_cmp (x y : Lt) (w0 : World) : Calls Try.prog 101 #[aggT x, aggT y] w0 fun e w' => e = .returned (.int .i64 (Fef.cf x y)) ∧ Fr w0 w' := by
  have I := St.refl w0
  have HE := Lib.hid (Fef.or_cf x y)
  have HC1 := Lib.hid (fun w => cmp_Compare x.exp y.exp w)
  have HC2 := Lib.hid (fun w => cmp_Compare x.id y.id w)
  generalize Fef.cmpI x.exp y.exp = p at *
  generalize Fef.cmpI x.id y.id = q at *
  go_enter Try.func101, Try.ntmps101
  try dsimp only [List.append]
  go_upto_region 1 with (first | ((with_reducible refine gguard ?_); (first | refine w_guardT (by rfl) (fun hb => ?_) (fun hb => ?_) | refine w_guardF (by rfl) (fun hb => ?_) (fun hb => ?_)) <;> first | (cases hb; done) | cases hb | ((try rw [hb]) <;> (try simp at hb) <;> go_prune <;> (try (with_reducible replace hb := eqPair hb)))) | (((with_reducible refine gbox ?_); first | refine w_boxA I (by rfl) ?_ | refine w_box1 I (by (conv => lhs; whnf) <;> rfl) (by rfl) ?_); clear I; intro g w I) | ((with_reducible refine galloc ?_); refine w_alloc I ?_; clear I; intro g w I) | ((with_reducible refine gload ?_); first | refine w_loadB I (by rfl) (by first | (with_reducible repeat (first | exact .here | apply At.there)); done | repeat (first | exact .here | apply At.there)) (by rfl) ?_ | refine w_loadBR I (by rfl) (by first | (with_reducible repeat (first | exact .here | apply At.there)); done | repeat (first | exact .here | apply At.there)) (by rfl) ?_ | refine w_load0 I (by rfl) (by assumption) ?_) | ((with_reducible refine gstore ?_); (first | refine w_storeB I (by rfl) (by (conv => lhs; whnf) <;> rfl) (by first | (with_reducible repeat (first | exact .here | apply Upd.there)); done | repeat (first | exact .here | apply Upd.there)) (by rfl) (by rfl) (by simp only [List.set_cons_zero, List.set_cons_succ] <;> rfl) ?_ | refine w_storeBR I (by rfl) (by rfl) (by first | (with_reducible repeat (first | exact .here | apply Upd.there)); done | repeat (first | exact .here | apply Upd.there)) (by rfl) (by rfl) (by rfl) ?_); clear I; intro w I))
  rename World => w1
  have hp := fun w' (hf : Fr w1 w') i => (((I.still hf).cells (.there .here)).1 i)
  have hq := fun w' (hf : Fr w1 w') i => (((I.still hf).cells .here).1 i)
  replace I := Lib.hid I
  have HO := Lib.hid (fun wx : World => cmp_Or (.slice (some ⟨wx.heap.size, 0, none⟩) 2 2) [p, q] ((wx.alloc (.cells #[.int .i64 p, .int .i64 q] 3)).drew) (((St.refl wx).alloc [.int .i64 p, .int .i64 q] 3).drew.slvB .here (l2 := [p, q]) rfl rfl (by unfold maxLen; omega) encI_len))
  rw [HE.out] at HO
  go_region_held3 (fun w' => Fr w1 w') (first | assumption | exact (Fr.refl _).drew | exact Fr.alloc (by assumption) _ | exact Fr.trans (by assumption) (by assumption)) (first | (go_at_call 102; ((with_reducible refine (HC1.out _).mono ?_); rintro _ w1 ⟨rfl, rfl⟩)) | (go_at_call 102; ((with_reducible refine (HC2.out _).mono ?_); rintro _ w1 ⟨rfl, rfl⟩)) | (go_at_call 94; ((with_reducible refine (HO.out _).mono ?_); rintro _ w1 ⟨rfl, rfl⟩)))
  all_goals
    go_wp2_with fail
    go_ret
    exact ⟨rfl, I.out.fr.trans (by assumption)⟩
end Go.Proofs.Ytggeloihnbjogaa
