
/- Numbers that stop at the most (layer 2), plain: sums, products, what is taken away, texts; their laws. -/
import Derived.Test.YtpnpgeilhafepaaDoorSat
import Derived.Lib.ItoaNum
namespace Go.Proofs.YtpnpgeilhafepaaDoor
namespace Sat
def mul (a b : Int) : Int := min (fit a * fit b) 4611686018427387904
def less (a b : Int) : Int := fit (fit a - fit b)
def text (n : Int) : List UInt8 := Go.Lib.decDigits (fit n).toNat
def sumf : List Int → Int
  | [] => 0
  | n :: l => fit n + sumf l
theorem fit_id (n : Int) (h0 : 0 ≤ n) (h1 : n ≤ 4611686018427387904) : fit n = n := by unfold fit; split; omega; split <;> omega
theorem fit_fit (n : Int) : fit (fit n) = fit n := fit_id _ (fit_ge n) (fit_le n)
theorem sumf_ge (l : List Int) : 0 ≤ sumf l := by
  induction l with
  | nil => exact Int.le_refl 0
  | cons n l ih => have := fit_ge n; unfold sumf; omega
theorem addF_min (l : List Int) : ∀ o : Int, 0 ≤ o → o ≤ 4611686018427387904 → addF o l = min (o + sumf l) 4611686018427387904 := by
  induction l with
  | nil => intro o h0 h1; unfold addF sumf; omega
  | cons n l ih =>
    intro o h0 h1
    have a := fit_ge n
    have b := fit_le n
    have c := sumf_ge l
    unfold addF sumf
    rw [ih _ (by omega) (by omega)]
    omega
theorem add_min (l : List Int) : add l = min (sumf l) 4611686018427387904 := by
  unfold add
  rw [addF_min l 0 (by omega) (by omega), Int.zero_add]
theorem add_ge (l : List Int) : 0 ≤ add l := by rw [add_min]; have := sumf_ge l; omega
theorem add_le (l : List Int) : add l ≤ 4611686018427387904 := by rw [add_min]; omega
theorem cap_mul (p z : Int) (hp : 0 ≤ p) (hz : 0 ≤ z) : min (min p 4611686018427387904 * z) 4611686018427387904 = min (p * z) 4611686018427387904 := by
  by_cases h : p ≤ 4611686018427387904
  · have hm : min p 4611686018427387904 = p := by omega
    rw [hm]
  · have hm : min p 4611686018427387904 = 4611686018427387904 := by omega
    rw [hm]
    by_cases h0 : z = 0
    · subst h0; simp
    · have h1 : 4611686018427387904 * 1 ≤ 4611686018427387904 * z := Int.mul_le_mul_of_nonneg_left (by omega) (by omega)
      have h2 : 4611686018427387904 * z ≤ p * z := Int.mul_le_mul_of_nonneg_right (by omega) hz
      omega
theorem cap_mul' (p z : Int) (hp : 0 ≤ p) (hz : 0 ≤ z) : min (z * min p 4611686018427387904) 4611686018427387904 = min (z * p) 4611686018427387904 := by
  rw [Int.mul_comm z, Int.mul_comm z]; exact cap_mul p z hp hz
theorem mul_nonneg' {a b : Int} (ha : 0 ≤ a) (hb : 0 ≤ b) : 0 ≤ a * b := Int.mul_nonneg ha hb
theorem mul_ge (a b : Int) : 0 ≤ mul a b := by unfold mul; have := mul_nonneg' (fit_ge a) (fit_ge b); omega
theorem mul_le (a b : Int) : mul a b ≤ 4611686018427387904 := by unfold mul; omega
theorem add_comm (a b : Int) : add [a, b] = add [b, a] := by rw [add_min, add_min]; unfold sumf sumf sumf; omega
theorem mul_comm (a b : Int) : mul a b = mul b a := by unfold mul; rw [Int.mul_comm]
theorem fit_add (l : List Int) : fit (add l) = add l := fit_id _ (add_ge l) (add_le l)
theorem fit_mul (a b : Int) : fit (mul a b) = mul a b := fit_id _ (mul_ge a b) (mul_le a b)
theorem add_two' (a b : Int) : add [a, b] = min (fit a + fit b) 4611686018427387904 := by rw [add_min]; unfold sumf sumf sumf; omega
theorem add_three (a b c : Int) : add [a, b, c] = min (fit a + fit b + fit c) 4611686018427387904 := by rw [add_min]; unfold sumf sumf sumf sumf; omega
theorem add_one (a : Int) : add [a] = fit a := by rw [add_min]; have := fit_ge a; have := fit_le a; unfold sumf sumf; omega
theorem add_left (a b c : Int) : add [add [a, b], c] = add [a, b, c] := by
  rw [add_two' (add [a, b]) c, fit_add, add_two', add_three]
  have := fit_ge a; have := fit_ge b; have := fit_ge c
  omega
theorem add_right (a b c : Int) : add [a, add [b, c]] = add [a, b, c] := by
  rw [add_two' a (add [b, c]), fit_add, add_two', add_three]
  have := fit_ge a; have := fit_ge b; have := fit_ge c
  omega
theorem mul_assoc (a b c : Int) : mul (mul a b) c = mul a (mul b c) := by
  have h1 : mul (mul a b) c = min (mul a b * fit c) 4611686018427387904 := by unfold mul; rw [show fit (min (fit a * fit b) 4611686018427387904) = min (fit a * fit b) 4611686018427387904 from fit_mul a b]
  have h2 : mul a (mul b c) = min (fit a * mul b c) 4611686018427387904 := by unfold mul; rw [show fit (min (fit b * fit c) 4611686018427387904) = min (fit b * fit c) 4611686018427387904 from fit_mul b c]
  rw [h1, h2]
  unfold mul
  rw [cap_mul _ _ (mul_nonneg' (fit_ge a) (fit_ge b)) (fit_ge c), cap_mul' _ _ (mul_nonneg' (fit_ge b) (fit_ge c)) (fit_ge a), Int.mul_assoc]
theorem sum_ge (a b : Int) : fit a ≤ add [a, b] ∧ fit b ≤ add [a, b] := by
  rw [add_two']
  have := fit_ge a; have := fit_ge b; have := fit_le a; have := fit_le b
  omega
theorem sum_less (a b : Int) (h : add [a, b] < 4611686018427387904) : less (add [a, b]) b = fit a ∧ less (add [a, b]) a = fit b := by
  unfold less
  rw [fit_add]
  rw [add_two'] at h ⊢
  have := fit_ge a; have := fit_ge b; have := fit_le a; have := fit_le b
  have hm : min (fit a + fit b) 4611686018427387904 = fit a + fit b := by omega
  rw [hm, fit_id (fit a + fit b - fit b) (by omega) (by omega), fit_id (fit a + fit b - fit a) (by omega) (by omega)]
  omega
theorem mul_1 (a : Int) : mul a 1 = fit a := by
  unfold mul
  rw [show fit 1 = 1 from rfl, Int.mul_one]
  have := fit_le a
  omega
theorem mul_0 (a : Int) : mul a 0 = 0 := by
  unfold mul
  rw [show fit 0 = 0 from rfl, Int.mul_zero]
  rfl
/-- The reference's way to a product. -/
theorem mul_by (a b : Int) : mul a b = if fit a = 0 ∨ fit b = 0 then 0 else if 4611686018427387904 / fit b < fit a then 4611686018427387904 else fit a * fit b := by
  unfold mul
  have a0 := fit_ge a
  have b0 := fit_ge b
  generalize fit a = x at *
  generalize fit b = y at *
  by_cases h : x = 0 ∨ y = 0
  · rw [if_pos h]
    rcases h with rfl | rfl
    · rw [Int.zero_mul]; rfl
    · rw [Int.mul_zero]; rfl
  · rw [if_neg h]
    have hy : 0 < y := by omega
    have hi := @Int.le_ediv_iff_mul_le x 4611686018427387904 y hy
    by_cases h1 : 4611686018427387904 / y < x
    · rw [if_pos h1]
      have : ¬ x * y ≤ 4611686018427387904 := fun h2 => by have := hi.2 h2; omega
      omega
    · rw [if_neg h1]
      have := hi.1 (by omega)
      omega
theorem less_by (a b : Int) : less a b = if fit a < fit b then 0 else fit a - fit b := by
  unfold less
  have a0 := fit_ge a
  have b0 := fit_ge b
  have a1 := fit_le a
  generalize fit a = x at *
  generalize fit b = y at *
  unfold fit
  split <;> split <;> (try split) <;> omega
/-- A round of the product's loop. -/
theorem round_mul (o a b : Int) (ho : 0 ≤ o) (hb : 0 ≤ b) (ha : 0 < a) (o' b' : Int) (h1 : o' = if a % 2 = 1 then min (o + b) 4611686018427387904 else o) (h2 : b' = min (b + b) 4611686018427387904) :
    min (o' + a / 2 * b') 4611686018427387904 = min (o + a * b) 4611686018427387904 := by
  obtain ⟨h, hh⟩ : ∃ h : Int, a / 2 = h := ⟨_, rfl⟩
  rw [hh]
  have hh0 : 0 ≤ h := by omega
  have hb' : min (h * b') 4611686018427387904 = min (h * (b + b)) 4611686018427387904 := by rw [h2]; exact cap_mul' (b + b) h (by omega) hh0
  have hp0 : 0 ≤ h * b' := mul_nonneg' hh0 (by omega)
  have hp1 : 0 ≤ h * (b + b) := mul_nonneg' hh0 (by omega)
  by_cases h3 : a % 2 = 1
  · rw [if_pos h3] at h1
    have e : a * b = h * (b + b) + b := by
      have : a = 2 * h + 1 := by omega
      rw [this, Int.add_mul, Int.one_mul, Int.mul_add, Int.mul_assoc, Int.two_mul]
    rw [e]
    generalize h * (b + b) = q at *
    generalize h * b' = p at *
    omega
  · rw [if_neg h3] at h1
    have e : a * b = h * (b + b) := by
      have : a = 2 * h := by omega
      rw [this, Int.mul_add, Int.mul_assoc, Int.two_mul]
    rw [e]
    generalize h * (b + b) = q at *
    generalize h * b' = p at *
    omega
end Sat
end Go.Proofs.YtpnpgeilhafepaaDoor
