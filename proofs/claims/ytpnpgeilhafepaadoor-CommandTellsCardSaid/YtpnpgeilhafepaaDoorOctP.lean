
/- Numbers as bytes: plain laws. -/
namespace Oct
/-- A number's last k bytes, the greatest first. -/
def be : Nat → Nat → List UInt8
  | 0, _ => []
  | k + 1, n => UInt8.ofNat (n / 256 ^ k) :: be k n
theorem be_len (k n : Nat) : (be k n).length = k := by induction k with | zero => rfl | succ k ih => simp [be, ih]
/-- The number of bytes. -/
def val (l : List UInt8) : Nat := l.foldl (fun u b => 256 * u + b.toNat) 0
theorem val_snoc (l : List UInt8) (b : UInt8) : val (l ++ [b]) = 256 * val l + b.toNat := by unfold val; rw [List.foldl_append]; rfl
theorem fold_lt (l : List UInt8) : ∀ u : Nat, l.foldl (fun u b => 256 * u + b.toNat) u + 1 ≤ (u + 1) * 256 ^ l.length := by
  induction l with
  | nil => intro u; simp
  | cons b l ih =>
    intro u
    have h1 := ih (256 * u + b.toNat)
    have h2 := b.toNat_lt
    rw [List.foldl_cons, List.length_cons, Nat.pow_succ]
    refine Nat.le_trans h1 ?_
    have h3 : 256 * u + b.toNat + 1 ≤ (u + 1) * 256 := by omega
    calc (256 * u + b.toNat + 1) * 256 ^ l.length ≤ ((u + 1) * 256) * 256 ^ l.length := Nat.mul_le_mul_right _ h3
      _ = (u + 1) * (256 ^ l.length * 256) := by rw [Nat.mul_assoc, Nat.mul_comm 256]
theorem val_lt (l : List UInt8) : val l < 256 ^ l.length := by have := fold_lt l 0; unfold val; omega
theorem be_split (k n : Nat) : be (k + 1) n = be k (n / 256) ++ [UInt8.ofNat n] := by
  induction k with
  | zero => simp [be]
  | succ k ih =>
    have h : be (k + 2) n = UInt8.ofNat (n / 256 ^ (k + 1)) :: be (k + 1) n := rfl
    rw [h, ih]
    have h2 : be (k + 1) (n / 256) = UInt8.ofNat (n / 256 / 256 ^ k) :: be k (n / 256) := rfl
    rw [h2, List.cons_append, Nat.div_div_eq_div_mul, Nat.pow_succ, Nat.mul_comm]
theorem val_be (k n : Nat) (h : n < 256 ^ k) : val (be k n) = n := by
  induction k generalizing n with
  | zero => simp at h; subst h; rfl
  | succ k ih =>
    rw [be_split, val_snoc, ih (n / 256) (by rw [Nat.pow_succ] at h; omega), UInt8.toNat_ofNat']
    omega
/-- What is written of a number: bytes, error. -/
def put (s : List UInt8 × Int) (n : Nat) (size : Int) : List UInt8 × Int :=
  if s.2 ≠ 0 then s else if size < 1 ∨ 8 < size ∨ 256 ^ size.toNat ≤ n then (s.1, 1) else (s.1 ++ be size.toNat n, 0)
def u64 (n : Int) : Nat := (n % 18446744073709551616).toNat
theorem u64_lt (n : Int) : u64 n < 18446744073709551616 := by unfold u64; omega
def putInt (s : List UInt8 × Int) (n : Int) : List UInt8 × Int := put s (u64 n) 8
def putBool (s : List UInt8 × Int) (x : Bool) : List UInt8 × Int := put s (if x = true then 1 else 0) 1
def putRun (s : List UInt8 × Int) (b : List UInt8) : List UInt8 × Int :=
  if (put s b.length 4).2 ≠ 0 then put s b.length 4 else ((put s b.length 4).1 ++ b, 0)
/-- What is taken, what is left, and the error. -/
def take (s : List UInt8 × Int) (n : Int) : List UInt8 × (List UInt8 × Int) :=
  if s.2 ≠ 0 then ([], s) else if (s.1.length : Int) < n then ([], (s.1, 2)) else (s.1.take n.toNat, (s.1.drop n.toNat, 0))
def num (s : List UInt8 × Int) (size : Int) : Nat × (List UInt8 × Int) :=
  if size < 1 ∨ 8 < size then (0, (s.1, if s.2 = 0 then 1 else s.2)) else (val (take s size).1, (take s size).2)
def i64 (n : Nat) : Int := if n < 9223372036854775808 then n else (n : Int) - 18446744073709551616
def int (s : List UInt8 × Int) : Int × (List UInt8 × Int) := (i64 (num s 8).1, (num s 8).2)
def bool (s : List UInt8 × Int) : Bool × (List UInt8 × Int) :=
  if 1 < (num s 1).1 then (false, ((num s 1).2.1, if (num s 1).2.2 = 0 then 2 else (num s 1).2.2)) else (decide ((num s 1).1 = 1), (num s 1).2)
def run (s : List UInt8 × Int) : List UInt8 × (List UInt8 × Int) := take (num s 4).2 (num s 4).1
def left (s : List UInt8 × Int) : Int := if s.2 ≠ 0 then 0 else s.1.length
def done (s : List UInt8 × Int) : Int := if 0 < left s then 2 else s.2
theorem take_len (s : List UInt8 × Int) (n : Int) (h : 0 ≤ n) : ((take s n).1.length : Int) ≤ n := by
  unfold take; split
  · simpa using h
  · split
    · simpa using h
    · rw [List.length_take]; omega
theorem num_lt (s : List UInt8 × Int) (size : Int) : (num s size).1 < 18446744073709551616 := by
  unfold num
  split
  · show 0 < _; decide
  · rename_i h
    have h1 := val_lt (take s size).1
    have h2 := take_len s size (by omega)
    have h3 : 256 ^ (take s size).1.length ≤ 256 ^ 8 := Nat.pow_le_pow_right (by decide) (by omega)
    have : (256 : Nat) ^ 8 = 18446744073709551616 := by decide
    show val (take s size).1 < _
    omega
theorem num_lt4 (s : List UInt8 × Int) : (num s 4).1 < 4294967296 := by
  unfold num
  rw [if_neg (by decide)]
  have h1 := val_lt (take s 4).1
  have h2 := take_len s 4 (by decide)
  have h3 : 256 ^ (take s 4).1.length ≤ 256 ^ 4 := Nat.pow_le_pow_right (by decide) (by omega)
  have : (256 : Nat) ^ 4 = 4294967296 := by decide
  show val (take s 4).1 < _
  omega
theorem put_len (s : List UInt8 × Int) (n : Nat) (size : Int) : (put s n size).1.length ≤ s.1.length + 8 := by
  unfold put
  split
  · omega
  · split
    · exact Nat.le_add_right _ _
    · rw [List.length_append, be_len]; omega
theorem putRun_len (s : List UInt8 × Int) (b : List UInt8) : (putRun s b).1.length ≤ s.1.length + 8 + b.length := by
  have := put_len s b.length 4
  unfold putRun
  split
  · omega
  · rw [List.length_append]; omega
theorem set_rep (j : Nat) (x : UInt8) (r : List UInt8) : (List.replicate (j + 1) 0 ++ r).set j x = List.replicate j 0 ++ x :: r := by
  induction j with
  | zero => rfl
  | succ j ih => rw [List.replicate_succ, List.cons_append, List.set_cons_succ, ih, List.replicate_succ, List.cons_append]
end Oct
