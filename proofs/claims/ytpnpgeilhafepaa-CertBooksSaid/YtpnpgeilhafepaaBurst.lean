
/- The sum of bytes of which bits are turned: plain laws. -/
import Derived.Test.YtpnpgeilhafepaaCrc
namespace Crc
theorem step_xor (a b : BitVec 16) : step (a ^^^ b) = step a ^^^ step b := by
  unfold step
  rw [BitVec.msb_xor, BitVec.shiftLeft_xor_distrib]
  cases a.msb <;> cases b.msb <;> simp
  · ac_rfl
  · ac_rfl
  · rw [show a <<< 1 ^^^ 4129#16 ^^^ (b <<< 1 ^^^ 4129#16) = a <<< 1 ^^^ b <<< 1 ^^^ (4129#16 ^^^ 4129#16) from by ac_rfl]; simp
theorem step_zero : step 0#16 = 0#16 := by decide
theorem step_inj0 (a : BitVec 16) (h : step a = 0#16) : a = 0#16 := by
  unfold step at h
  split at h
  · have h0 := congrArg (fun x => x.getLsbD 0) h
    simp at h0
  · rename_i hm
    have h1 := congrArg BitVec.toNat h
    simp [BitVec.toNat_shiftLeft, Nat.shiftLeft_eq] at h1
    rw [BitVec.msb_eq_decide] at hm
    simp at hm
    apply BitVec.eq_of_toNat_eq
    have := a.isLt
    simp
    omega
theorem steps_add (a b : Nat) (r : BitVec 16) : steps (a + b) r = steps a (steps b r) := by
  induction a with
  | zero => simp [steps]
  | succ a ih => rw [Nat.succ_add]; simp only [steps, ih]
theorem steps_xor (n : Nat) (a b : BitVec 16) : steps n (a ^^^ b) = steps n a ^^^ steps n b := by
  induction n with
  | zero => rfl
  | succ n ih => simp only [steps, ih, step_xor]
theorem steps_zero (n : Nat) : steps n 0#16 = 0#16 := by
  induction n with
  | zero => rfl
  | succ n ih => simp only [steps, ih, step_zero]
theorem steps_inj0 (n : Nat) (a : BitVec 16) (h : steps n a = 0#16) : a = 0#16 := by
  induction n with
  | zero => exact h
  | succ n ih => exact ih (step_inj0 _ h)
theorem byte_xor (z e : BitVec 16) (b : UInt8) : byte (z ^^^ e) b = byte z b ^^^ steps 8 e := by
  unfold byte
  rw [← steps_xor]
  congr 1
  ac_rfl
theorem from_xor (l : List UInt8) : ∀ z e : BitVec 16, from' (z ^^^ e) l = from' z l ^^^ steps (8 * l.length) e := by
  induction l with
  | nil => intro z e; rfl
  | cons b l ih =>
    intro z e
    show from' (byte (z ^^^ e) b) l = from' (byte z b) l ^^^ _
    rw [byte_xor, ih, List.length_cons, Nat.mul_add, steps_add]
theorem from_append (r : BitVec 16) (a b : List UInt8) : from' r (a ++ b) = from' (from' r a) b := by unfold from'; rw [List.foldl_append]

/-- A byte's place, from the most worth on. -/
def bit (q : Nat) : UInt8 := UInt8.ofNat (2 ^ (7 - q))
def flip (l : List UInt8) (k : Nat) : List UInt8 := l.set (k / 8) ((l.getD (k / 8) 0) ^^^ bit (k % 8))
theorem flip_length (l : List UInt8) (k : Nat) : (flip l k).length = l.length := by simp [flip]
theorem bit_steps : ∀ q : Fin 8, steps 8 ((bit q.val).toBitVec.setWidth 16 <<< 8) = steps (8 - q.val) 32768#16 := by decide
theorem byte_flip (r : BitVec 16) (b : UInt8) (q : Nat) (hq : q < 8) : byte r (b ^^^ bit q) = byte r b ^^^ steps (8 - q) 32768#16 := by
  rw [← bit_steps ⟨q, hq⟩]
  unfold byte
  rw [← steps_xor]
  congr 1
  rw [UInt8.toBitVec_xor, BitVec.setWidth_xor, BitVec.shiftLeft_xor_distrib]
  ac_rfl
theorem from_flip (r : BitVec 16) (l : List UInt8) (k : Nat) (hk : k < 8 * l.length) : from' r (flip l k) = from' r l ^^^ steps (8 * l.length - k) 32768#16 := by
  have hi : k / 8 < l.length := by omega
  have h1 : l = l.take (k / 8) ++ l[k / 8] :: l.drop (k / 8 + 1) := by
    rw [← List.drop_eq_getElem_cons hi, List.take_append_drop]
  have h2 : flip l k = l.take (k / 8) ++ (l[k / 8] ^^^ bit (k % 8)) :: l.drop (k / 8 + 1) := by
    unfold flip
    rw [List.set_eq_take_append_cons_drop, if_pos hi, List.getD_eq_getElem?_getD, List.getElem?_eq_getElem hi, Option.getD_some]
  have h3 : from' r l = from' (byte (from' r (l.take (k / 8))) l[k / 8]) (l.drop (k / 8 + 1)) := by
    conv => lhs; rw [h1]
    rw [from_append]; rfl
  rw [h2, h3, from_append]
  show from' (byte _ _) _ = _
  rw [byte_flip _ _ _ (Nat.mod_lt _ (by omega)), from_xor, ← steps_add]
  congr 2
  rw [List.length_drop]
  omega

/-- A burst's bits, the first one the most worth. -/
def rev (burst : Nat) : Nat → BitVec 16
  | 0 => 0#16
  | i + 1 => rev burst i ^^^ (if burst / 2 ^ i % 2 = 1 then 32768#16 >>> i else 0#16)
theorem one_bit : ∀ (j : Fin 16) (p : Fin 16), (32768#16 >>> j.val).getLsbD p.val = decide (p.val = 15 - j.val) := by decide
theorem rev_bit (burst : Nat) : ∀ i, i ≤ 16 → ∀ p, p < 16 → (rev burst i).getLsbD p = (decide (15 - p < i) && decide (burst / 2 ^ (15 - p) % 2 = 1)) := by
  intro i
  induction i with
  | zero => intro _ p hp; simp [rev]
  | succ i ih =>
    intro hi p hp
    simp only [rev, BitVec.getLsbD_xor, ih (by omega) p hp]
    have hb := one_bit ⟨i, by omega⟩ ⟨p, hp⟩
    simp only at hb
    by_cases hpi : p = 15 - i
    · have e : 15 - p = i := by omega
      rw [e]
      split
      · rename_i h1; rw [hb]; simp [hpi, h1]
      · rename_i h1; simp [h1]
    · have e1 : decide (15 - p < i + 1) = decide (15 - p < i) := by congr 1; apply propext; omega
      rw [e1]
      split
      · rw [hb]; simp [hpi]
      · simp
theorem rev_zero (burst : Nat) (hb : burst < 65536) (h : rev burst 16 = 0#16) : burst = 0 := by
  have hall : ∀ j, j < 16 → burst / 2 ^ j % 2 = 0 := by
    intro j hj
    have h1 := rev_bit burst 16 (Nat.le_refl _) (15 - j) (by omega)
    rw [h] at h1
    simp only [BitVec.getLsbD_zero, show 15 - (15 - j) = j from by omega, show decide (j < 16) = true from by simp [hj], Bool.true_and] at h1
    have h2 := decide_eq_false_iff_not.1 h1.symm
    omega
  apply Nat.eq_of_testBit_eq
  intro j
  rw [Nat.zero_testBit, Nat.testBit_eq_decide_div_mod_eq]
  by_cases hj : j < 16
  · simp [hall j hj]
  · have : burst / 2 ^ j = 0 := Nat.div_eq_of_lt (Nat.lt_of_lt_of_le hb (by calc 65536 = 2 ^ 16 := rfl
      _ ≤ 2 ^ j := Nat.pow_le_pow_right (by omega) (by omega)))
    simp [this]
theorem shift_steps : ∀ j : Fin 16, steps j.val (32768#16 >>> j.val) = 32768#16 := by decide +kernel

/-- Bytes with the first i bits of a burst turned, from a place on. -/
def turned (l : List UInt8) (place burst : Nat) : Nat → List UInt8
  | 0 => l
  | i + 1 => if burst / 2 ^ i % 2 = 1 then flip (turned l place burst i) (place + i) else turned l place burst i
theorem turned_length (l : List UInt8) (place burst : Nat) : ∀ i, (turned l place burst i).length = l.length
  | 0 => rfl
  | i + 1 => by
    unfold turned
    split
    · rw [flip_length, turned_length l place burst i]
    · exact turned_length l place burst i
theorem from_turned (r : BitVec 16) (l : List UInt8) (place burst : Nat) (hp : place + 16 ≤ 8 * l.length) : ∀ i, i ≤ 16 → from' r (turned l place burst i) = from' r l ^^^ steps (8 * l.length - place) (rev burst i)
  | 0, _ => by simp [turned, rev, steps_zero]
  | i + 1, hi => by
    have ih := from_turned r l place burst hp i (by omega)
    unfold turned
    split
    · rename_i h1
      rw [from_flip _ _ _ (by rw [turned_length]; omega), ih, turned_length]
      simp only [rev, h1, if_true]
      rw [steps_xor, BitVec.xor_assoc]
      congr 2
      have hj : steps i (32768#16 >>> i) = 32768#16 := shift_steps ⟨i, by omega⟩
      rw [show 8 * l.length - place = (8 * l.length - (place + i)) + i from by omega, steps_add, hj]
    · rename_i h1
      rw [ih]
      simp [rev, h1]

theorem tail_val : ∀ y : UInt8, steps 8 (y.toBitVec.setWidth 16) = y.toBitVec.setWidth 16 <<< 8 := by
  intro y
  have h : ∀ b : BitVec 8, steps 8 (b.setWidth 16) = b.setWidth 16 <<< 8 := by decide +kernel
  exact h y.toBitVec
theorem good_from (l : List UInt8) (h : 2 ≤ l.length) : good l = (from' 65535#16 l == 0#16) := by
  have hs := split2 l h
  rw [good_eq l h]
  generalize l[l.length - 2]'(by omega) = x at *
  generalize l[l.length - 1]'(by omega) = y at *
  conv => rhs; rw [hs]
  rw [from_append]
  show _ = (byte (byte (of (body l)) x) y == 0#16)
  generalize of (body l) = q
  have h1 : byte (byte q x) y = steps 16 (q ^^^ (x.toBitVec.setWidth 16 <<< 8) ^^^ y.toBitVec.setWidth 16) := by
    unfold byte
    rw [← tail_val y, ← steps_xor, ← steps_add]
  rw [h1, Bool.eq_iff_iff, beq_iff_eq, beq_iff_eq]
  have hx := x.toNat_lt
  have hy := y.toNat_lt
  have hq := q.isLt
  have e : (x.toBitVec.setWidth 16 <<< 8 ^^^ y.toBitVec.setWidth 16).toNat = 256 * x.toNat + y.toNat := by
    have e1 : (x.toBitVec.setWidth 16 <<< 8).toNat = x.toNat * 2 ^ 8 := by simp [BitVec.toNat_shiftLeft, Nat.shiftLeft_eq]; omega
    have e2 : (y.toBitVec.setWidth 16).toNat = y.toNat := by simp
    rw [BitVec.toNat_xor, e1, e2]
    apply Nat.eq_of_testBit_eq
    intro i
    rw [Nat.testBit_xor, Nat.mul_comm 256, show (256 : Nat) = 2 ^ 8 from rfl, Nat.mul_comm x.toNat, Nat.testBit_two_pow_mul, Nat.testBit_two_pow_mul_add _ hy]
    by_cases hi : i < 8
    · have h8 : ¬ 8 ≤ i := by omega
      simp [hi, h8]
    · have h8 : 8 ≤ i := by omega
      have : y.toNat.testBit i = false := Nat.testBit_lt_two_pow (Nat.lt_of_lt_of_le hy (Nat.pow_le_pow_right (by omega) (by omega)))
      simp [hi, h8, this]
  constructor
  · intro h2
    have : q = x.toBitVec.setWidth 16 <<< 8 ^^^ y.toBitVec.setWidth 16 := BitVec.eq_of_toNat_eq (by rw [e]; omega)
    rw [BitVec.xor_assoc, ← this]
    simp [steps_zero]
  · intro h2
    have h3 := steps_inj0 _ _ h2
    rw [BitVec.xor_assoc] at h3
    have h4 : q = x.toBitVec.setWidth 16 <<< 8 ^^^ y.toBitVec.setWidth 16 := BitVec.xor_eq_zero_iff.1 h3
    have h5 := congrArg BitVec.toNat h4
    rw [e] at h5
    omega
theorem sealed_len (l : List UInt8) : (sealed l).length = l.length + 2 := by simp [sealed]
theorem body_sealed (l : List UInt8) : body (sealed l) = l := by unfold body; rw [sealed_len]; simp [sealed]
theorem good_sealed (l : List UInt8) : good (sealed l) = true := by
  unfold good; rw [body_sealed, sealed_len]; simp
theorem good_turned (l : List UInt8) (place burst : Nat) (hp : place + 16 ≤ 8 * (sealed l).length) (hb : burst < 65536) : good (turned (sealed l) place burst 16) = decide (burst = 0) := by
  have h2 : 2 ≤ (sealed l).length := by rw [sealed_len]; omega
  rw [good_from _ (by rw [turned_length]; exact h2), from_turned _ _ _ _ hp 16 (Nat.le_refl _)]
  have hg := good_sealed l
  rw [good_from _ h2, beq_iff_eq] at hg
  rw [hg, BitVec.zero_xor, Bool.eq_iff_iff, beq_iff_eq, decide_eq_true_eq]
  constructor
  · intro h; exact rev_zero burst hb (steps_inj0 _ _ h)
  · rintro rfl
    have : ∀ i, rev 0 i = 0#16 := by
      intro i; induction i with
      | zero => rfl
      | succ i ih => simp [rev, ih]
    rw [this, steps_zero]
end Crc
namespace Crc
theorem bit_val (q : Nat) (hq : q < 8) : (bit q).toNat = 2 ^ (7 - q) := by
  unfold bit; rw [UInt8.toNat_ofNat_of_lt']; show _ < 256
  exact Nat.lt_of_le_of_lt (Nat.pow_le_pow_right (by omega) (show 7 - q ≤ 7 by omega)) (by decide)
theorem xor_bit : ∀ (b : UInt8) (q : Nat), q < 8 → (b ^^^ bit q).toNat = if b.toNat / 2 ^ (7 - q) % 2 = 1 then b.toNat - 2 ^ (7 - q) else b.toNat + 2 ^ (7 - q) := by
  intro b q hq
  have h : ∀ (b : BitVec 8) (q : Fin 8), (b ^^^ (bit q.val).toBitVec).toNat = if b.toNat / 2 ^ (7 - q.val) % 2 = 1 then b.toNat - 2 ^ (7 - q.val) else b.toNat + 2 ^ (7 - q.val) := by decide +kernel
  exact h b.toBitVec ⟨q, hq⟩
end Crc
