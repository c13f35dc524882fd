
/- Certificates (layer 17), plain: whether one may be, its bytes, that of bytes. -/
import Derived.Test.YtpnpgeilhafepaaOctP
import Derived.Test.YtpnpgeilhafepaaBurst
namespace Go.Proofs.Ytpnpgeilhafepaa

structure Cert where
  id : Int
  order : Int
  lot : Int
  product : Int
  units : Int
  minute : Int
  exposure : Int
  allowance : Int
deriving DecidableEq
namespace Crt
def zero : Cert := ⟨0, 0, 0, 0, 0, 0, 0, 0⟩
def nums (c : Cert) : List Int := [c.id, c.order, c.lot, c.product, c.units, c.minute, c.exposure, c.allowance]
def may (n : Int) : Bool := decide (0 ≤ n) && decide (n ≤ 4611686018427387904)
def right (c : Cert) : Bool := (nums c).all may
def num8 (n : Int) : List UInt8 := Oct.be 8 (Oct.u64 n)
def raw (c : Cert) : List UInt8 := (nums c).flatMap num8
def encode (c : Cert) : List UInt8 × Int := if right c = true then (Crc.sealed (raw c), 0) else ([], 1)
def chunk (b : List UInt8) (i : Nat) : List UInt8 := (b.drop (8 * i)).take 8
def at_ (b : List UInt8) (i : Nat) : Int := Oct.i64 (Oct.val (chunk b i))
def read (b : List UInt8) : Cert := ⟨at_ b 0, at_ b 1, at_ b 2, at_ b 3, at_ b 4, at_ b 5, at_ b 6, at_ b 7⟩
def decode (b : List UInt8) : Cert × Int :=
  if b.length ≠ 66 then (zero, 2) else if Crc.good b = false then (zero, 3) else if right (read b) = true then (read b, 0) else (zero, 2)

theorem num8_len (n : Int) : (num8 n).length = 8 := Oct.be_len 8 _
theorem raw_len (c : Cert) : (raw c).length = 64 := by
  unfold raw nums
  simp [List.flatMap_cons, num8_len]
theorem may_iff (n : Int) : may n = true ↔ 0 ≤ n ∧ n ≤ 4611686018427387904 := by
  unfold may
  rw [Bool.and_eq_true, decide_eq_true_eq, decide_eq_true_eq]
theorem i64_u64 (n : Int) (h : may n = true) : Oct.i64 (Oct.u64 n) = n := by
  obtain ⟨h1, h2⟩ := (may_iff n).1 h
  unfold Oct.i64 Oct.u64
  rw [if_pos (by omega)]
  omega
theorem u64_i64 (n : Nat) (h : n < 18446744073709551616) : Oct.u64 (Oct.i64 n) = n := by
  unfold Oct.i64 Oct.u64
  split <;> omega
theorem be_val : ∀ (k : Nat) (l : List UInt8), l.length = k → Oct.be k (Oct.val l) = l
  | 0, l, h => by
    obtain rfl : l = [] := List.eq_nil_of_length_eq_zero h
    rfl
  | k + 1, l, h => by
    rcases List.eq_nil_or_concat l with rfl | ⟨t, b, rfl⟩
    · simp at h
    · rw [List.concat_eq_append] at *
      have hb := b.toNat_lt
      have ht : t.length = k := by simpa using h
      rw [Oct.val_snoc, Oct.be_split, show (256 * Oct.val t + b.toNat) / 256 = Oct.val t by omega, be_val k t ht]
      congr 2
      apply UInt8.toNat.inj
      rw [UInt8.toNat_ofNat']
      omega
theorem take8 (a r : List UInt8) (h : a.length = 8) : (a ++ r).take 8 = a ∧ (a ++ r).drop 8 = r := ⟨List.take_left' h, List.drop_left' h⟩
theorem chunk_zero (a r : List UInt8) (h : a.length = 8) : chunk (a ++ r) 0 = a := by unfold chunk; rw [Nat.mul_zero, List.drop_zero]; exact (take8 a r h).1
theorem chunk_succ (a r : List UInt8) (i : Nat) (h : a.length = 8) : chunk (a ++ r) (i + 1) = chunk r i := by
  unfold chunk
  rw [show 8 * (i + 1) = a.length + 8 * i by omega, List.drop_length_add_append]
theorem at_raw (l : List Int) (r : List UInt8) : ∀ i (h : i < l.length), at_ (l.flatMap num8 ++ r) i = Oct.i64 (Oct.u64 l[i]) := by
  induction l with
  | nil => intro i h; simp at h
  | cons n l ih =>
    intro i h
    rw [List.flatMap_cons, List.append_assoc]
    cases i with
    | zero =>
      unfold at_
      rw [chunk_zero _ _ (num8_len n)]
      unfold num8
      rw [Oct.val_be 8 _ (Oct.u64_lt n)]
      rfl
    | succ i =>
      have : at_ (num8 n ++ (l.flatMap num8 ++ r)) (i + 1) = at_ (l.flatMap num8 ++ r) i := by unfold at_; rw [chunk_succ _ _ _ (num8_len n)]
      rw [this]
      exact ih i (by simpa using h)
theorem read_raw (c : Cert) (r : List UInt8) (h : right c = true) : read (raw c ++ r) = c := by
  have hm : ∀ n ∈ nums c, may n = true := by
    intro n hn
    exact List.all_eq_true.1 h n hn
  have e : ∀ i (hi : i < (nums c).length), at_ (raw c ++ r) i = (nums c)[i] := fun i hi => by
    rw [show raw c = (nums c).flatMap num8 from rfl, at_raw (nums c) r i hi, i64_u64 _ (hm _ (List.getElem_mem hi))]
  obtain ⟨a0, a1, a2, a3, a4, a5, a6, a7⟩ := c
  unfold read
  rw [e 0 (by simp [nums]), e 1 (by simp [nums]), e 2 (by simp [nums]), e 3 (by simp [nums]), e 4 (by simp [nums]), e 5 (by simp [nums]), e 6 (by simp [nums]), e 7 (by simp [nums])]
  rfl
theorem sealed_app (l : List UInt8) : ∃ r, Crc.sealed l = l ++ r := ⟨_, rfl⟩
theorem decode_encode (c : Cert) (h : right c = true) : decode (Crc.sealed (raw c)) = (c, 0) := by
  unfold decode
  have hl : (Crc.sealed (raw c)).length = 66 := by rw [Crc.sealed_len, raw_len]
  rw [if_neg (by simp [hl]), if_neg (by rw [Crc.good_sealed]; simp)]
  obtain ⟨r, e⟩ := sealed_app (raw c)
  rw [e, read_raw c r h, if_pos h]
theorem chunk_len (b : List UInt8) (i : Nat) (h : 8 * i + 8 ≤ b.length) : (chunk b i).length = 8 := by
  unfold chunk
  rw [List.length_take, List.length_drop]
  omega
theorem num8_at (b : List UInt8) (i : Nat) (h : 8 * i + 8 ≤ b.length) : num8 (at_ b i) = chunk b i := by
  unfold num8 at_
  have hl := chunk_len b i h
  have := Oct.val_lt (chunk b i)
  rw [hl] at this
  rw [u64_i64 _ this, be_val 8 _ hl]
theorem chunk_join (b : List UInt8) (i : Nat) : b.take (8 * (i + 1)) = b.take (8 * i) ++ chunk b i := by
  unfold chunk
  rw [show 8 * (i + 1) = 8 * i + 8 by omega, List.take_add]
theorem raw_read (b : List UInt8) (h : 64 ≤ b.length) : raw (read b) = b.take 64 := by
  unfold raw nums read
  simp only [List.flatMap_cons, List.flatMap_nil, List.append_nil]
  rw [num8_at b 0 (by omega), num8_at b 1 (by omega), num8_at b 2 (by omega), num8_at b 3 (by omega), num8_at b 4 (by omega), num8_at b 5 (by omega), num8_at b 6 (by omega), num8_at b 7 (by omega)]
  rw [show (64 : Nat) = 8 * (7 + 1) from rfl, chunk_join b 7, chunk_join b 6, chunk_join b 5, chunk_join b 4, chunk_join b 3, chunk_join b 2, chunk_join b 1, chunk_join b 0]
  simp
/-- Bytes that are a certificate's are its. -/
theorem encode_decode (b : List UInt8) (h : (decode b).2 = 0) : encode (decode b).1 = (b, 0) := by
  unfold decode at h ⊢
  split at h
  · cases h
  · rename_i hl
    have hl : b.length = 66 := by simpa using hl
    split at h
    · cases h
    · rename_i hg
      split at h
      · rename_i hr
        rw [if_neg (by simp [hl]), if_neg hg, if_pos hr]
        unfold encode
        rw [if_pos hr, raw_read b (by omega)]
        have hb : Crc.good b = true := by simpa using hg
        unfold Crc.good Crc.body at hb
        simp only [Bool.and_eq_true, beq_iff_eq] at hb
        have h2 := hb.2
        rw [hl] at h2
        rw [h2]
      · cases h
theorem decode_right (b : List UInt8) (h : (decode b).2 = 0) : right (decode b).1 = true := by
  unfold decode at h ⊢
  split at h
  · cases h
  · split at h
    · cases h
    · split at h
      · rename_i h1 h2 h3
        rw [if_neg h1, if_neg h2, if_pos h3]
        exact h3
      · cases h
end Crt
end Go.Proofs.Ytpnpgeilhafepaa
