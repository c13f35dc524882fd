
/- Commands (layer 18), plain: how many numbers, what may be, bytes, the command of bytes. -/
import Derived.Test.YtpnpgeilhafepaaDoorOctP
namespace Go.Proofs.YtpnpgeilhafepaaDoor
structure Com where
  kind : Int
  a : Int
  b : Int
  c : Int
  d : Int
  e : Int
deriving DecidableEq
namespace Cmd
def zero : Com := ⟨0, 0, 0, 0, 0, 0⟩
def counts : List Int := [0, 1, 5, 3, 4, 2, 2, 2, 1, 1, 2, 1, 2, 1, 1, 1]
def numbers (k : Int) : Int := if k < 0 ∨ 16 ≤ k then -1 else counts.getD k.toNat 0
def nums (m : Com) : List Int := [m.a, m.b, m.c, m.d, m.e]
def rest (m : Com) (n : Int) : Bool := (List.range 5).all fun i => decide ((i : Int) < n) || decide ((nums m).getD i 0 = 0)
def right (m : Com) (bs : List UInt8) : Bool := decide (0 ≤ numbers m.kind) && decide (bs.length ≤ 64) && (decide (m.kind = 0) || decide (bs.length = 0)) && rest m (numbers m.kind)
def num8 (n : Int) : List UInt8 := Oct.be 8 (Oct.u64 n)
def head (m : Com) : List UInt8 := UInt8.ofNat m.kind.toNat :: ((nums m).take (numbers m.kind).toNat).flatMap num8
def bytes (m : Com) (bs : List UInt8) : List UInt8 := if m.kind = 0 then head m ++ (Oct.be 4 bs.length ++ bs) else head m
def encode (m : Com) (bs : List UInt8) : List UInt8 × Int := if right m bs = true then (bytes m bs, 0) else ([], 1)
/-- So many numbers read. -/
def ints : Nat → List UInt8 × Int → List Int × (List UInt8 × Int)
  | 0, s => ([], s)
  | n + 1, s => let q := ints n s; (q.1 ++ [(Oct.int q.2).1], (Oct.int q.2).2)
def com (k : Int) (l : List Int) : Com := ⟨k, l.getD 0 0, l.getD 1 0, l.getD 2 0, l.getD 3 0, l.getD 4 0⟩
/-- What is behind the kind. -/
def behind (k : Int) (s : List UInt8 × Int) : (Com × List UInt8) × (List UInt8 × Int) :=
  let q := ints (numbers k).toNat s
  let t := if k = 0 then Oct.run q.2 else ([], q.2)
  ((com k q.1, t.1), t.2)
def decode (b : List UInt8) : (Com × List UInt8) × Int :=
  let q := Oct.num (b, 0) 1
  let r := behind q.1 q.2
  if Oct.done r.2 = 0 ∧ right r.1.1 r.1.2 = true then (r.1, 0) else ((zero, []), 2)

theorem numbers_vals (k : Int) : (0 ≤ k ∧ k < 16 ∧ 0 ≤ numbers k ∧ numbers k ≤ 5) ∨ ((k < 0 ∨ 16 ≤ k) ∧ numbers k = -1) := by
  unfold numbers
  by_cases h : k < 0 ∨ 16 ≤ k
  · rw [if_pos h]; exact .inr ⟨h, rfl⟩
  · rw [if_neg h]
    have : k.toNat < 16 := by omega
    refine .inl ⟨by omega, by omega, ?_⟩
    generalize k.toNat = j at this
    have hd : ∀ j : Fin 16, 0 ≤ counts.getD j.val 0 ∧ counts.getD j.val 0 ≤ 5 := by decide
    exact hd ⟨j, this⟩
theorem ints_len (n : Nat) (s : List UInt8 × Int) : (ints n s).1.length = n := by
  induction n with
  | zero => rfl
  | succ n ih => unfold ints; dsimp only; rw [List.length_append, ih]; rfl
theorem putInt_ok (b : List UInt8) (n : Int) : Oct.putInt (b, 0) n = (b ++ num8 n, 0) := by
  unfold Oct.putInt Oct.put num8
  have := Oct.u64_lt n
  rw [if_neg (by simp), if_neg (by rw [show (8 : Int).toNat = 8 from rfl, show (256 : Nat) ^ 8 = 18446744073709551616 by decide]; omega)]
  rfl
theorem flat_len (l : List Int) : (l.flatMap num8).length = 8 * l.length := by
  induction l with
  | nil => rfl
  | cons n l ih => rw [List.flatMap_cons, List.length_append, ih, List.length_cons, show (num8 n).length = 8 from Oct.be_len 8 _]; omega
def headk (m : Com) (k : Nat) : List UInt8 := UInt8.ofNat m.kind.toNat :: ((nums m).take k).flatMap num8
theorem headk_len (m : Com) (k : Nat) : (headk m k).length ≤ 41 := by
  unfold headk
  have : (nums m).length = 5 := rfl
  rw [List.length_cons, flat_len, List.length_take]
  omega
theorem putInt_k (m : Com) (k : Nat) (n : Int) (h : k < (nums m).length) (hn : (nums m)[k] = n) : Oct.putInt (headk m k, 0) n = (headk m (k + 1), 0) := by
  rw [putInt_ok, ← hn]
  unfold headk
  rw [List.take_succ_eq_append_getElem h, List.flatMap_append]
  simp
theorem put_kind (m : Com) (h0 : 0 ≤ m.kind) (h1 : m.kind < 16) : Oct.put ([], 0) m.kind.toNat 1 = (headk m 0, 0) := by
  unfold Oct.put headk
  rw [if_neg (by simp), if_neg (by simp; omega)]
  have hl : Oct.be 1 m.kind.toNat = [UInt8.ofNat m.kind.toNat] := by
    rw [Oct.be_split]; rfl
  rw [show (1 : Int).toNat = 1 from rfl, hl]
  rfl
theorem putRun_ok (b r : List UInt8) (h : r.length ≤ 300) : Oct.putRun (b, 0) r = (b ++ (Oct.be 4 r.length ++ r), 0) := by
  have hp : Oct.put (b, 0) r.length 4 = (b ++ Oct.be 4 r.length, 0) := by
    unfold Oct.put
    rw [if_neg (by simp), if_neg (by rw [show (4 : Int).toNat = 4 from rfl, show (256 : Nat) ^ 4 = 4294967296 by decide]; omega)]
    rfl
  unfold Oct.putRun
  rw [hp, if_neg (by simp), List.append_assoc]
theorem right_kind {m : Com} {bs : List UInt8} (h : right m bs = true) : 0 ≤ m.kind ∧ m.kind < 16 ∧ 0 ≤ numbers m.kind ∧ numbers m.kind ≤ 5 ∧ bs.length ≤ 64 ∧ (m.kind ≠ 0 → bs.length = 0) := by
  unfold right at h
  simp only [Bool.and_eq_true, Bool.or_eq_true, decide_eq_true_eq] at h
  obtain ⟨⟨⟨h1, h2⟩, h3⟩, _⟩ := h
  rcases numbers_vals m.kind with ⟨a, b, c, d⟩ | ⟨_, e⟩
  · exact ⟨a, b, c, d, h2, fun hk => h3.resolve_left hk⟩
  · omega
end Cmd
end Go.Proofs.YtpnpgeilhafepaaDoor
