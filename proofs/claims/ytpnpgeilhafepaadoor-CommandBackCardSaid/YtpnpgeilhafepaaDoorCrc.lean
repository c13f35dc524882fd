
/- The sum of bytes: plain laws. -/
namespace Crc
def step (r : BitVec 16) : BitVec 16 := if r.msb then (r <<< 1) ^^^ 4129#16 else r <<< 1
def steps : Nat → BitVec 16 → BitVec 16
  | 0, r => r
  | k + 1, r => step (steps k r)
def byte (r : BitVec 16) (b : UInt8) : BitVec 16 := steps 8 (r ^^^ (b.toBitVec.setWidth 16 <<< 8))
def from' (r : BitVec 16) (l : List UInt8) : BitVec 16 := l.foldl byte r
def of (l : List UInt8) : BitVec 16 := from' 65535#16 l
theorem from_take (r : BitVec 16) (l : List UInt8) (k : Nat) (h : k < l.length) : from' r (l.take (k + 1)) = byte (from' r (l.take k)) l[k] := by
  unfold from'
  rw [List.take_succ_eq_append_getElem h, List.foldl_append]; rfl
end Crc
namespace Crc
def hi (l : List UInt8) : UInt8 := UInt8.ofNat ((of l).toNat / 256)
def lo (l : List UInt8) : UInt8 := UInt8.ofNat ((of l).toNat % 256)
def sealed (l : List UInt8) : List UInt8 := l ++ [hi l, lo l]
theorem hi_val (l : List UInt8) : (hi l).toNat = (of l).toNat / 256 := by
  have := (of l).isLt
  unfold hi; rw [UInt8.toNat_ofNat_of_lt']; show _ < 256; omega
theorem lo_val (l : List UInt8) : (lo l).toNat = (of l).toNat % 256 := by
  unfold lo; rw [UInt8.toNat_ofNat_of_lt']; show _ < 256; omega
end Crc
namespace Crc
/-- What was sealed. -/
def body (l : List UInt8) : List UInt8 := l.take (l.length - 2)
def good (l : List UInt8) : Bool := decide (2 ≤ l.length) && (sealed (body l) == l)
end Crc
namespace Crc
theorem split2 (l : List UInt8) (h : 2 ≤ l.length) : l = body l ++ [l[l.length - 2]'(by omega), l[l.length - 1]'(by omega)] := by
  have h1 := List.take_append_drop (l.length - 2) l
  have h2 : l.drop (l.length - 2) = [l[l.length - 2]'(by omega), l[l.length - 1]'(by omega)] := by
    rw [List.drop_eq_getElem_cons (by omega), List.drop_eq_getElem_cons (by omega), List.drop_eq_nil_of_le (by omega)]
    congr 2
    congr 1
    omega
  unfold body
  rw [← h2, h1]
theorem good_eq (l : List UInt8) (h : 2 ≤ l.length) : good l = (((of (body l)).toNat : Int) == 256 * ((l[l.length - 2]'(by omega)).toNat : Int) + ((l[l.length - 1]'(by omega)).toNat : Int)) := by
  have hs := split2 l h
  generalize l[l.length - 2]'(by omega) = x at *
  generalize l[l.length - 1]'(by omega) = y at *
  unfold good
  rw [Bool.eq_iff_iff]
  simp only [h, decide_true, Bool.true_and, beq_iff_eq]
  have hx := x.toNat_lt
  have hy := y.toNat_lt
  have hr := (of (body l)).isLt
  have h1 := hi_val (body l)
  have h2 := lo_val (body l)
  constructor
  · intro e
    have e2 : sealed (body l) = body l ++ [x, y] := e.trans hs
    unfold sealed at e2
    have e3 := List.append_cancel_left e2
    simp only [List.cons.injEq, and_true] at e3
    rw [e3.1] at h1; rw [e3.2] at h2
    omega
  · intro e
    rw [hs]
    have e1 : hi (body l) = x := UInt8.toNat_inj.1 (by omega)
    have e2 : lo (body l) = y := UInt8.toNat_inj.1 (by omega)
    unfold sealed
    rw [← hs, e1, e2]
    exact hs.symm
end Crc
