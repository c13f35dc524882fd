
/- Readings (layer 6), plain: what may be, which is ahead, one put, the air, the next minute. -/
import Derived.Test.YtggeloihnbjogaaStI
namespace Go.Proofs.Ytggeloihnbjogaa
open Go.RowKit Go.Hf
structure Rd where
  m : Int
  s : Int
  t : Int
deriving DecidableEq
def encR (x : Rd) : List Value := [.int .i64 x.m, .int .i64 x.s, .int .i64 x.t]
theorem encR_len (x : Rd) : (encR x).length = 3 := rfl
theorem encR_one (o : Rd) : ∀ u ∈ encR o, u.oneCell' = true := by intro u hu; simp [encR] at hu; rcases hu with rfl | rfl | rfl <;> rfl
abbrev aggR (x : Rd) : Value := .agg #[.int .i64 x.m, .int .i64 x.s, .int .i64 x.t]
abbrev Rds (w : World) (v : Value) (l : List Rd) : Prop := SlV 3 (flat encR) w v l
namespace Ser
def zero : Rd := ⟨0, 0, 0⟩
def tenth (t : Int) : Bool := decide (-1099511627776 ≤ t) && decide (t ≤ 1099511627776)
def right (r : Rd) : Bool := decide (0 ≤ r.m) && decide (r.m < 1048576) && decide (0 ≤ r.s) && decide (r.s < 65536) && tenth r.t
def may (worst gap : Int) : Bool := tenth worst && decide (0 ≤ gap) && decide (gap < 1048576)
/-- Below 0: a is ahead of b; 0: they are of one number. -/
def cmp (a b : Rd) : Int := if a.m - b.m ≠ 0 then a.m - b.m else a.s - b.s
/-- A reading put, from a place on towards the front. -/
def putAt (l : List Rd) (r : Rd) : Nat → Bool × List Rd
  | 0 => (true, r :: l)
  | k + 1 => match l[k]? with
    | none => (true, r :: l)
    | some x => if cmp x r < 0 then (true, l.take (k + 1) ++ r :: l.drop (k + 1)) else if cmp x r = 0 then (decide (x.t < r.t), l.set k { x with t := max x.t r.t }) else putAt l r k
def put (l : List Rd) (r : Rd) : Bool × List Rd := putAt l r l.length
/-- How many are not behind a minute. -/
def upto (l : List Rd) (m : Int) : Nat := (l.takeWhile fun x => decide (x.m ≤ m)).length
def last (l : List Rd) (gap m : Int) : Option Rd := if upto l m = 0 then none else match l[upto l m - 1]? with
  | none => none
  | some x => if gap < m - x.m then none else some x
def air (l : List Rd) (worst gap m : Int) : Int := match last l gap m with | none => worst | some x => x.t
def next (l : List Rd) (gap m : Int) : Int :=
  let a := match l[upto l m]? with | none => -1 | some x => x.m
  match last l gap m with
  | none => a
  | some x => if a < 0 ∨ x.m + gap + 1 < a then x.m + gap + 1 else a
end Ser
end Go.Proofs.Ytggeloihnbjogaa
