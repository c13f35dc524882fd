/- Lots (layer 14): allowance, over, own. -/
import Derived.Test.YthgmnlkblomcaaaRows
import Derived.Test.YthgmnlkblomcaaaSat
namespace Go.Proofs.Ythgmnlkblomcaaa
open Go.RowKit Go.Hf

structure Lot where
  id : Int
  product : Int
  units : Int
  expiry : Int
  grant : Int
  order : Int
  status : Int
structure Prod where
  id : Int
  limit : Int
  budget : Int
structure Stay where
  zone : Int
  frm : Int
  to_ : Int
deriving DecidableEq
def encS (x : Stay) : List Value := [.int .i64 x.zone, .int .i64 x.frm, .int .i64 x.to_]
theorem encS_len (x : Stay) : (encS x).length = 3 := rfl
theorem encS_one (o : Stay) : ∀ u ∈ encS o, u.oneCell' = true := by intro u hu; simp [encS] at hu; rcases hu with rfl | rfl | rfl <;> rfl
abbrev aggL (d : Lot) (A : Option Addr) (n c : Nat) : Value := .agg #[.int .i64 d.id, .int .i64 d.product, .int .i64 d.units, .int .i64 d.expiry, .int .i64 d.grant, .int .i64 d.order, .int .i64 d.status, .slice A n c]
abbrev aggP (p : Prod) : Value := .agg #[.int .i64 p.id, .int .i64 p.limit, .int .i64 p.budget]
abbrev Stays (w : World) (v : Value) (l : List Stay) : Prop := SlV 3 (flat encS) w v l
def Lot.zero : Lot := ⟨0, 0, 0, 0, 0, 0, 0⟩

set_option maxRecDepth 100000 in
set_option maxHeartbeats 400000 in
theorem clone_stays (v : Value) (l : List Stay) (w : World) (h : SlV 3 (flat encS) w v l) (hm : l.length * 24 ≤ 140737488355328) :
    Calls Try.prog 118 #[v] w fun e w' => ∃ v', e = .returned v' ∧ Own w.heap.size 146 3 encS w' v' l ∧ Fr w w' ∧ (v' = .slice none 0 0 ↔ v = .slice none 0 0) := by
  obtain ⟨A, _, c, rfl, rfl, hl, _, hA, h⟩ := h
  have HS := Lib.hid h
  have HC := Lib.hid hl
  have HAc := Lib.hid hA
  have HM := Lib.hid hm
  clear h hl hA hm
  cases A with
  | none =>
    obtain rfl : l = [] := HS.out.1 rfl
    obtain rfl : c = 0 := HAc.out rfl
    have hq := fun wx => Lib.run_eql_slice_nil (P := Try.prog) wx 71 146 none 0 0 0 0 Try.underlying71
    go_enter Try.func118, Try.ntmps118
    go_wp2
    go_ret
    exact ⟨_, rfl, Own.nil _ _ _ _ _, Fr.refl _, by simp⟩
  | some a =>
    have hq := fun wx => Lib.run_eql_slice_nil (P := Try.prog) wx 71 146 (some a) l.length c 0 0 Try.underlying71
    go_enter Try.func118, Try.ntmps118
    go_wp2_with ((with_reducible refine gate (.call { callee := .builtin .append, args := #[.tmp 5, .tmp 6], argTypes := #[71, 71] }) rfl ?_); refine wpList_app rfl (.tmp 5) (.tmp 6) 71 rfl w.heap.size 146 (.agg #[.int .i64 0, .int .i64 0, .int .i64 0]) 3 24 Try.underlying71 (by kernel_rfl) rfl (by decide) encS_len encS_one (l := []) rfl (Own.lit _ _ _ _ w #[] [] (Nat.le_refl _) (Nat.zero_le _) encS_len rfl) rfl HC.out ((HS.out.fr (flat_stays _) ((Fr.refl w).alloc _)).raw encS_len (by decide)) (fun h => (by cases h)) ?_ ?_ ?_ ?_)
    · have := HM.out; simp; omega
    · have := HM.out; simp [maxLen]; omega
    · simp
    · intro v' w1 h1 h2 h3 _
      have H3 := Lib.hid h3
      clear h3
      go_wp2
      go_ret
      refine ⟨_, rfl, h1, Fr.grown ((Fr.refl w).alloc _) h2 (fun k hk => ?_), ?_⟩
      · simp [Value.ownBlock] at hk; omega
      · simpa using H3.out

theorem new_cell_at (w : World) (cs : Array Value) (t : TypeId) (i : Nat) (u : Value) (h : cs[i]? = some u) {g : Nat} (hg : g = w.heap.size := by simp) : (w.alloc (.cells cs t)).cell? ⟨g, i, none⟩ = some u := by
  subst hg; exact new_cells w cs t i u h
theorem sat_Add2 (a b : Int) (w : World) (g : Nat) (h0 : w.cell? ⟨g, 0, none⟩ = some (.int .i64 a)) (h1 : w.cell? ⟨g, 1, none⟩ = some (.int .i64 b)) :
    Calls Try.prog 107 #[.slice (some ⟨g, 0, none⟩) 2 2] w fun e w' => e = .returned (.int .i64 (Sat.two a b)) ∧ w = w' := by
  rw [← Sat.add_two]
  refine sat_Add _ [a, b] w ⟨some ⟨g, 0, none⟩, 2, 2, rfl, rfl, by omega, by simp [maxLen], (fun h => by cases h), (fun h => by cases h), fun x hx => ?_⟩
  obtain rfl := Option.some.inj hx
  refine ⟨fun _ => rfl, fun i y hy => ?_⟩
  match i, hy with
  | 0, hy => obtain rfl := Option.some.inj hy; exact ⟨[.int .i64 a], rfl, rfl, fun j u hu => by cases j with
    | zero => obtain rfl := Option.some.inj hu; exact h0
    | succ j => simp at hu⟩
  | 1, hy => obtain rfl := Option.some.inj hy; exact ⟨[.int .i64 b], rfl, rfl, fun j u hu => by cases j with
    | zero => obtain rfl := Option.some.inj hu; exact h1
    | succ j => simp at hu⟩
  | i + 2, hy => simp at hy

namespace Keep
def allow (p : Prod) (d : Lot) : Int := Sat.two p.budget d.grant
def over (p : Prod) (d : Lot) (x : Int) : Bool := decide (allow p d < x)
end Keep

set_option maxRecDepth 100000 in
theorem keep_Allowance (p : Prod) (d : Lot) (A : Option Addr) (n c : Nat) (w : World) :
    Calls Try.prog 59 #[aggP p, aggL d A n c] w fun e w' => e = .returned (.int .i64 (Keep.allow p d)) ∧ Fr w w' := by
  go_enter Try.func59, Try.ntmps59
  go_wp2_with (go_at_call 107; go_must (refine (sat_Add2 p.budget d.grant _ _ (new_cell_at _ #[.int .i64 p.budget, .int .i64 d.grant] _ 0 _ rfl) (new_cell_at _ #[.int .i64 p.budget, .int .i64 d.grant] _ 1 _ rfl)).mono ?_; rintro _ w1 ⟨rfl, rfl⟩))
  go_ret
  exact ⟨rfl, ((Fr.refl _).alloc _).alloc _ |>.alloc _⟩
set_option maxRecDepth 100000 in
theorem ref14_Allowance (p : Prod) (d : Lot) (A : Option Addr) (n c : Nat) (w : World) :
    Calls Try.prog 60 #[aggP p, aggL d A n c] w fun e w' => e = .returned (.int .i64 (Keep.allow p d)) ∧ Fr w w' := by
  go_enter Try.func60, Try.ntmps60
  go_wp2_with (go_at_call 109; go_must (refine (ref02_Two _ _ _).mono ?_; rintro _ w1 ⟨rfl, rfl⟩))
  go_ret
  exact ⟨rfl, ((Fr.refl _).alloc _).alloc _⟩
set_option maxRecDepth 100000 in
theorem keep_over (p : Prod) (d : Lot) (A : Option Addr) (n c : Nat) (x : Int) (w : World) :
    Calls Try.prog 100 #[aggP p, aggL d A n c, .int .i64 x] w fun e w' => e = .returned (.bool (Keep.over p d x)) ∧ Fr w w' := by
  go_enter Try.func100, Try.ntmps100
  go_wp2_with (go_at_call 59; go_must (refine (keep_Allowance p d A n c _).mono ?_; rintro _ w1 ⟨rfl, hf⟩))
  go_ret
  exact ⟨rfl, (((Fr.refl _).alloc _).alloc _).trans hf⟩
set_option maxRecDepth 100000 in
theorem ref14_Over (p : Prod) (d : Lot) (A : Option Addr) (n c : Nat) (x : Int) (w : World) :
    Calls Try.prog 102 #[aggP p, aggL d A n c, .int .i64 x] w fun e w' => e = .returned (.bool (Keep.over p d x)) ∧ Fr w w' := by
  go_enter Try.func102, Try.ntmps102
  go_wp2_with (go_at_call 60; go_must (refine (ref14_Allowance p d A n c _).mono ?_; rintro _ w1 ⟨rfl, hf⟩))
  go_ret
  exact ⟨rfl, (((Fr.refl _).alloc _).alloc _).trans hf⟩
end Go.Proofs.Ythgmnlkblomcaaa
