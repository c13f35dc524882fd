/- Small laws over any program: rows that are stored whole, what a call may change. -/
import Derived.WalkKit
import Derived.WalkSpells
import Derived.WalkLawsBesides
import Derived.Lib.Hide
import Derived.Deep.DeepMust
namespace Go.Hf
open Go.RowKit

/-- Nothing that was there has changed. -/
def Fr (w w' : World) : Prop := Below w.heap.size w w'
theorem Fr.refl (w : World) : Fr w w := Below.refl _ _
theorem Fr.trans {a b c : World} (h : Fr a b) (k : Fr b c) : Fr a c := Below.trans h (Below.mono k (Below.size h))
theorem Fr.alloc {a b : World} (h : Fr a b) (o : Obj) : Fr a (b.alloc o) := Below.alloc h (Below.size h) o
theorem Fr.drew {a b : World} (h : Fr a b) : Fr a b.drew := Below.drew h
theorem Fr.size {a b : World} (h : Fr a b) : a.heap.size ≤ b.heap.size := Below.size h
theorem Fr.block {a b : World} (h : Fr a b) {k : Nat} (hk : k < a.heap.size) : b.heap[k]? = a.heap[k]? := Below.block h k hk
theorem Fr.cell {a b : World} (h : Fr a b) {p : Addr} {v : Value} (hc : a.cell? p = some v) : b.cell? p = some v := (Below.cell h (World.block_lt_of_cell? a p hc)).trans hc
theorem Fr.set {a b : World} (h : Fr a b) {p : Addr} (hp : a.heap.size ≤ p.block) (u : Value) : Fr a (b.setCell p u) := Below.setCell h hp u
section
variable {P : Program}

/-- A gate: the operation that stands next is this one. -/
theorem gate {ops : Array Oper} {rest : List Oper} {o : Oper} {a : Act} {w : World} {Q : Exit → Act → World → Prop} (x : Op) (_h : o.op = x) (k : wpList P ops Q (o :: rest) a w) : wpList P ops Q (o :: rest) a w := k

theorem setRow_alloc (w : World) (cur cs : Array Value) (t : TypeId) : (w.alloc (.cells cur t)).setRow w.heap.size cs = w.alloc (.cells cs t) := by
  simp only [World.setRow, World.alloc]
  congr 1
  apply Array.ext_getElem?
  intro i
  rw [Array.getElem?_modify, Array.getElem?_push, Array.getElem?_push]
  by_cases h : w.heap.size = i
  · simp [h]
  · simp [h, Ne.symm h]

/-- A store of a whole array or struct into the block that was just made. -/
theorem wpList_store_new {ops : Array Oper} {rest : List Oper} {o : Oper} {a : Act} {w : World} {Q : Exit → Act → World → Prop} (hgd : o.guard = none)
    (ty : TypeId) (x y : Operand) (ho : o.op = .store ty x y) (t : TypeId) (cur cs : Array Value) (g : Nat)
    (hx : a.eval x = .pointer (some ⟨g, 0, none⟩)) (hg : g = w.heap.size) (hy : a.eval y = .agg cs)
    (hi : (P.info? ty).map (·.size) = some cs.size) (hs : cur.size = cs.size) (h1 : ∀ v ∈ cs.toList, v.oneCell' = true)
    (h : wpList P ops Q rest (a.put o.dst undef) (w.alloc (.cells cs t))) : wpList P ops Q (o :: rest) a (w.alloc (.cells cur t)) := by
  subst hg
  refine wpList_plain hgd fun K hK => ?_
  have hst := run_storeCells_at P w.heap.size 0 t cs.toList 0 cur (w.alloc (.cells cur t)) (heap_alloc_new w _) (by simp [hs]) h1
  rw [List.drop_eq_nil_of_le (by simp [hs])] at hst
  simp only [Nat.add_zero, List.take_zero, List.nil_append, List.append_nil, Array.toArray_toList, setRow_alloc] at hst
  have hsz : (sizeOf ty).run P (w.alloc (.cells cur t)) = .ok cs.size (w.alloc (.cells cur t)) := by
    cases hq : P.info? ty with
    | none => simp [hq] at hi
    | some i => simp only [hq, Option.map_some, Option.some.injEq] at hi; simp [sizeOf, typeInfo, hq, hi]
  unfold Oper.wp execOp
  simp only [ho, hx, hy, Instr.storeAt, Instr.sureAddr, Sem.run_bind, Sem.run_pure, Result.andThen_ok, storeVar, hsz, Value.cells, ne_eq, not_true_eq_false, if_false, hst]
  exact hK _ _ h

theorem addr_add (g o j : Nat) : (⟨g, o, none⟩ : Addr).add j = ⟨g, o + j, none⟩ := by unfold Addr.add; split <;> simp_all

/-- A load of an array or a struct whose cells are known. -/
theorem wpList_load_cells {ops : Array Oper} {rest : List Oper} {o : Oper} {a : Act} {w : World} {Q : Exit → Act → World → Prop} (hgd : o.guard = none) (ty : TypeId) (x : Operand) (ho : o.op = .load ty x)
    (ad : Addr) (hx : a.eval x = .pointer (some ad)) (cs : Array Value) (d : TypeDesc) (hc : ∀ j v, cs[j]? = some v → w.cell? (ad.add j) = some v)
    (hu : P.underlying ty = some d) (hd : (match d with | .struct _ | .array _ _ => true | _ => false) = true) (hi : (P.info? ty).map (·.size) = some cs.size)
    (h : wpList P ops Q rest (a.put o.dst (.agg cs)) w) : wpList P ops Q (o :: rest) a w := by
  refine wpList_plain hgd fun K hK => ?_
  have hl : (loadCells ad cs.toList.length).run P w = .ok cs.toList.toArray w :=
    run_loadCells_list (P := P) w ad cs.toList (fun j v hv => hc j v (by simpa using hv))
  have hagg : (isAgg ty).run P w = .ok true w := by
    unfold isAgg
    rw [Sem.run_bind, run_underlying hu w]
    cases d <;> simp_all
  have hsz : (sizeOf ty).run P w = .ok cs.size w := by
    cases hq : P.info? ty with
    | none => simp [hq] at hi
    | some i => simp only [hq, Option.map_some, Option.some.injEq] at hi; simp [sizeOf, typeInfo, hq, hi]
  simp only [Array.length_toList, Array.toArray_toList] at hl
  unfold Oper.wp execOp
  simp only [ho, hx, Instr.loadAt, Instr.sureAddr, Sem.run_bind, Sem.run_pure, Result.andThen_ok, loadVar, hagg, if_true, hsz, hl]
  exact hK _ _ h

/-- The same, out of a block of which all is known. -/
theorem wpList_load_part {ops : Array Oper} {rest : List Oper} {o : Oper} {a : Act} {w : World} {Q : Exit → Act → World → Prop} (hgd : o.guard = none) (ty : TypeId) (x : Operand) (ho : o.op = .load ty x)
    (g off : Nat) (hx : a.eval x = .pointer (some ⟨g, off, none⟩)) (t : TypeId) (cur cs : Array Value) (fr : Nat × Nat) (d : TypeDesc) (hg : w.heap[g]? = some (.cells cur t fr))
    (hcs : ∀ j v, cs[j]? = some v → cur[off + j]? = some v)
    (hu : P.underlying ty = some d) (hd : (match d with | .struct _ | .array _ _ => true | _ => false) = true) (hi : (P.info? ty).map (·.size) = some cs.size)
    (h : wpList P ops Q rest (a.put o.dst (.agg cs)) w) : wpList P ops Q (o :: rest) a w :=
  wpList_load_cells hgd ty x ho ⟨g, off, none⟩ hx cs d (fun j v hv => by rw [addr_add, cell_of_row w g _ cur t fr hg]; exact hcs j v hv) hu hd hi h
end

/-! ### A slice that reads as a list -/
section
variable {α : Type}
/-- The cells of an element read as it. -/
abbrev Rdr (α : Type) := World → List Value → α → Prop
/-- A slice's base reads as a list: n cells an element. -/
def SlA (n : Nat) (R : Rdr α) (w : World) (A : Option Addr) (l : List α) : Prop :=
  (A = none → l = []) ∧ ∀ a, A = some a → (l ≠ [] → a.spot = none) ∧ ∀ i x, l[i]? = some x → ∃ cs : List Value, cs.length = n ∧ R w cs x ∧ ∀ j u, cs[j]? = some u → w.cell? ⟨a.block, a.off + i * n + j, none⟩ = some u
/-- A reading that stays where nothing that was there changes. -/
def Stays (R : Rdr α) : Prop := ∀ w w' cs x, Fr w w' → R w cs x → R w' cs x
def flat (enc : α → List Value) : Rdr α := fun _ cs x => cs = enc x
theorem flat_stays (enc : α → List Value) : Stays (flat enc) := fun _ _ _ _ _ h => h
theorem SlA.fr {n : Nat} {R : Rdr α} (hR : Stays R) {w w' : World} {A : Option Addr} {l : List α} (h : SlA n R w A l) (hf : Fr w w') : SlA n R w' A l :=
  ⟨h.1, fun a ha => ⟨(h.2 a ha).1, fun i x hx => by obtain ⟨cs, h1, h2, h3⟩ := (h.2 a ha).2 i x hx; exact ⟨cs, h1, hR _ _ _ _ hf h2, fun j u hu => hf.cell (h3 j u hu)⟩⟩⟩
theorem SlA.at_ {n : Nat} {R : Rdr α} {w : World} {A : Option Addr} {l : List α} (h : SlA n R w A l) (i : Nat) (hi : i < l.length) :
    ∃ b o, A = some ⟨b, o, none⟩ ∧ ∃ cs : List Value, cs.length = n ∧ R w cs l[i] ∧ ∀ j u, cs[j]? = some u → w.cell? ⟨b, o + i * n + j, none⟩ = some u := by
  cases A with
  | none => have := h.1 rfl; subst this; simp at hi
  | some a =>
    obtain ⟨h1, h2⟩ := h.2 a rfl
    have hne : l ≠ [] := by rintro rfl; simp at hi
    obtain ⟨b, o, sp⟩ := a
    obtain rfl : sp = none := h1 hne
    exact ⟨b, o, rfl, h2 i l[i] (List.getElem?_eq_getElem hi)⟩
/-- Elements of one cell. -/
theorem SlA.at1 {enc : α → Value} {w : World} {A : Option Addr} {l : List α} (h : SlA 1 (flat fun x => [enc x]) w A l) (i : Nat) (hi : i < l.length) :
    ∃ b o, A = some ⟨b, o, none⟩ ∧ w.cell? ⟨b, o + i, none⟩ = some (enc l[i]) := by
  obtain ⟨b, o, rfl, cs, _, h2, h3⟩ := h.at_ i hi
  refine ⟨b, o, rfl, ?_⟩
  have := h3 0 (enc l[i]) (by rw [show cs = [enc l[i]] from h2]; rfl)
  simpa using this
theorem SlA.nil (n : Nat) (R : Rdr α) (w : World) (A : Option Addr) : SlA n R w A [] := ⟨fun _ => rfl, fun _ _ => ⟨fun h => absurd rfl h, fun i x h => by simp at h⟩⟩
end
end Go.Hf
