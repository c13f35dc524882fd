
/- Small laws over any program: rows that are stored whole, what a call may change. -/
import Derived.WalkKit
import Derived.WalkSpells
import Derived.WalkLawsBesides
import Derived.Lib.Hide
import Derived.Lib.LazyBuf
import Derived.Laws.AppendOwnNone
import Derived.BigQuiet
import Derived.StillTailTactics
import Derived.Deep.QuietTactic
import Derived.Deep.DeepMust
namespace Go.Hf
open Go.RowKit

/-- Nothing that was there has changed. -/
def Fr (w w' : World) : Prop := Below w.heap.size w w'
theorem Fr.refl (w : World) : Fr w w := Below.refl _ _
theorem Fr.trans {a b c : World} (h : Fr a b) (k : Fr b c) : Fr a c := Below.trans h (Below.mono k (Below.size h))
theorem Fr.alloc {a b : World} (h : Fr a b) (o : Obj) : Fr a (b.alloc o) := Below.alloc h (Below.size h) o
theorem Fr.drew {a b : World} (h : Fr a b) : Fr a b.drew := Below.drew h
theorem Fr.size {a b : World} (h : Fr a b) : a.heap.size ≤ b.heap.size := Below.size h
theorem Fr.block {a b : World} (h : Fr a b) {k : Nat} (hk : k < a.heap.size) : b.heap[k]? = a.heap[k]? := Below.block h k hk
theorem Fr.cell {a b : World} (h : Fr a b) {p : Addr} {v : Value} (hc : a.cell? p = some v) : b.cell? p = some v := (Below.cell h (World.block_lt_of_cell? a p hc)).trans hc
theorem Fr.set {a b : World} (h : Fr a b) {p : Addr} (hp : a.heap.size ≤ p.block) (u : Value) : Fr a (b.setCell p u) := Below.setCell h hp u
section
variable {P : Program}

/-- A gate: the operation that stands next is this one. -/
theorem gate {ops : Array Oper} {rest : List Oper} {o : Oper} {a : Act} {w : World} {Q : Exit → Act → World → Prop} (x : Op) (_h : o.op = x) (k : wpList P ops Q (o :: rest) a w) : wpList P ops Q (o :: rest) a w := k

theorem setRow_alloc (w : World) (cur cs : Array Value) (t : TypeId) : (w.alloc (.cells cur t)).setRow w.heap.size cs = w.alloc (.cells cs t) := by
  simp only [World.setRow, World.alloc]
  congr 1
  apply Array.ext_getElem?
  intro i
  rw [Array.getElem?_modify, Array.getElem?_push, Array.getElem?_push]
  by_cases h : w.heap.size = i
  · simp [h]
  · simp [h, Ne.symm h]

/-- A store of a whole array or struct into the block that was just made. -/
theorem wpList_store_new {ops : Array Oper} {rest : List Oper} {o : Oper} {a : Act} {w : World} {Q : Exit → Act → World → Prop} (hgd : o.guard = none)
    (ty : TypeId) (x y : Operand) (ho : o.op = .store ty x y) (t : TypeId) (cur cs : Array Value) (g : Nat)
    (hx : a.eval x = .pointer (some ⟨g, 0, none⟩)) (hg : g = w.heap.size) (hy : a.eval y = .agg cs)
    (hi : (P.info? ty).map (·.size) = some cs.size) (hs : cur.size = cs.size) (h1 : ∀ v ∈ cs.toList, v.oneCell' = true)
    (h : wpList P ops Q rest (a.put o.dst undef) (w.alloc (.cells cs t))) : wpList P ops Q (o :: rest) a (w.alloc (.cells cur t)) := by
  subst hg
  refine wpList_plain hgd fun K hK => ?_
  have hst := run_storeCells_at P w.heap.size 0 t cs.toList 0 cur (w.alloc (.cells cur t)) (heap_alloc_new w _) (by simp [hs]) h1
  rw [List.drop_eq_nil_of_le (by simp [hs])] at hst
  simp only [Nat.add_zero, List.take_zero, List.nil_append, List.append_nil, Array.toArray_toList, setRow_alloc] at hst
  have hsz : (sizeOf ty).run P (w.alloc (.cells cur t)) = .ok cs.size (w.alloc (.cells cur t)) := by
    cases hq : P.info? ty with
    | none => simp [hq] at hi
    | some i => simp only [hq, Option.map_some, Option.some.injEq] at hi; simp [sizeOf, typeInfo, hq, hi]
  unfold Oper.wp execOp
  simp only [ho, hx, hy, Instr.storeAt, Instr.sureAddr, Sem.run_bind, Sem.run_pure, Result.andThen_ok, storeVar, hsz, Value.cells, ne_eq, not_true_eq_false, if_false, hst]
  exact hK _ _ h

theorem addr_add (g o j : Nat) : (⟨g, o, none⟩ : Addr).add j = ⟨g, o + j, none⟩ := by unfold Addr.add; split <;> simp_all

/-- A load of an array or a struct whose cells are known. -/
theorem wpList_load_cells {ops : Array Oper} {rest : List Oper} {o : Oper} {a : Act} {w : World} {Q : Exit → Act → World → Prop} (hgd : o.guard = none) (ty : TypeId) (x : Operand) (ho : o.op = .load ty x)
    (ad : Addr) (hx : a.eval x = .pointer (some ad)) (cs : Array Value) (d : TypeDesc) (hc : ∀ j v, cs[j]? = some v → w.cell? (ad.add j) = some v)
    (hu : P.underlying ty = some d) (hd : (match d with | .struct _ | .array _ _ => true | _ => false) = true) (hi : (P.info? ty).map (·.size) = some cs.size)
    (h : wpList P ops Q rest (a.put o.dst (.agg cs)) w) : wpList P ops Q (o :: rest) a w := by
  refine wpList_plain hgd fun K hK => ?_
  have hl : (loadCells ad cs.toList.length).run P w = .ok cs.toList.toArray w :=
    run_loadCells_list (P := P) w ad cs.toList (fun j v hv => hc j v (by simpa using hv))
  have hagg : (isAgg ty).run P w = .ok true w := by
    unfold isAgg
    rw [Sem.run_bind, run_underlying hu w]
    cases d <;> simp_all
  have hsz : (sizeOf ty).run P w = .ok cs.size w := by
    cases hq : P.info? ty with
    | none => simp [hq] at hi
    | some i => simp only [hq, Option.map_some, Option.some.injEq] at hi; simp [sizeOf, typeInfo, hq, hi]
  simp only [Array.length_toList, Array.toArray_toList] at hl
  unfold Oper.wp execOp
  simp only [ho, hx, Instr.loadAt, Instr.sureAddr, Sem.run_bind, Sem.run_pure, Result.andThen_ok, loadVar, hagg, if_true, hsz, hl]
  exact hK _ _ h

/-- The same, out of a block of which all is known. -/
theorem wpList_load_part {ops : Array Oper} {rest : List Oper} {o : Oper} {a : Act} {w : World} {Q : Exit → Act → World → Prop} (hgd : o.guard = none) (ty : TypeId) (x : Operand) (ho : o.op = .load ty x)
    (g off : Nat) (hx : a.eval x = .pointer (some ⟨g, off, none⟩)) (t : TypeId) (cur cs : Array Value) (fr : Nat × Nat) (d : TypeDesc) (hg : w.heap[g]? = some (.cells cur t fr))
    (hcs : ∀ j v, cs[j]? = some v → cur[off + j]? = some v)
    (hu : P.underlying ty = some d) (hd : (match d with | .struct _ | .array _ _ => true | _ => false) = true) (hi : (P.info? ty).map (·.size) = some cs.size)
    (h : wpList P ops Q rest (a.put o.dst (.agg cs)) w) : wpList P ops Q (o :: rest) a w :=
  wpList_load_cells hgd ty x ho ⟨g, off, none⟩ hx cs d (fun j v hv => by rw [addr_add, cell_of_row w g _ cur t fr hg]; exact hcs j v hv) hu hd hi h
end

/-! ### A slice that reads as a list -/
section
variable {α : Type}
/-- The cells of an element read as it. -/
abbrev Rdr (α : Type) := World → List Value → α → Prop
/-- A slice's base reads as a list: n cells an element. -/
def SlA (n : Nat) (R : Rdr α) (w : World) (A : Option Addr) (l : List α) : Prop :=
  (A = none → l = []) ∧ ∀ a, A = some a → (l ≠ [] → a.spot = none) ∧ ∀ i x, l[i]? = some x → ∃ cs : List Value, cs.length = n ∧ R w cs x ∧ ∀ j u, cs[j]? = some u → w.cell? ⟨a.block, a.off + i * n + j, none⟩ = some u
/-- A reading that stays where nothing that was there changes. -/
def Stays (R : Rdr α) : Prop := ∀ w w' cs x, Fr w w' → R w cs x → R w' cs x
def flat (enc : α → List Value) : Rdr α := fun _ cs x => cs = enc x
theorem flat_stays (enc : α → List Value) : Stays (flat enc) := fun _ _ _ _ _ h => h
theorem SlA.fr {n : Nat} {R : Rdr α} (hR : Stays R) {w w' : World} {A : Option Addr} {l : List α} (h : SlA n R w A l) (hf : Fr w w') : SlA n R w' A l :=
  ⟨h.1, fun a ha => ⟨(h.2 a ha).1, fun i x hx => by obtain ⟨cs, h1, h2, h3⟩ := (h.2 a ha).2 i x hx; exact ⟨cs, h1, hR _ _ _ _ hf h2, fun j u hu => hf.cell (h3 j u hu)⟩⟩⟩
theorem SlA.at_ {n : Nat} {R : Rdr α} {w : World} {A : Option Addr} {l : List α} (h : SlA n R w A l) (i : Nat) (hi : i < l.length) :
    ∃ b o, A = some ⟨b, o, none⟩ ∧ ∃ cs : List Value, cs.length = n ∧ R w cs l[i] ∧ ∀ j u, cs[j]? = some u → w.cell? ⟨b, o + i * n + j, none⟩ = some u := by
  cases A with
  | none => have := h.1 rfl; subst this; simp at hi
  | some a =>
    obtain ⟨h1, h2⟩ := h.2 a rfl
    have hne : l ≠ [] := by rintro rfl; simp at hi
    obtain ⟨b, o, sp⟩ := a
    obtain rfl : sp = none := h1 hne
    exact ⟨b, o, rfl, h2 i l[i] (List.getElem?_eq_getElem hi)⟩
/-- Elements of one cell. -/
theorem SlA.at1 {enc : α → Value} {w : World} {A : Option Addr} {l : List α} (h : SlA 1 (flat fun x => [enc x]) w A l) (i : Nat) (hi : i < l.length) :
    ∃ b o, A = some ⟨b, o, none⟩ ∧ w.cell? ⟨b, o + i, none⟩ = some (enc l[i]) := by
  obtain ⟨b, o, rfl, cs, _, h2, h3⟩ := h.at_ i hi
  refine ⟨b, o, rfl, ?_⟩
  have := h3 0 (enc l[i]) (by rw [show cs = [enc l[i]] from h2]; rfl)
  simpa using this
theorem SlA.nil (n : Nat) (R : Rdr α) (w : World) (A : Option Addr) : SlA n R w A [] := ⟨fun _ => rfl, fun _ _ => ⟨fun h => absurd rfl h, fun i x h => by simp at h⟩⟩
end

/-! ### Rows of the call's own that read as a list; append -/
/-- The cells of a base, as they are. -/
def Raw (w : World) (A : Option Addr) (cs : List Value) : Prop := (A = none → cs = []) ∧ ∀ a, A = some a → ∀ j u, cs[j]? = some u → w.cell? (a.add j) = some u

theorem flatMap_get {α : Type} {n : Nat} {enc : α → List Value} (hn : ∀ x, (enc x).length = n) (h0 : 0 < n) : ∀ (l : List α) (j : Nat) (u : Value), (l.flatMap enc)[j]? = some u → ∃ x, l[j / n]? = some x ∧ (enc x)[j % n]? = some u
  | [], j, u, h => by simp at h
  | x :: l, j, u, h => by
    rw [List.flatMap_cons, List.getElem?_append] at h
    split at h
    · rename_i hj
      rw [hn] at hj
      exact ⟨x, by rw [Nat.div_eq_of_lt hj]; rfl, by rw [Nat.mod_eq_of_lt hj]; exact h⟩
    · rename_i hj
      rw [hn] at hj h
      obtain ⟨y, h1, h2⟩ := flatMap_get hn h0 l (j - n) u h
      obtain ⟨q, rfl⟩ : ∃ q, j = n + q := ⟨j - n, by omega⟩
      simp only [Nat.add_sub_cancel_left] at h1 h2
      refine ⟨y, ?_, ?_⟩
      · rw [Nat.add_div_left q h0]; simpa using h1
      · rw [Nat.add_mod_left]; exact h2

theorem flatMap_len {α : Type} {n : Nat} {enc : α → List Value} (hn : ∀ x, (enc x).length = n) (l : List α) : (l.flatMap enc).length = l.length * n := by
  induction l with
  | nil => simp
  | cons x l ih => rw [List.flatMap_cons, List.length_append, ih, hn, List.length_cons, Nat.add_mul]; omega

theorem flatMap_get' {α : Type} {n : Nat} {enc : α → List Value} (hn : ∀ x, (enc x).length = n) : ∀ (l : List α) (i : Nat) (x : α) (j : Nat) (u : Value), l[i]? = some x → (enc x)[j]? = some u → (l.flatMap enc)[i * n + j]? = some u
  | [], i, x, j, u, h, _ => by simp at h
  | y :: l, 0, x, j, u, h, h2 => by
    obtain rfl : y = x := by simpa using h
    rw [List.flatMap_cons, List.getElem?_append_left (by rw [Nat.zero_mul, Nat.zero_add]; exact (List.getElem?_eq_some_iff.1 h2).1)]
    simpa using h2
  | y :: l, i + 1, x, j, u, h, h2 => by
    rw [List.flatMap_cons, List.getElem?_append_right (by rw [hn, Nat.add_mul]; omega), hn]
    rw [show (i + 1) * n + j - n = i * n + j from by rw [Nat.add_mul]; omega]
    exact flatMap_get' hn l i x j u (by simpa using h) h2

theorem SlA.raw {α : Type} {n : Nat} {enc : α → List Value} (hn : ∀ x, (enc x).length = n) (h0 : 0 < n) {w : World} {A : Option Addr} {l : List α} (h : SlA n (flat enc) w A l) : Raw w A (l.flatMap enc) := by
  refine ⟨fun e => by rw [h.1 e]; rfl, fun a ha j u hu => ?_⟩
  obtain ⟨x, h1, h2⟩ := flatMap_get hn h0 l j u hu
  obtain ⟨h3, h4⟩ := h.2 a ha
  obtain ⟨cs, _, rfl, h5⟩ := h4 _ _ h1
  have hne : l ≠ [] := by rintro rfl; simp at h1
  obtain ⟨b, o, sp⟩ := a
  obtain rfl : sp = none := h3 hne
  rw [addr_add]
  have := h5 (j % n) u h2
  rw [Nat.add_assoc, Nat.mul_comm, Nat.div_add_mod] at this
  exact this

/-- A slice of the call's own reads as a list: n cells an element, elements of type e. -/
def Own {α : Type} (base : Nat) (e : TypeId) (n : Nat) (enc : α → List Value) (w : World) (v : Value) (l : List α) : Prop := w.ownsRow base e n v l.length (l.flatMap enc)

section
variable {α : Type} {base : Nat} {e : TypeId} {n : Nat} {enc : α → List Value} {w w' : World} {v : Value} {l : List α}

theorem Own.nil (base : Nat) (e : TypeId) (n : Nat) (enc : α → List Value) (w : World) : Own base e n enc w (.slice none 0 0) [] := World.ownsRow_nil _ _ _ _

theorem Own.kept (h : Own base e n enc w v l) {row : Option Nat} (hg : w.grownBy w' row) (hne : v.ownBlock = none ∨ v.ownBlock ≠ row) : Own base e n enc w' v l := World.ownsRow.kept h hg hne
theorem Own.fr (h : Own base e n enc w v l) (hf : Fr w w') : Own base e n enc w' v l :=
  World.ownsRow.kept (row := none) h ⟨Below.os hf, Below.tape hf, Below.output hf, Below.size hf, fun k hk _ => Below.block hf k hk⟩ (by cases v.ownBlock <;> simp)
theorem Own.lower (h : Own base e n enc w v l) {b : Nat} (hb : b ≤ base) : Own b e n enc w v l := by
  obtain ⟨h1, h2⟩ := h
  refine ⟨h1, ?_⟩
  rcases h2 with h2 | ⟨g, cap, cur, hv, hg, r⟩
  · exact .inl h2
  · exact .inr ⟨g, cap, cur, hv, Nat.le_trans hb hg, r⟩
theorem Own.lt (h : Own base e n enc w v l) : ∀ k, v.ownBlock = some k → base ≤ k ∧ k < w.heap.size := World.ownsRow.lt h

theorem Own.reads (hn : ∀ x, (enc x).length = n) (h : Own base e n enc w v l) : ∃ A c, v = .slice A l.length c ∧ l.length ≤ c ∧ c ≤ maxLen ∧ SlA n (flat enc) w A l := by
  rcases h.2 with ⟨rfl, h0⟩ | ⟨g, cap, cur, rfl, _, hg, hnc, hcm, _, htake⟩
  · have : l = [] := List.eq_nil_of_length_eq_zero h0
    subst this
    exact ⟨none, 0, rfl, Nat.le_refl _, Nat.zero_le _, SlA.nil _ _ _ _⟩
  · refine ⟨_, cap, rfl, hnc, hcm, fun h => (by cases h), fun a ha => ?_⟩
    obtain rfl := Option.some.inj ha
    refine ⟨fun _ => rfl, fun i x hx => ⟨enc x, hn x, rfl, fun j u hu => ?_⟩⟩
    have h3 := flatMap_get' hn l i x j u hx hu
    rw [← htake, List.getElem?_take] at h3
    split at h3
    · rw [Nat.zero_add, cell_of_row w g _ cur e (0, 0) hg]; simpa using h3
    · cases h3

/-- A row that was just laid. -/
theorem Own.lit (base : Nat) (e : TypeId) (n : Nat) (enc : α → List Value) (w : World) (cs : Array Value) (l : List α) (hb : base ≤ w.heap.size) (hm : l.length ≤ maxLen) (hn : ∀ x, (enc x).length = n) (hc : cs.toList = l.flatMap enc) :
    Own base e n enc (w.alloc (.cells cs e)) (.slice (some ⟨w.heap.size, 0, none⟩) l.length l.length) l := by
  have hs : cs.size = l.length * n := by rw [← Array.length_toList, hc, flatMap_len hn]
  have := World.ownsRow_lit (base := base) (e := e) (size := n) w cs l.length hb hm hs
  rw [hc] at this
  exact this
end

section
variable {P : Program} (w : World)
/-- An append to an own row: what it comes to, and in which block the row then lies. -/
theorem run_append_where (base : Nat) (t ty e : TypeId) (i : TypeInfo) (z : Value) (size bytes : Nat) (ht : P.underlying t = some (.slice e)) (hi : P.info? e = some i) (hz : i.zero = some z)
    (hsize : i.size = size) (hby : i.bytes = bytes) (hzs : z.cells.size = size) (hsz : 0 < size)
    (v : Value) (n : Nat) (xs : List Value) (hown : w.ownsRow base e size v n xs)
    (a : Addr) (m c : Nat) (news : List Value) (hl : news.length = m * size) (hnews : ∀ j u, news[j]? = some u → w.cell? (a.add j) = some u) (h1 : ∀ u ∈ news, u.oneCell' = true)
    (h63 : n + m ≤ maxLen) (hbytes : (n + m) * bytes ≤ 140737488355328) (hbase : base ≤ w.heap.size) :
    ∃ v' w', (Builtin.append_ #[t, t] ty #[v, .slice (some a) m c]).run P w = .ok v' w' ∧ w'.ownsRow base e size v' (n + m) (xs ++ news) ∧ w.grownBy w' v.ownBlock ∧
      (v' = .slice none 0 0 ↔ v = .slice none 0 0 ∧ m = 0) ∧ (v'.ownBlock = v.ownBlock ∨ v'.ownBlock = some w.heap.size) := by
  subst hsize
  subst hby
  have hsmall : n + m ≤ 9223372036854775807 := by simp only [maxLen] at h63; omega
  have hlen : (xs ++ news).length = (n + m) * i.size := by rw [List.length_append, hown.1, hl, Nat.add_mul]
  have grown : ∀ (old : Nat), old < n + m → ∀ (row : Option Nat),
      (w.drew.alloc (.cells (xs.toArray ++ news.toArray ++ Builtin.zeroCells z.cells (grownCap w (n + m) old e - (n + m))) e)).ownsRow base e i.size
        (.slice (some ⟨w.heap.size, 0, none⟩) (n + m) (grownCap w (n + m) old e)) (n + m) (xs ++ news) ∧
      w.grownBy (w.drew.alloc (.cells (xs.toArray ++ news.toArray ++ Builtin.zeroCells z.cells (grownCap w (n + m) old e - (n + m))) e)) row := by
    intro old ho row
    have hge := grownCap_ge w (n + m) old e
    have hcm : grownCap w (n + m) old e ≤ maxLen := grownCap_le_maxLen w (n + m) old e h63
    refine ⟨⟨hlen, .inr ⟨w.heap.size, _, _, rfl, hbase, heap_alloc_new w.drew _, hge, hcm, ?_, ?_⟩⟩, ⟨rfl, rfl, rfl, by simp, fun k hk _ => Below.heap_alloc w.drew _ k hk⟩⟩
    · simp only [Array.size_append, List.size_toArray, size_zeroCells, hzs, hown.1, hl, ← Nat.add_mul]
      congr 1
      omega
    · simp only [Array.toList_append, List.append_assoc]
      rw [← List.append_assoc, ← hlen]
      exact List.take_left
  rcases hown.2 with ⟨rfl, rfl⟩ | ⟨g, cap, cur, rfl, hbg, hg, hnc, hcm, hcs, htake⟩
  · have hx : xs = [] := List.eq_nil_of_length_eq_zero (by simpa using hown.1)
    subst hx
    by_cases hm : m = 0
    · subst hm
      have hn : news = [] := List.eq_nil_of_length_eq_zero (by simpa using hl)
      subst hn
      refine ⟨.slice none 0 0, w, ?_, World.ownsRow_nil w base e i.size, ⟨rfl, rfl, rfl, Nat.le_refl _, fun _ _ _ => rfl⟩, by simp, .inl rfl⟩
      simp [Builtin.append_, run_underlying ht, sizeOf, typeInfo, hi, Builtin.lenOf, Builtin.firstCells, loadCells, loadCellsFrom]
    · have hr := run_append_nil (P := P) w t ty e i z ht hi hz a m c news hl hnews (by omega) (by omega) (by have hb := hbytes; simp only [Nat.zero_add] at hb; omega)
      have hgr := grown 0 (by omega) (Value.ownBlock (.slice none 0 0))
      simp only [Nat.zero_add, List.nil_append, Array.empty_append] at hgr ⊢
      exact ⟨_, _, hr, hgr.1, hgr.2, by simp [hm], .inr rfl⟩
  · by_cases hroom : n + m ≤ cap
    · have hfit : n * i.size + news.length ≤ cur.size := by rw [hl, hcs, ← Nat.add_mul]; exact Nat.mul_le_mul_right _ hroom
      have hr := run_append_room (P := P) w t ty e i ht hi g n cap cur hg a m c news hl hnews h1 hroom hfit
      refine ⟨_, _, hr, ⟨hlen, .inr ⟨g, cap, _, rfl, hbg, setRow_heap w g cur _ e _ hg, hroom, hcm, ?_, ?_⟩⟩, ⟨rfl, rfl, rfl, by simp, fun k _ hk => setRow_other w g k _ (fun e => hk (by simp [Value.ownBlock, e]))⟩, by simp, .inl rfl⟩
      · simp only [List.size_toArray, List.length_append, List.length_take, List.length_drop, Array.length_toList]
        omega
      · rw [htake, ← hlen]
        exact List.take_left
    · have holds : ∀ j u, xs[j]? = some u → w.cell? ((⟨g, 0, none⟩ : Addr).add j) = some u := hown.cells (g := g) rfl
      have hr := run_append_grow (P := P) w t ty e i z ht hi hz ⟨g, 0, none⟩ n cap xs hown.1 holds a m c news hl hnews (by omega) (by omega) (growslice_fits (by omega) hbytes)
      have hgr := grown cap (by omega) (Value.ownBlock (.slice (some ⟨g, 0, none⟩) n cap))
      exact ⟨_, _, hr, hgr.1, hgr.2, by simp, .inr rfl⟩

theorem wpList_append_where {ops : Array Oper} {rest : List Oper} {o : Oper} {a : Act} {Q : Exit → Act → World → Prop} (hgd : o.guard = none) (s x : Operand) (t : TypeId)
    (ho : o.op = .call { callee := .builtin .append, args := #[s, x], argTypes := #[t, t] })
    (base : Nat) (e : TypeId) (i : TypeInfo) (z : Value) (size bytes : Nat) (ht : P.underlying t = some (.slice e)) (hi : P.info? e = some i) (hz : i.zero = some z)
    (hsize : i.size = size) (hby : i.bytes = bytes) (hzs : z.cells.size = size) (hsz : 0 < size)
    (v : Value) (n : Nat) (xs : List Value) (hs : a.eval s = v) (hown : w.ownsRow base e size v n xs)
    (ad : Addr) (m c : Nat) (news : List Value) (hx : a.eval x = .slice (some ad) m c) (hl : news.length = m * size) (hnews : ∀ j u, news[j]? = some u → w.cell? (ad.add j) = some u) (h1 : ∀ u ∈ news, u.oneCell' = true)
    (h63 : n + m ≤ maxLen) (hbytes : (n + m) * bytes ≤ 140737488355328) (hbase : base ≤ w.heap.size)
    (h : ∀ v' w', w'.ownsRow base e size v' (n + m) (xs ++ news) → w.grownBy w' v.ownBlock → (v' = .slice none 0 0 ↔ v = .slice none 0 0 ∧ m = 0) → (v'.ownBlock = v.ownBlock ∨ v'.ownBlock = some w.heap.size) → wpList P ops Q rest (a.put o.dst v') w') : wpList P ops Q (o :: rest) a w := by
  refine wpList_plain hgd fun K hK => ?_
  obtain ⟨v', w', hr, h2, h3, h4, h5⟩ := run_append_where (P := P) w base t o.type e i z size bytes ht hi hz hsize hby hzs hsz v n xs hown ad m c news hl hnews h1 h63 hbytes hbase
  unfold Oper.wp execOp
  simp only [ho, resolve, invoke, builtin, Sem.run_bind, Sem.run_pure, Result.andThen_ok, List.map_toArray, List.map_cons, List.map_nil, hs, hx, hr]
  exact hK _ _ (h v' w' h2 h3 h4 h5)
end

section
variable {P : Program}
/-- 'append(s, x...)': s the call's own, x whatever reads as cells. -/
theorem wpList_app {ops : Array Oper} {rest : List Oper} {o : Oper} {a : Act} {w : World} {Q : Exit → Act → World → Prop} (hgd : o.guard = none) (s x : Operand) (t : TypeId)
    (ho : o.op = .call { callee := .builtin .append, args := #[s, x], argTypes := #[t, t] })
    (base : Nat) (e : TypeId) (z : Value) (n bytes : Nat) (ht : P.underlying t = some (.slice e)) (hinfo : (P.info? e).map (fun i => (i.zero, i.size, i.bytes)) = some (some z, n, bytes)) (hzs : z.cells.size = n) (hsz : 0 < n)
    {α : Type} {enc : α → List Value} (hn : ∀ x, (enc x).length = n) (h1 : ∀ x, ∀ u ∈ enc x, u.oneCell' = true)
    {v : Value} {l : List α} (hs : a.eval s = v) (hown : Own base e n enc w v l)
    {A : Option Addr} {c : Nat} {l2 : List α} (hx : a.eval x = .slice A l2.length c) (hc : l2.length ≤ c) (hr : Raw w A (l2.flatMap enc)) (hA : A = none → c = 0)
    (hbytes : (l.length + l2.length) * bytes ≤ 140737488355328) (hm : l.length + l2.length ≤ maxLen) (hbase : base ≤ w.heap.size)
    (h : ∀ v' w', Own base e n enc w' v' (l ++ l2) → w.grownBy w' v.ownBlock → (v' = .slice none 0 0 ↔ v = .slice none 0 0 ∧ l2 = []) → (v'.ownBlock = v.ownBlock ∨ v'.ownBlock = some w.heap.size) → wpList P ops Q rest (a.put o.dst v') w') : wpList P ops Q (o :: rest) a w := by
  obtain ⟨i, hi, hz, hsize, hby⟩ : ∃ i, P.info? e = some i ∧ i.zero = some z ∧ i.size = n ∧ i.bytes = bytes := by
    cases hq : P.info? e with
    | none => simp [hq] at hinfo
    | some i => simp only [hq, Option.map_some, Option.some.injEq, Prod.mk.injEq] at hinfo; exact ⟨i, rfl, hinfo.1, hinfo.2.1, hinfo.2.2⟩
  cases A with
  | none =>
    have hc0 := hA rfl
    have hl2 : l2 = [] := List.eq_nil_of_length_eq_zero (by omega)
    subst hl2
    subst hc0
    refine wpList_append_own_none hgd s x t ho base e i n ht hi v l.length _ hs hown hx (h v w (by simpa using hown) ⟨rfl, rfl, rfl, Nat.le_refl _, fun _ _ _ => rfl⟩ (by simp) (.inl rfl))
  | some ad =>
    refine wpList_append_where w hgd s x t ho base e i z n bytes ht hi hz hsize hby hzs hsz v l.length _ hs hown ad l2.length c _ hx (flatMap_len hn l2) (hr.2 ad rfl) (fun u hu => by obtain ⟨x, _, h3⟩ := List.mem_flatMap.1 hu; exact h1 x u h3) hm hbytes hbase (fun v' w' h2 h3 h4 h5 => h v' w' ?_ h3 ?_ h5)
    · unfold Own; rw [List.flatMap_append, List.length_append]; exact h2
    · rw [h4]; simp

theorem Fr.grown {a w w' : World} (h : Fr a w) {row : Option Nat} (hg : w.grownBy w' row) (hr : ∀ k, row = some k → a.heap.size ≤ k) : Fr a w' := Below.grown h hg (Fr.size h) hr
end
def encB (b : UInt8) : List Value := [.int .u8 (b.toNat : Int)]
theorem encB_len (b : UInt8) : (encB b).length = 1 := rfl
theorem encB_one (b : UInt8) : ∀ u ∈ encB b, u.oneCell' = true := by intro u hu; simp [encB] at hu; subst hu; rfl
theorem SlA.atB {w : World} {A : Option Addr} {l : List UInt8} (h : SlA 1 (flat encB) w A l) (i : Nat) (hi : i < l.length) : ∃ b o, A = some ⟨b, o, none⟩ ∧ w.cell? ⟨b, o + i, none⟩ = some (.int .u8 (l[i].toNat : Int)) :=
  SlA.at1 (enc := fun b : UInt8 => .int .u8 (b.toNat : Int)) h i hi

def encI (x : Int) : List Value := [.int .i64 x]
theorem encI_len (x : Int) : (encI x).length = 1 := rfl
theorem encI_one (x : Int) : ∀ u ∈ encI x, u.oneCell' = true := by intro u hu; simp [encI] at hu; subst hu; rfl
theorem SlA.atI {w : World} {A : Option Addr} {l : List Int} (h : SlA 1 (flat encI) w A l) (i : Nat) (hi : i < l.length) : ∃ b o, A = some ⟨b, o, none⟩ ∧ w.cell? ⟨b, o + i, none⟩ = some (.int .i64 l[i]) :=
  SlA.at1 (enc := fun x : Int => .int .i64 x) h i hi
theorem Raw.lit (w : World) (cs : Array Value) (e : TypeId) (l : List Value) (h : cs.toList = l) {g : Nat} (hg : g = w.heap.size := by simp) : Raw (w.alloc (.cells cs e)) (some ⟨g, 0, none⟩) l := by
  subst hg
  refine ⟨fun h => (by cases h), fun a ha j u hu => ?_⟩
  obtain rfl := Option.some.inj ha
  subst h
  rw [addr_add, Nat.zero_add, cell_of_row _ _ _ cs e (0, 0) (heap_alloc_new w _)]
  simpa using hu
theorem below_drewN' {B : Nat} {a b : World} (h : Below B a b) (n : Nat) : Below B a (b.drewN n) := ⟨h.os, h.tape, h.output, h.size, h.block⟩
theorem Fr.drewN {a b : World} (h : Fr a b) (n : Nat) : Fr a (b.drewN n) := below_drewN' h n

/-- Two lists are one, or part at a place. -/
theorem beq_of_take {α : Type} [BEq α] [LawfulBEq α] (l1 l2 : List α) (h : l1.length = l2.length) (hk : l1.take l1.length = l2.take l1.length) : (l1 == l2) = true := by
  rw [beq_iff_eq]
  rw [List.take_length, h, List.take_length] at hk
  exact hk
theorem beq_false_of_get {α : Type} [BEq α] [LawfulBEq α] (l1 l2 : List α) (k : Nat) (h1 : k < l1.length) (h2 : k < l2.length) (h : l1[k] ≠ l2[k]) : (l1 == l2) = false := by
  rw [beq_eq_false_iff_ne]
  rintro rfl
  exact h rfl
theorem beq_false_of_len {α : Type} [BEq α] [LawfulBEq α] (l1 l2 : List α) (h : l1.length ≠ l2.length) : (l1 == l2) = false := by
  rw [beq_eq_false_iff_ne]
  rintro rfl
  exact h rfl
theorem take_eq_step {α : Type} (l1 l2 : List α) (k : Nat) (h1 : k < l1.length) (h2 : k < l2.length) (ht : l1.take k = l2.take k) (h : l1[k] = l2[k]) : l1.take (k + 1) = l2.take (k + 1) := by
  rw [List.take_succ_eq_append_getElem h1, List.take_succ_eq_append_getElem h2, ht, h]

/-- A slice value that reads as a list. -/
def SlV {α : Type} (n : Nat) (R : Rdr α) (w : World) (v : Value) (l : List α) : Prop :=
  ∃ A m c, v = .slice A m c ∧ l.length = m ∧ m ≤ c ∧ c ≤ maxLen ∧ (A = none → c = 0) ∧ SlA n R w A l
abbrev Bytes (w : World) (v : Value) (l : List UInt8) : Prop := SlV 1 (flat encB) w v l
section
variable {α : Type} {n : Nat} {R : Rdr α} {w w' : World} {v : Value} {l : List α}
theorem SlV.fr (h : SlV n R w v l) (hR : Stays R) (hf : Fr w w') : SlV n R w' v l := by
  obtain ⟨A, m, c, h1, h2, h3, h4, h5, h6⟩ := h
  exact ⟨A, m, c, h1, h2, h3, h4, h5, h6.fr hR hf⟩
theorem SlV.frF {enc : α → List Value} (h : SlV n (flat enc) w v l) (hf : Fr w w') : SlV n (flat enc) w' v l := h.fr (flat_stays _) hf
theorem SlV.len_le (h : SlV n R w v l) : l.length ≤ maxLen := by
  obtain ⟨A, m, c, h1, h2, h3, h4, h5, h6⟩ := h; omega
theorem SlV.mk {A : Option Addr} {m c : Nat} (h1 : l.length = m) (h2 : m ≤ c) (h3 : c ≤ maxLen) (h4 : A = none → c = 0) (h5 : SlA n R w A l) : SlV n R w (.slice A m c) l := ⟨A, m, c, rfl, h1, h2, h3, h4, h5⟩
theorem SlV.nil (n : Nat) (R : Rdr α) (w : World) : SlV n R w (.slice none 0 0) [] := ⟨none, 0, 0, rfl, rfl, Nat.le_refl _, Nat.zero_le _, fun _ => rfl, SlA.nil _ _ _ _⟩
theorem SlA.take {A : Option Addr} (h : SlA n R w A l) (k : Nat) : SlA n R w A (l.take k) := by
  refine ⟨fun e => by rw [h.1 e]; simp, fun a ha => ?_⟩
  obtain ⟨h1, h2⟩ := h.2 a ha
  refine ⟨fun hne => h1 (fun e => hne (by rw [e]; simp)), fun i x hx => ?_⟩
  rw [List.getElem?_take] at hx
  split at hx
  · exact h2 i x hx
  · cases hx
theorem SlV.take {A : Option Addr} {m c : Nat} (h : SlV n R w (.slice A m c) l) (k : Nat) (hk : k ≤ m) : SlV n R w (.slice A k c) (l.take k) := by
  obtain ⟨A', m', c', h1, h2, h3, h4, h5, h6⟩ := h
  injection h1 with e1 e2 e3
  subst e1 e2 e3
  exact ⟨_, _, _, rfl, by rw [List.length_take]; omega, by omega, h4, h5, h6.take k⟩
theorem Own.slv {base : Nat} {e : TypeId} {enc : α → List Value} (hn : ∀ x, (enc x).length = n) (h : Own base e n enc w v l) : SlV n (flat enc) w v l := by
  obtain ⟨A, c, h1, h2, h3, h4⟩ := h.reads hn
  refine ⟨A, _, c, h1, rfl, h2, h3, fun hA => ?_, h4⟩
  subst hA
  rcases h.2 with ⟨e, _⟩ | ⟨g, cap, cur, e, _⟩
  · rw [e] at h1; injection h1 with _ _ e3; exact e3.symm
  · rw [e] at h1; injection h1 with e1; cases e1
end

/-! ### Arithmetic as the machine runs it, said plainly: to be laid ahead of a region that draws -/
section
variable {P : Program} (w : World) (t : TypeId)
theorem run_quo (a b : Int) (h0 : 0 ≤ a) (h1 : a ≤ 9223372036854775807) (hb : 0 < b) : (binOp .quo t (.int .i64 a) (.int .i64 b)).run P w = .ok (.int .i64 (a / b)) w := by
  have h2 : ¬ b = 0 := by omega
  have h3 : a.tdiv b = a / b := Int.tdiv_eq_ediv_of_nonneg h0
  have h4 : 0 ≤ a / b := Int.ediv_nonneg h0 (by omega)
  have h5 : a / b ≤ a := Int.ediv_le_self _ h0
  have h6 : IntKind.i64.wrap (a / b) = a / b := IntWalk.i64_in _ (by omega)
  go_simp
theorem run_rem (a b : Int) (h0 : 0 ≤ a) (hb : 0 < b) : (binOp .rem t (.int .i64 a) (.int .i64 b)).run P w = .ok (.int .i64 (a % b)) w := by
  have h2 : ¬ b = 0 := by omega
  have h3 : a.tmod b = a % b := Int.tmod_eq_emod_of_nonneg h0
  go_simp
end

/-- The world has but been asked. -/
def Dr (w w' : World) : Prop := ∃ n, w' = w.drewN n
theorem Dr.refl (w : World) : Dr w w := ⟨0, rfl⟩
theorem Dr.trans {a b c : World} (h : Dr a b) (k : Dr b c) : Dr a c := by
  obtain ⟨n, rfl⟩ := h; obtain ⟨m, rfl⟩ := k
  exact ⟨n + m, by rw [World.drewN_drewN]⟩
theorem Dr.drewN {a b : World} (h : Dr a b) (n : Nat) : Dr a (b.drewN n) := h.trans ⟨n, rfl⟩
theorem Dr.fr {a b : World} (h : Dr a b) : Fr a b := by obtain ⟨n, rfl⟩ := h; exact (Fr.refl a).drewN n
theorem Dr.cell {a b : World} (h : Dr a b) {p : Addr} {v : Value} (hc : a.cell? p = some v) : b.cell? p = some v := h.fr.cell hc
theorem quiet_dr {P : Program} {f : FuncId} {args : Array Value} {w : World} {n : Nat} {v : Value}
    (h : Calls P f args (w.drewN n) fun e w' => e = .returned v ∧ Dr (w.drewN n) w') : Calls P f args (w.drewN n) fun e w'' => e = .returned v ∧ ∃ m, w'' = w.drewN m :=
  h.mono fun _ _ ⟨he, m, hm⟩ => ⟨he, n + m, by rw [hm, World.drewN_drewN]⟩
theorem quiet_eq {P : Program} {f : FuncId} {args : Array Value} {w : World} {n : Nat} {v : Value}
    (h : Calls P f args (w.drewN n) fun e w' => e = .returned v ∧ w.drewN n = w') : Calls P f args (w.drewN n) fun e w'' => e = .returned v ∧ ∃ m, w'' = w.drewN m :=
  h.mono fun _ _ ⟨he, hm⟩ => ⟨he, n, hm.symm⟩

/-! ### An own row, read and written in place -/
section
variable {α : Type} {base : Nat} {e : TypeId} {n : Nat} {enc : α → List Value} {w : World} {v : Value} {l : List α}
theorem Own.base_of (h : Own base e n enc w v l) (hl : l ≠ []) : ∃ g cap, v = .slice (some ⟨g, 0, none⟩) l.length cap ∧ base ≤ g ∧ g < w.heap.size ∧ l.length ≤ cap := by
  rcases h.2 with ⟨rfl, h0⟩ | ⟨g, cap, cur, rfl, hb, hg, hnc, _⟩
  · exact absurd (List.eq_nil_of_length_eq_zero h0) hl
  · exact ⟨g, cap, rfl, hb, (Array.getElem?_eq_some_iff.1 hg).1, hnc⟩
theorem Own.cell {g m cap : Nat} (hn : ∀ x, (enc x).length = n) (h : Own base e n enc w (.slice (some ⟨g, 0, none⟩) m cap) l) (i : Nat) (hi : i < l.length) (j : Nat) (u : Value) (hu : (enc l[i])[j]? = some u) : w.cell? ⟨g, i * n + j, none⟩ = some u := by
  obtain ⟨A, c, h1, _, _, h4⟩ := h.reads hn
  injection h1 with e1
  obtain ⟨b, o, e2, cs, h5, rfl, h6⟩ := h4.at_ i hi
  rw [← e1] at e2
  obtain ⟨rfl, rfl⟩ : g = b ∧ 0 = o := by simpa using e2
  have := h6 j u hu
  simpa using this
theorem Own.frozen {g m cap : Nat} (h : Own base e n enc w (.slice (some ⟨g, 0, none⟩) m cap) l) (j : Nat) : w.frozen? ⟨g, j, none⟩ = false := by
  rcases h.2 with ⟨h', _⟩ | ⟨g', cap', cur, h', _, hg, _⟩
  · cases h'
  · injection h' with h1
    obtain rfl : g = g' := by simpa using h1
    exact frozen_of_row w g j cur e hg
theorem flatMap_set (hn : ∀ x, (enc x).length = n) : ∀ (l : List α) (i : Nat) (x x' : α) (f : Nat) (u : Value), l[i]? = some x → f < n → enc x' = (enc x).set f u → (l.set i x').flatMap enc = (l.flatMap enc).set (i * n + f) u
  | [], i, x, x', f, u, h, _, _ => by simp at h
  | y :: l, 0, x, x', f, u, h, hf, he => by
    obtain rfl : y = x := by simpa using h
    rw [List.set_cons_zero, List.flatMap_cons, List.flatMap_cons, he, List.set_append_left _ _ (by rw [hn]; omega), Nat.zero_mul, Nat.zero_add]
  | y :: l, i + 1, x, x', f, u, h, hf, he => by
    rw [List.set_cons_succ, List.flatMap_cons, List.flatMap_cons, flatMap_set hn l i x x' f u (by simpa using h) hf he, List.set_append_right _ _ (by rw [hn, Nat.add_mul]; omega), hn]
    congr 2
    rw [Nat.add_mul]; omega
theorem Own.set {g m cap : Nat} (hn : ∀ x, (enc x).length = n) (h : Own base e n enc w (.slice (some ⟨g, 0, none⟩) m cap) l) (i : Nat) (x x' : α) (f : Nat) (u : Value) (hx : l[i]? = some x) (hf : f < n) (he : enc x' = (enc x).set f u) :
    Own base e n enc (w.setCell ⟨g, i * n + f, none⟩ u) (.slice (some ⟨g, 0, none⟩) m cap) (l.set i x') := by
  have hm : m = l.length := by obtain ⟨A, c, h1, _⟩ := h.reads hn; injection h1
  subst hm
  have := (World.ownsRow.stored h (i * n + f) u).1
  unfold Own
  rw [List.length_set, flatMap_set hn l i x x' f u hx hf he]
  exact this
end
theorem Own.cellB {base : Nat} {e : TypeId} {w : World} {l : List UInt8} {g m cap : Nat} (h : Own base e 1 encB w (.slice (some ⟨g, 0, none⟩) m cap) l) (i : Nat) (hi : i < l.length) : w.cell? ⟨g, i, none⟩ = some (.int .u8 (l[i].toNat : Int)) := by
  have := h.cell encB_len i hi 0 _ rfl
  simpa using this
theorem Own.setB {base : Nat} {e : TypeId} {w : World} {l : List UInt8} {g m cap : Nat} (h : Own base e 1 encB w (.slice (some ⟨g, 0, none⟩) m cap) l) (i : Nat) (hi : i < l.length) (x : UInt8) : Own base e 1 encB (w.setCell ⟨g, i, none⟩ (.int .u8 (x.toNat : Int))) (.slice (some ⟨g, 0, none⟩) m cap) (l.set i x) := by
  have := h.set encB_len i l[i] x 0 (.int .u8 (x.toNat : Int)) (List.getElem?_eq_getElem hi) (by decide) rfl
  simpa using this
theorem SlV.sla {α : Type} {n : Nat} {R : Rdr α} {w : World} {A : Option Addr} {m c : Nat} {l : List α} (h : SlV n R w (.slice A m c) l) : SlA n R w A l := by
  obtain ⟨A', m', c', h1, h2, h3, h4, h5, h6⟩ := h
  injection h1 with e1 e2 e3
  subst e1 e2 e3
  exact h6

/-! ### What a call may change: the blocks of one object -/
def Chg (F : Nat → Prop) (w w' : World) : Prop := w'.os = w.os ∧ w'.tape = w.tape ∧ w'.output = w.output ∧ w.heap.size ≤ w'.heap.size ∧ ∀ k, k < w.heap.size → ¬ F k → w'.heap[k]? = w.heap[k]?
section
variable {F G : Nat → Prop} {a w w' w'' : World}
theorem Chg.of_fr (h : Fr w w') : Chg F w w' := ⟨Below.os h, Below.tape h, Below.output h, Below.size h, fun k hk _ => Below.block h k hk⟩
theorem Chg.refl (F : Nat → Prop) (w : World) : Chg F w w := ⟨rfl, rfl, rfl, Nat.le_refl _, fun _ _ _ => rfl⟩
theorem Chg.size (h : Chg F w w') : w.heap.size ≤ w'.heap.size := h.2.2.2.1
theorem Chg.trans (h : Chg F w w') (k : Chg G w' w'') (hG : ∀ b, G b → F b ∨ w.heap.size ≤ b) : Chg F w w'' :=
  ⟨k.1.trans h.1, k.2.1.trans h.2.1, k.2.2.1.trans h.2.2.1, Nat.le_trans h.size k.size, fun b hb hF => (k.2.2.2.2 b (Nat.lt_of_lt_of_le hb h.size) (fun hg => by rcases hG b hg with h1 | h1; exact hF h1; omega)).trans (h.2.2.2.2 b hb hF)⟩
theorem Chg.grown {row : Option Nat} (hg : w.grownBy w' row) (hr : ∀ k, row = some k → F k ∨ w.heap.size ≤ k) : Chg F w w' :=
  ⟨hg.os, hg.tape, hg.output, hg.size, fun k hk hF => hg.block k hk (fun e => by rcases hr k e.symm with h1 | h1; exact hF h1; omega)⟩
theorem Chg.set (w : World) {p : Addr} (hp : F p.block) (u : Value) : Chg F w (w.setCell p u) :=
  ⟨rfl, rfl, rfl, by simp [World.setCell], fun k hk hF => Below.heap_setCell w p u k (fun e => hF (e ▸ hp))⟩
theorem Chg.fr (h : Chg F w w') (h0 : Fr a w) (hF : ∀ k, F k → a.heap.size ≤ k) : Fr a w' :=
  ⟨h.1.trans (Below.os h0), h.2.1.trans (Below.tape h0), h.2.2.1.trans (Below.output h0), Nat.le_trans (Below.size h0) h.size,
    fun k hk => (h.2.2.2.2 k (Nat.lt_of_lt_of_le hk (Below.size h0)) (fun hf => by have := hF k hf; omega)).trans (Below.block h0 k hk)⟩
theorem Chg.blk (h : Chg F w w') {k : Nat} {o : Obj} (hk : w.heap[k]? = some o) (hF : ¬ F k) : w'.heap[k]? = some o := (h.2.2.2.2 k (Array.getElem?_eq_some_iff.1 hk).1 hF).trans hk
theorem Chg.own {α : Type} {base : Nat} {e : TypeId} {n : Nat} {enc : α → List Value} {v : Value} {l : List α} (h : Chg F w w') (ho : Own base e n enc w v l) (hd : ∀ k, v.ownBlock = some k → ¬ F k) : Own base e n enc w' v l := by
  obtain ⟨h1, h2⟩ := ho
  refine ⟨h1, ?_⟩
  rcases h2 with h2 | ⟨g, cap, cur, rfl, hb, hg, r⟩
  · exact .inl h2
  · exact .inr ⟨g, cap, cur, rfl, hb, h.blk hg (hd g rfl), r⟩
theorem Chg.cell (h : Chg F w w') {p : Addr} {v : Value} (hc : w.cell? p = some v) (hF : ¬ F p.block) : w'.cell? p = some v :=
  (World.cell?_of_block (h.2.2.2.2 p.block (World.block_lt_of_cell? w p hc) hF)).trans hc
end

theorem cell_blk {w : World} {g : Nat} {t : TypeId} {cs : Array Value} {fr : Nat × Nat} (h : w.heap[g]? = some (.cells cs t fr)) (i : Nat) (v : Value) (hv : cs[i]? = some v) : w.cell? ⟨g, i, none⟩ = some v := (cell_of_row w g i cs t fr h).trans hv
theorem frozen_blk {w : World} {g : Nat} {t : TypeId} {cs : Array Value} (h : w.heap[g]? = some (.cells cs t (0, 0))) (i : Nat) : w.frozen? ⟨g, i, none⟩ = false := frozen_of_row w g i cs t h
theorem set_blk {w : World} {g : Nat} {t : TypeId} {cs : Array Value} (h : w.heap[g]? = some (.cells cs t (0, 0))) (i : Nat) (u : Value) : (w.setCell ⟨g, i, none⟩ u).heap[g]? = some (.cells (cs.setIfInBounds i u) t (0, 0)) := heap_setCell_same w g i cs t u h

/-- A struct of one field, a slice of its own, behind a pointer. F: its blocks. -/
def Box1 {α : Type} (T : TypeId) (B : Nat) (e : TypeId) (n : Nat) (enc : α → List Value) (w : World) (g : Nat) (l : List α) (F : Nat → Prop) : Prop :=
  ∃ v, w.heap[g]? = some (.cells #[v] T (0, 0)) ∧ Own B e n enc w v l ∧ B ≤ g ∧ v.ownBlock ≠ some g ∧ ∀ k, F k ↔ (k = g ∨ v.ownBlock = some k)
section
variable {α : Type} {T : TypeId} {B : Nat} {e : TypeId} {n : Nat} {enc : α → List Value} {w w' : World} {g : Nat} {l : List α} {F G : Nat → Prop}
theorem Box1.lt (h : Box1 T B e n enc w g l F) (k : Nat) (hk : F k) : B ≤ k ∧ k < w.heap.size := by
  obtain ⟨v, h1, h2, h3, h4, h5⟩ := h
  rcases (h5 k).1 hk with rfl | h6
  · exact ⟨h3, (Array.getElem?_eq_some_iff.1 h1).1⟩
  · exact h2.lt k h6
theorem Box1.chg (h : Box1 T B e n enc w g l F) (hc : Chg G w w') (hd : ∀ k, F k → ¬ G k) : Box1 T B e n enc w' g l F := by
  obtain ⟨v, h1, h2, h3, h4, h5⟩ := h
  exact ⟨v, hc.blk h1 (hd g ((h5 g).2 (.inl rfl))), hc.own h2 (fun k hk => hd k ((h5 k).2 (.inr hk))), h3, h4, h5⟩
theorem Box1.fr (h : Box1 T B e n enc w g l F) (hf : Fr w w') : Box1 T B e n enc w' g l F := h.chg (G := fun _ => False) (Chg.of_fr hf) (fun _ _ h => h)
/-- The field is written anew. -/
theorem Box1.put {v v' : Value} {l' : List α} {w1 : World} (h1 : w1.heap[g]? = some (.cells #[v] T (0, 0))) (ho : Own B e n enc w1 v' l') (hB : B ≤ g) (hne : v'.ownBlock ≠ some g) :
    Box1 T B e n enc (w1.setCell ⟨g, 0, none⟩ v') g l' (fun k => k = g ∨ v'.ownBlock = some k) :=
  ⟨v', by simpa using set_blk h1 0 v', (Chg.set (F := fun k => k = g) w1 (p := ⟨g, 0, none⟩) rfl v').own ho (fun k hk e => hne (e ▸ hk)), hB, hne, fun _ => Iff.rfl⟩
end
theorem new_cells (w : World) (cs : Array Value) (t : TypeId) : ∀ (i : Nat) (u : Value), cs[i]? = some u → (w.alloc (.cells cs t)).cell? ⟨w.heap.size, i, none⟩ = some u :=
  fun i _ h => (cell_of_row _ _ i cs t (0, 0) (heap_alloc_new w _)).trans h
theorem lt_of_fr {a b : World} (h : Fr a b) {k : Nat} (hk : k < a.heap.size) : k < b.heap.size := Nat.lt_of_lt_of_le hk h.size
end Go.Hf
