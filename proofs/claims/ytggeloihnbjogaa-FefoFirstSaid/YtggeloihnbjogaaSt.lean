
/- Memory in pieces, over any program: what a call has made, and what holds of it; the steps of a walk over it. -/
import Derived.Test.YtggeloihnbjogaaLib
namespace Go.Hf
open Go.RowKit

/-- A piece of memory: the blocks it takes, and what holds there. -/
structure Asr where
  p : World → (Nat → Prop) → Prop
  loc : ∀ {w w' : World} {F : Nat → Prop}, p w F → (∀ k, F k → w'.heap[k]? = w.heap[k]?) → p w' F
  lt : ∀ {w : World} {F : Nat → Prop}, p w F → ∀ k, F k → k < w.heap.size
  facts : World → Prop := fun _ => True
  says : ∀ {w : World} {F : Nat → Prop}, p w F → facts w := by exact fun _ => trivial

/-- The pieces lie apart. -/
def SatF (w : World) : List Asr → (Nat → Prop) → Prop
  | [], F => ∀ k, ¬ F k
  | A :: L, F => ∃ F1 F2, A.p w F1 ∧ SatF w L F2 ∧ (∀ k, F1 k → ¬ F2 k) ∧ ∀ k, F k ↔ (F1 k ∨ F2 k)

theorem SatF.ext {w : World} : ∀ {L : List Asr} {F F' : Nat → Prop}, SatF w L F → (∀ k, F k ↔ F' k) → SatF w L F'
  | [], _, _, h, e => fun k hk => h k ((e k).2 hk)
  | _ :: _, _, _, ⟨F1, F2, h1, h2, h3, h4⟩, e => ⟨F1, F2, h1, h2, h3, fun k => (e k).symm.trans (h4 k)⟩
theorem SatF.loc {w w' : World} : ∀ {L : List Asr} {F : Nat → Prop}, SatF w L F → (∀ k, F k → w'.heap[k]? = w.heap[k]?) → SatF w' L F
  | [], _, h, _ => h
  | A :: _, _, ⟨F1, F2, h1, h2, h3, h4⟩, e => ⟨F1, F2, A.loc h1 (fun k hk => e k ((h4 k).2 (.inl hk))), SatF.loc h2 (fun k hk => e k ((h4 k).2 (.inr hk))), h3, h4⟩
theorem SatF.lt {w : World} : ∀ {L : List Asr} {F : Nat → Prop}, SatF w L F → ∀ k, F k → k < w.heap.size
  | [], _, h, k, hk => (h k hk).elim
  | A :: _, _, ⟨F1, F2, h1, h2, h3, h4⟩, k, hk => by
    rcases (h4 k).1 hk with h | h
    · exact A.lt h1 k h
    · exact SatF.lt h2 k h
theorem SatF.append {w : World} : ∀ {L M : List Asr} {F G : Nat → Prop}, SatF w L F → SatF w M G → (∀ k, F k → ¬ G k) → SatF w (L ++ M) (fun k => F k ∨ G k)
  | [], M, F, G, h, hM, _ => hM.ext (fun k => ⟨.inr, fun hk => hk.elim (fun hf => (h k hf).elim) id⟩)
  | A :: L, M, F, G, ⟨F1, F2, h1, h2, h3, h4⟩, hM, hd => ⟨F1, fun k => F2 k ∨ G k, h1, SatF.append h2 hM (fun k hk => hd k ((h4 k).2 (.inr hk))), fun k hk hx => hx.elim (h3 k hk) (hd k ((h4 k).2 (.inl hk))), fun k => by show F k ∨ G k ↔ F1 k ∨ (F2 k ∨ G k); rw [h4 k, or_assoc]⟩
theorem SatF.split {w : World} : ∀ {L M : List Asr} {H : Nat → Prop}, SatF w (L ++ M) H → ∃ F G, SatF w L F ∧ SatF w M G ∧ (∀ k, F k → ¬ G k) ∧ ∀ k, H k ↔ (F k ∨ G k)
  | [], M, H, h => ⟨fun _ => False, H, fun _ h => h, h, fun _ h => h.elim, fun k => ⟨.inr, fun h => h.elim (fun h => h.elim) id⟩⟩
  | A :: L, M, H, ⟨F1, F2, h1, h2, h3, h4⟩ => by
    obtain ⟨F, G, a, b, c, d⟩ := SatF.split h2
    refine ⟨fun k => F1 k ∨ F k, G, ⟨F1, F, h1, a, fun k hk hf => h3 k hk ((d k).2 (.inl hf)), fun k => Iff.rfl⟩, b, fun k hk hg => hk.elim (fun hf => h3 k hf ((d k).2 (.inr hg))) (fun hf => c k hf hg), fun k => ?_⟩
    rw [h4 k, d k, or_assoc]

/-- What the pieces say of the world. -/
def AllF (w : World) : List Asr → Prop
  | [] => True
  | A :: L => A.facts w ∧ AllF w L
theorem SatF.facts {w : World} : ∀ {L : List Asr} {F : Nat → Prop}, SatF w L F → AllF w L
  | [], _, _ => trivial
  | A :: _, _, ⟨_, _, h1, h2, _, _⟩ => ⟨A.says h1, SatF.facts h2⟩

/-- What a call has made since w0: nothing of w0 has changed. -/
def St (w0 w : World) (L : List Asr) : Prop := Fr w0 w ∧ ∃ F, SatF w L F ∧ ∀ k, F k → w0.heap.size ≤ k

/-- A stands in L, the rest is R. -/
inductive At (A : Asr) : List Asr → List Asr → Prop
  | here {L} : At A (A :: L) L
  | there {B L R} : At A L R → At A (B :: L) (B :: R)
/-- A in L is A' in L'. -/
inductive Upd (A A' : Asr) : List Asr → List Asr → Prop
  | here {L} : Upd A A' (A :: L) (A' :: L)
  | there {B L R} : Upd A A' L R → Upd A A' (B :: L) (B :: R)

theorem SatF.take {w : World} {A : Asr} {L R : List Asr} (h : At A L R) : ∀ {F : Nat → Prop}, SatF w L F → SatF w (A :: R) F := by
  induction h with
  | here => exact id
  | there h ih =>
    intro F ⟨F1, F2, h1, h2, h3, h4⟩
    obtain ⟨G1, G2, a, b, c, d⟩ := ih h2
    refine ⟨G1, fun k => F1 k ∨ G2 k, a, ⟨F1, G2, h1, b, fun k hk hg => h3 k hk ((d k).2 (.inr hg)), fun k => Iff.rfl⟩, fun k hk hg => hg.elim (fun hf => h3 k hf ((d k).2 (.inl hk))) (c k hk), fun k => ?_⟩
    rw [h4 k, d k]; simp only [or_left_comm]
theorem SatF.give {w : World} {A : Asr} {L R : List Asr} (h : At A L R) : ∀ {F : Nat → Prop}, SatF w (A :: R) F → SatF w L F := by
  induction h with
  | here => exact id
  | @there B L R h ih =>
    intro F ⟨F1, F2, h1, ⟨G1, G2, a, b, c, d⟩, h3, h4⟩
    refine ⟨G1, fun k => F1 k ∨ G2 k, a, ih ⟨F1, G2, h1, b, fun k hk hg => h3 k hk ((d k).2 (.inr hg)), fun k => Iff.rfl⟩, fun k hk hg => hg.elim (fun hf => h3 k hf ((d k).2 (.inl hk))) (c k hk), fun k => ?_⟩
    rw [h4 k, d k]; simp only [or_left_comm]
theorem Upd.at_ {A A' : Asr} {L L' : List Asr} (h : Upd A A' L L') : ∃ R, At A L R ∧ At A' L' R := by
  induction h with
  | here => exact ⟨_, .here, .here⟩
  | there _ ih => obtain ⟨R, a, b⟩ := ih; exact ⟨_, .there a, .there b⟩

section
variable {w0 w w' w1 : World} {L L' R M : List Asr} {A A' : Asr}
theorem St.refl (w : World) : St w w [] := ⟨Fr.refl w, fun _ => False, fun _ h => h, fun _ h => h.elim⟩
theorem St.fr (h : St w0 w L) : Fr w0 w := h.1
theorem St.facts (h : St w0 w L) : AllF w L := let ⟨_, _, b, _⟩ := h; b.facts
theorem St.size (h : St w0 w L) : w0.heap.size ≤ w.heap.size := h.1.size
theorem St.take (h : St w0 w L) (k : At A L R) : St w0 w (A :: R) := let ⟨a, F, b, c⟩ := h; ⟨a, F, b.take k, c⟩
theorem St.give (h : St w0 w (A :: R)) (k : At A L R) : St w0 w L := let ⟨a, F, b, c⟩ := h; ⟨a, F, b.give k, c⟩
theorem St.drop1 (h : St w0 w (A :: L)) : St w0 w L := by
  obtain ⟨a, F, ⟨F1, F2, b, c, d, e⟩, g⟩ := h
  exact ⟨a, F2, c, fun k hk => g k ((e k).2 (.inr hk))⟩
theorem St.drop (h : St w0 w L) (k : At A L R) : St w0 w R := (h.take k).drop1
theorem St.nil (h : St w0 w L) : St w0 w [] := ⟨h.1, fun _ => False, fun _ h => h, fun _ h => h.elim⟩
/-- But one is wanted. -/
theorem St.pick (h : St w0 w L) (k : At A L R) : St w0 w [A] := by
  obtain ⟨a, F, ⟨F1, F2, b, c, d, e⟩, g⟩ := h.take k
  exact ⟨a, F1, ⟨F1, fun _ => False, b, fun _ h => h, fun _ _ h => h, fun k => by simp⟩, fun k hk => g k ((e k).2 (.inl hk))⟩
theorem St.left (h : St w0 w (L ++ M)) : St w0 w L := by
  obtain ⟨a, H, b, c⟩ := h
  obtain ⟨F, G, d, e, f, g⟩ := b.split
  exact ⟨a, F, d, fun k hk => c k ((g k).2 (.inl hk))⟩
/-- A call that changes nothing, and has made L'. -/
theorem St.then (h : St w0 w L) (k : St w w' L') : St w0 w' (L' ++ L) := by
  obtain ⟨a, F, b, c⟩ := h
  obtain ⟨d, G, e, f⟩ := k
  refine ⟨a.trans d, _, e.append (b.loc fun j hj => d.block (b.lt j hj)) (fun j hj hf => ?_), fun j hj => hj.elim (fun hg => Nat.le_trans a.size (f j hg)) (c j)⟩
  have := b.lt j hf
  have := f j hj
  omega
theorem St.still (h : St w0 w L) (k : Fr w w') : St w0 w' L := by
  obtain ⟨a, F, b, c⟩ := h
  exact ⟨a.trans k, F, b.loc fun j hj => k.block (b.lt j hj), c⟩
theorem St.then1 (h : St w0 w L) (k : St w w' [A]) : St w0 w' (A :: L) := h.then k
theorem St.then0 (h : St w0 w L) (k : St w w' []) : St w0 w' L := h.then k
theorem St.then2 (h : St w0 w L) (k : St w w' [A, A']) : St w0 w' (A :: A' :: L) := h.then k
theorem St.of_fr (h : Fr w w') : St w w' [] := (St.refl w).still h
theorem St.drew (h : St w0 w L) : St w0 w.drew L := h.still (Fr.refl w).drew
theorem St.drewN (h : St w0 w L) (n : Nat) : St w0 (w.drewN n) L := h.still ((Fr.refl w).drewN n)
/-- A walk that is begun at w0 is one that was begun ahead of it. -/
theorem St.base (h : St w0 w L) (k : St w w' (L' ++ M)) : St w0 w' (L' ++ M ++ L) := h.then k
theorem St.upd (h : St w0 w L) (k : Upd A A' L L') (step : ∀ R, St w0 w (A :: R) → St w0 w1 (A' :: R)) : St w0 w1 L' := by
  obtain ⟨R, a, b⟩ := k.at_
  exact (step R (h.take a)).give b
end

/-! ### Pieces -/
/-- A block, all of which is known. -/
def Blk (g : Nat) (cs : List Value) (t : TypeId) : Asr where
  p w F := w.heap[g]? = some (.cells cs.toArray t (0, 0)) ∧ ∀ k, F k ↔ k = g
  loc h e := ⟨(e g ((h.2 g).2 rfl)).trans h.1, h.2⟩
  lt h k hk := by rw [(h.2 k).1 hk]; exact (Array.getElem?_eq_some_iff.1 h.1).1
  facts w := (∀ i, w.cell? ⟨g, i, none⟩ = cs[i]?) ∧ ∀ i, w.frozen? ⟨g, i, none⟩ = false
  says {w _} h := ⟨fun i => by rw [cell_of_row w g i _ t _ h.1]; simp, fun i => frozen_of_row w g i _ t h.1⟩
/-- A slice of the call's own. -/
def OwnS {α : Type} (e : TypeId) (n : Nat) (enc : α → List Value) (v : Value) (l : List α) : Asr where
  p w F := Own 0 e n enc w v l ∧ ∀ k, F k ↔ v.ownBlock = some k
  loc {w w' F} h e := by
    refine ⟨?_, h.2⟩
    obtain ⟨⟨h1, h2⟩, h3⟩ := h
    refine ⟨h1, ?_⟩
    rcases h2 with h2 | ⟨g, cap, cur, rfl, hb, hg, r⟩
    · exact .inl h2
    · exact .inr ⟨g, cap, cur, rfl, hb, (e g ((h3 g).2 rfl)).trans hg, r⟩
  lt h k hk := (h.1.lt k ((h.2 k).1 hk)).2
/-- Something of which a piece hangs. -/
def ExS {α : Type} (f : α → Asr) : Asr where
  p w F := ∃ x, (f x).p w F
  loc h e := let ⟨x, k⟩ := h; ⟨x, (f x).loc k e⟩
  lt h := let ⟨x, k⟩ := h; (f x).lt k
/-- Several pieces as one. -/
def AllS (L : List Asr) : Asr where
  p w F := SatF w L F
  loc h e := h.loc e
  lt h := h.lt
/-- What is true. -/
def IsS (q : Prop) : Asr where
  p _ F := q ∧ ∀ k, ¬ F k
  loc h _ := h
  lt h k hk := (h.2 k hk).elim

section
variable {w0 w w' : World} {L L' R : List Asr}
theorem St.ex {α : Type} {f : α → Asr} (h : St w0 w (ExS f :: L)) : ∃ x, St w0 w (f x :: L) := by
  obtain ⟨a, F, ⟨F1, F2, ⟨x, b⟩, c, d, e⟩, g⟩ := h
  exact ⟨x, a, F, ⟨F1, F2, b, c, d, e⟩, g⟩
theorem St.mkEx {α : Type} {f : α → Asr} (x : α) (h : St w0 w (f x :: L)) : St w0 w (ExS f :: L) := by
  obtain ⟨a, F, ⟨F1, F2, b, c, d, e⟩, g⟩ := h
  exact ⟨a, F, ⟨F1, F2, ⟨x, b⟩, c, d, e⟩, g⟩
theorem St.all {M : List Asr} (h : St w0 w (AllS M :: L)) : St w0 w (M ++ L) := by
  obtain ⟨a, F, ⟨F1, F2, b, c, d, e⟩, g⟩ := h
  exact ⟨a, _, SatF.append b c d, fun k hk => g k ((e k).2 hk)⟩
theorem St.mkAll {M : List Asr} (h : St w0 w (M ++ L)) : St w0 w (AllS M :: L) := by
  obtain ⟨a, F, b, c⟩ := h
  obtain ⟨F1, F2, d, e, f, g⟩ := b.split
  exact ⟨a, F, ⟨F1, F2, d, e, f, g⟩, c⟩
theorem St.is {q : Prop} (h : St w0 w (IsS q :: L)) : q := by
  obtain ⟨_, _, ⟨_, _, b, _⟩, _⟩ := h
  exact b.1
theorem St.mkIs {q : Prop} (hq : q) (h : St w0 w L) : St w0 w (IsS q :: L) := by
  obtain ⟨a, F, b, c⟩ := h
  exact ⟨a, F, ⟨fun _ => False, F, ⟨hq, fun _ h => h⟩, b, fun _ h => h.elim, fun k => by simp⟩, c⟩
theorem St.blk {g : Nat} {cs : List Value} {t : TypeId} (h : St w0 w L) (k : At (Blk g cs t) L R) : w.heap[g]? = some (.cells cs.toArray t (0, 0)) := by
  obtain ⟨_, _, ⟨_, _, b, _⟩, _⟩ := h.take k
  exact b.1
theorem St.ge {g : Nat} {cs : List Value} {t : TypeId} (h : St w0 w L) (k : At (Blk g cs t) L R) : w0.heap.size ≤ g := by
  obtain ⟨_, F, ⟨_, _, b, _, _, e⟩, f⟩ := h.take k
  exact f g ((e g).2 (.inl ((b.2 g).2 rfl)))
/-- The cells of a block. -/
theorem St.cells {g : Nat} {cs : List Value} {t : TypeId} (h : St w0 w L) (k : At (Blk g cs t) L R) : (∀ i, w.cell? ⟨g, i, none⟩ = cs[i]?) ∧ ∀ i, w.frozen? ⟨g, i, none⟩ = false :=
  ⟨fun i => by rw [cell_of_row w g i _ t _ (h.blk k)]; simp, fun i => frozen_of_row w g i _ t (h.blk k)⟩
theorem St.cell {g : Nat} {cs : List Value} {t : TypeId} (h : St w0 w L) (k : At (Blk g cs t) L R) {i : Nat} {v : Value} (hv : cs[i]? = some v) : w.cell? ⟨g, i, none⟩ = some v := ((h.cells k).1 i).trans hv
theorem St.own {α : Type} {e : TypeId} {n : Nat} {enc : α → List Value} {v : Value} {l : List α} (h : St w0 w L) (k : At (OwnS e n enc v l) L R) : Own w0.heap.size e n enc w v l := by
  obtain ⟨_, F, ⟨F1, _, ⟨⟨h1, h2⟩, b⟩, _, _, e⟩, f⟩ := h.take k
  refine ⟨h1, ?_⟩
  rcases h2 with h2 | ⟨g, cap, cur, rfl, _, r⟩
  · exact .inl h2
  · exact .inr ⟨g, cap, cur, rfl, f g ((e g).2 (.inl ((b g).2 rfl))), r⟩
theorem St.slv {α : Type} {e : TypeId} {n : Nat} {enc : α → List Value} {v : Value} {l : List α} (h : St w0 w L) (k : At (OwnS e n enc v l) L R) (hn : ∀ x, (enc x).length = n) : SlV n (flat enc) w v l := (h.own k).slv hn
theorem St.mkOwn {α : Type} {e : TypeId} {n : Nat} {enc : α → List Value} {v : Value} {l : List α} (h : St w0 w L) (k : Fr w w') (o : Own w.heap.size e n enc w' v l) : St w0 w' (OwnS e n enc v l :: L) := by
  have : St w w' [OwnS e n enc v l] := ⟨k, fun j => v.ownBlock = some j, ⟨_, fun _ => False, ⟨o.lower (Nat.zero_le _), fun _ => Iff.rfl⟩, fun _ h => h, fun _ _ h => h, fun j => by simp⟩, fun j hj => (o.lt j hj).1⟩
  exact h.then this
theorem St.nilOwn {α : Type} (e : TypeId) (n : Nat) (enc : α → List Value) (h : St w0 w L) : St w0 w (OwnS e n enc (.slice none 0 0) [] :: L) := h.mkOwn (Fr.refl w) (Own.nil _ _ _ _ _)
theorem St.alloc (h : St w0 w L) (cs : List Value) (t : TypeId) : St w0 (w.alloc (.cells cs.toArray t)) (Blk w.heap.size cs t :: L) := by
  have : St w (w.alloc (.cells cs.toArray t)) [Blk w.heap.size cs t] := ⟨(Fr.refl w).alloc _, fun j => j = w.heap.size, ⟨_, fun _ => False, ⟨heap_alloc_new w _, fun _ => Iff.rfl⟩, fun _ h => h, fun _ _ h => h, fun j => by simp⟩, fun j hj => by omega⟩
  exact h.then this
theorem St.set1 {g : Nat} {cs : List Value} {t : TypeId} (i : Nat) (v : Value) (h : St w0 w (Blk g cs t :: L)) : St w0 (w.setCell ⟨g, i, none⟩ v) (Blk g (cs.set i v) t :: L) := by
  obtain ⟨a, F, ⟨F1, F2, b, c, d, e⟩, f⟩ := h
  have hF := (b.2 g).2 rfl
  refine ⟨a.set (f g ((e g).2 (.inl hF))) v, F, ⟨F1, F2, ⟨?_, b.2⟩, c.loc fun k hk => Below.heap_setCell w _ v k (fun hg => by have hg2 : k = g := hg; subst hg2; exact d k hF hk), d, e⟩, f⟩
  have := set_blk b.1 i v
  simpa using this
theorem St.set {g : Nat} {cs cs' : List Value} {t : TypeId} {i : Nat} {v : Value} (h : St w0 w L) (k : Upd (Blk g cs t) (Blk g cs' t) L L') (hs : cs.set i v = cs') : St w0 (w.setCell ⟨g, i, none⟩ v) L' := by
  subst hs; exact h.upd k fun R => St.set1 i v
/-- A row of the call's own is changed in place, or lies anew. -/
theorem St.grow1 {α : Type} {e : TypeId} {n : Nat} {enc : α → List Value} {v v' : Value} {l l' : List α} (h : St w0 w (OwnS e n enc v l :: L)) (o : Own 0 e n enc w' v' l') (hg : w.grownBy w' v.ownBlock) (hv : v'.ownBlock = v.ownBlock ∨ v'.ownBlock = some w.heap.size) : St w0 w' (OwnS e n enc v' l' :: L) := by
  obtain ⟨a, F, ⟨F1, F2, b, c, d, e'⟩, f⟩ := h
  have hlt : ∀ k, v'.ownBlock = some k → F1 k ∨ w.heap.size ≤ k := fun k hk => by
    rcases hv with h1 | h1
    · exact .inl ((b.2 k).2 (h1 ▸ hk))
    · rw [h1] at hk; injection hk with hk; exact .inr (by omega)
  refine ⟨a.grown hg (fun k hk => f k ((e' k).2 (.inl ((b.2 k).2 hk)))), fun k => v'.ownBlock = some k ∨ F2 k, ⟨_, F2, ⟨o, fun _ => Iff.rfl⟩, c.loc fun k hk => hg.block k (SatF.lt c k hk) (fun e => d k ((b.2 k).2 e.symm) hk), fun k hk hf => ?_, fun k => Iff.rfl⟩, fun k hk => ?_⟩
  · rcases hlt k hk with h1 | h1
    · exact d k h1 hf
    · have := SatF.lt c k hf; omega
  · rcases hk with hk | hk
    · rcases hlt k hk with h1 | h1
      · exact f k ((e' k).2 (.inl h1))
      · exact Nat.le_trans a.size h1
    · exact f k ((e' k).2 (.inr hk))
end

/-! ### Steps of a walk -/
/-- A type of one cell; of cells in a row. -/
class OneTy (P : Program) (t : TypeId) : Prop where
  is : (match P.underlying t with | some (.struct _) | some (.array _ _) | none => false | _ => true) = true
  size : (P.info? t).map (·.size) = some 1
class RowTy (P : Program) (t : TypeId) (n : outParam Nat) : Prop where
  is : (match P.underlying t with | some (.struct _) | some (.array _ _) => true | _ => false) = true
  size : (P.info? t).map (·.size) = some n
/-- A type's zero cells. -/
class ZeroTy (P : Program) (t : TypeId) (cs : outParam (List Value)) : Prop where
  is : (P.info? t).bind (fun i => i.zero.map (fun z => z.cells.toList)) = some cs

section
variable {P : Program} {ops : Array Oper} {Q : Exit → Act → World → Prop} {rest : List Oper} {a : Act} {w0 w : World} {L : List Asr} {dst : Option Tmp} {tt : TypeId} {pos : String} {after : Array Edge} {ty : TypeId} {x y : Operand}

/-- At such an operation. -/
theorem gbox (h : wpList P ops Q (⟨dst, .box ty x, tt, pos, after, none⟩ :: rest) a w) : wpList P ops Q (⟨dst, .box ty x, tt, pos, after, none⟩ :: rest) a w := h
theorem galloc (h : wpList P ops Q (⟨dst, .alloc ty, tt, pos, after, none⟩ :: rest) a w) : wpList P ops Q (⟨dst, .alloc ty, tt, pos, after, none⟩ :: rest) a w := h
theorem gload (h : wpList P ops Q (⟨dst, .load ty x, tt, pos, after, none⟩ :: rest) a w) : wpList P ops Q (⟨dst, .load ty x, tt, pos, after, none⟩ :: rest) a w := h
theorem gstore (h : wpList P ops Q (⟨dst, .store ty x y, tt, pos, after, none⟩ :: rest) a w) : wpList P ops Q (⟨dst, .store ty x y, tt, pos, after, none⟩ :: rest) a w := h
theorem w_box (I : St w0 w L) {cs : List Value} (hx : (a.eval x).cells.toList = cs)
    (k : ∀ g w', St w0 w' (Blk g cs ty :: L) → wpList P ops Q rest (a.put dst (.pointer (some ⟨g, 0, none⟩))) w') :
    wpList P ops Q (⟨dst, .box ty x, tt, pos, after, none⟩ :: rest) a w := by
  subst hx
  refine wpList_plain rfl fun K hK => ?_
  unfold Oper.wp execOp
  simp only [Instr.box, newVar, newRow, newObj, Sem.run_bind, Sem.run_pure, Result.andThen_ok, Sem.run]
  have := k _ _ (I.alloc (a.eval x).cells.toList ty)
  exact hK _ _ (by simpa using this)
theorem w_boxA (I : St w0 w L) {cs : List Value} (hx : a.eval x = .agg cs.toArray)
    (k : ∀ g w', St w0 w' (Blk g cs ty :: L) → wpList P ops Q rest (a.put dst (.pointer (some ⟨g, 0, none⟩))) w') :
    wpList P ops Q (⟨dst, .box ty x, tt, pos, after, none⟩ :: rest) a w := w_box I (by rw [hx]; rfl) k
theorem w_box1 (I : St w0 w L) {v : Value} (hx : a.eval x = v) (h1 : v.oneCell' = true)
    (k : ∀ g w', St w0 w' (Blk g [v] ty :: L) → wpList P ops Q rest (a.put dst (.pointer (some ⟨g, 0, none⟩))) w') :
    wpList P ops Q (⟨dst, .box ty x, tt, pos, after, none⟩ :: rest) a w :=
  w_box I (by rw [hx]; cases v <;> first | rfl | simp [Value.oneCell'] at h1) k
theorem w_alloc {cs : List Value} [z : ZeroTy P ty cs] (I : St w0 w L)
    (k : ∀ g w', St w0 w' (Blk g cs ty :: L) → wpList P ops Q rest (a.put dst (.pointer (some ⟨g, 0, none⟩))) w') :
    wpList P ops Q (⟨dst, .alloc ty, tt, pos, after, none⟩ :: rest) a w := by
  refine wpList_plain rfl fun K hK => ?_
  obtain ⟨i, hi, hz⟩ := Option.bind_eq_some_iff.1 z.is
  obtain ⟨v, hv, rfl⟩ := Option.map_eq_some_iff.1 hz
  unfold Oper.wp execOp
  have hzero : (zeroValue ty).run P w = .ok v w := by
    simp [zeroValue, typeInfo, hi, hv]
  simp only [Instr.alloc, newVar, newRow, newObj, Sem.run_bind, Sem.run_pure, Result.andThen_ok, hzero, Sem.run]
  have := k _ _ (I.alloc v.cells.toList ty)
  exact hK _ _ (by simpa using this)
theorem isAgg_one [o : OneTy P ty] (w : World) : (isAgg ty).run P w = .ok false w := by
  have := o.is
  unfold isAgg
  cases hu : P.underlying ty with
  | none => rw [hu] at this; simp at this
  | some d => rw [Sem.run_bind, run_underlying hu w]; rw [hu] at this; cases d <;> simp_all
theorem isAgg_row {n : Nat} [o : RowTy P ty n] (w : World) : (isAgg ty).run P w = .ok true w := by
  have := o.is
  unfold isAgg
  cases hu : P.underlying ty with
  | none => rw [hu] at this; simp at this
  | some d => rw [Sem.run_bind, run_underlying hu w]; rw [hu] at this; cases d <;> simp_all
theorem sizeOf_of {n : Nat} (h : (P.info? ty).map (·.size) = some n) (w : World) : (sizeOf ty).run P w = .ok n w := by
  cases hq : P.info? ty with
  | none => simp [hq] at h
  | some i => simp only [hq, Option.map_some, Option.some.injEq] at h; simp [sizeOf, typeInfo, hq, h]
/-- A load of one cell. -/
theorem w_load1 [OneTy P ty] {p : Addr} {v : Value} (hx : a.eval x = .pointer (some p)) (hc : w.cell? p = some v) (k : wpList P ops Q rest (a.put dst v) w) :
    wpList P ops Q (⟨dst, .load ty x, tt, pos, after, none⟩ :: rest) a w := by
  refine wpList_plain rfl fun K hK => ?_
  unfold Oper.wp execOp
  simp only [hx, Instr.loadAt, Instr.sureAddr, Sem.run_bind, Sem.run_pure, Result.andThen_ok, loadVar, isAgg_one, Bool.false_eq_true, if_false, load, Sem.run, hc]
  exact hK _ _ k
/-- A load of a row of cells. -/
theorem w_loadR {n : Nat} [r : RowTy P ty n] {p : Addr} {cs : List Value} (hx : a.eval x = .pointer (some p)) (hn : cs.length = n) (hc : ∀ j v, cs[j]? = some v → w.cell? (p.add j) = some v) (k : wpList P ops Q rest (a.put dst (.agg cs.toArray)) w) :
    wpList P ops Q (⟨dst, .load ty x, tt, pos, after, none⟩ :: rest) a w := by
  refine wpList_plain rfl fun K hK => ?_
  have hl := run_loadCells_list (P := P) w p cs hc
  unfold Oper.wp execOp
  simp only [hx, Instr.loadAt, Instr.sureAddr, Sem.run_bind, Sem.run_pure, Result.andThen_ok, loadVar, isAgg_row, if_true, sizeOf_of r.size, ← hn, hl]
  exact hK _ _ k
/-- Out of a block that is known. -/
theorem w_loadB [OneTy P ty] {g i : Nat} {cs : List Value} {t : TypeId} {R : List Asr} {v : Value} (I : St w0 w L) (hx : a.eval x = .pointer (some ⟨g, i, none⟩)) (m : At (Blk g cs t) L R) (hc : cs[i]? = some v) (k : wpList P ops Q rest (a.put dst v) w) :
    wpList P ops Q (⟨dst, .load ty x, tt, pos, after, none⟩ :: rest) a w := w_load1 hx (I.cell m hc) k
theorem w_loadBR {n : Nat} [RowTy P ty n] {g : Nat} {cs : List Value} {t : TypeId} {R : List Asr} (I : St w0 w L) (hx : a.eval x = .pointer (some ⟨g, 0, none⟩)) (m : At (Blk g cs t) L R) (hn : cs.length = n) (k : wpList P ops Q rest (a.put dst (.agg cs.toArray)) w) :
    wpList P ops Q (⟨dst, .load ty x, tt, pos, after, none⟩ :: rest) a w :=
  w_loadR hx hn (fun j v hv => by rw [addr_add, Nat.zero_add]; exact I.cell m hv) k
/-- What was there at the beginning. -/
theorem w_load0 [OneTy P ty] {p : Addr} {v : Value} (I : St w0 w L) (hx : a.eval x = .pointer (some p)) (hc : w0.cell? p = some v) (k : wpList P ops Q rest (a.put dst v) w) :
    wpList P ops Q (⟨dst, .load ty x, tt, pos, after, none⟩ :: rest) a w := w_load1 hx (I.fr.cell hc) k
/-- A store of one cell into a block that is known. -/
theorem w_storeB [o : OneTy P ty] {g i : Nat} {cs cs' : List Value} {t : TypeId} {L' : List Asr} {v : Value} (I : St w0 w L) (hx : a.eval x = .pointer (some ⟨g, i, none⟩)) (hy : a.eval y = v) (m : Upd (Blk g cs t) (Blk g cs' t) L L') (hi : (cs[i]?).isSome = true) (h1 : v.oneCell' = true) (hs : cs.set i v = cs')
    (k : ∀ w', St w0 w' L' → wpList P ops Q rest (a.put dst undef) w') : wpList P ops Q (⟨dst, .store ty x y, tt, pos, after, none⟩ :: rest) a w := by
  obtain ⟨R, hA, _⟩ := m.at_
  obtain ⟨u, hu⟩ := Option.isSome_iff_exists.1 hi
  have hcell : w.cell? ⟨g, i, none⟩ = some u := I.cell hA hu
  have hfz := (I.cells hA).2 i
  refine wpList_plain rfl fun K hK => ?_
  have hcs : v.cells = #[v] := by cases v <;> first | rfl | simp [Value.oneCell'] at h1
  unfold Oper.wp execOp
  have hst : (store ⟨g, i, none⟩ v).run P w = .ok () (w.setCell ⟨g, i, none⟩ v) := by
    rw [run_store P w _ v _ h1]; simp [hcell, hfz]
  simp only [hx, hy, Instr.storeAt, Instr.sureAddr, Sem.run_bind, Sem.run_pure, Result.andThen_ok, storeVar, hcs, sizeOf_of o.size, List.size_toArray, List.length_cons, List.length_nil, Nat.zero_add, ne_eq, not_true_eq_false, if_false, storeCells, Addr.add, if_true, hst]
  exact hK _ _ (k _ (I.set m hs))
/-- A store of a whole row. -/
theorem w_storeBR {n : Nat} [o : RowTy P ty n] {g : Nat} {cs cs' : List Value} {t : TypeId} {L' : List Asr} (I : St w0 w L) (hx : a.eval x = .pointer (some ⟨g, 0, none⟩)) (hy : a.eval y = .agg cs'.toArray) (m : Upd (Blk g cs t) (Blk g cs' t) L L') (hn : cs.length = n) (hn' : cs'.length = n) (h1 : cs'.all (·.oneCell') = true)
    (k : ∀ w', St w0 w' L' → wpList P ops Q rest (a.put dst undef) w') : wpList P ops Q (⟨dst, .store ty x y, tt, pos, after, none⟩ :: rest) a w := by
  obtain ⟨R, hA, _⟩ := m.at_
  have hb := I.blk hA
  refine wpList_plain rfl fun K hK => ?_
  have hst := run_storeCells_at P g 0 t cs' 0 cs.toArray w hb (by simp [hn, hn']) (by simpa using h1)
  simp only [Nat.zero_add, Nat.add_zero, List.take_zero, List.nil_append, List.drop_eq_nil_of_le (show cs.length ≤ cs'.length by omega), List.append_nil] at hst
  unfold Oper.wp execOp
  have hsz : (Value.agg cs'.toArray).cells.size = n := by simp [Value.cells, hn']
  have hI : St w0 (w.setRow g cs'.toArray) L' := I.upd m fun R h => by
    obtain ⟨a1, F, ⟨F1, F2, b, c, d, e⟩, f⟩ := h
    have hF := (b.2 g).2 rfl
    have hge := f g ((e g).2 (.inl hF))
    refine ⟨Below.trans a1 (B := w0.heap.size) ⟨rfl, rfl, rfl, by simp, fun j hj => setRow_other w g j _ (by omega)⟩, F, ⟨F1, F2, ⟨setRow_heap w g _ _ t _ hb, b.2⟩, c.loc fun j hj => setRow_other w g j _ (fun hg => by subst hg; exact d _ hF hj), d, e⟩, f⟩
  have hlist : (Value.agg cs'.toArray).cells.toList = cs' := by simp [Value.cells]
  have hst2 : (storeCells ⟨g, 0, none⟩ cs').run P w = .ok () (w.setRow g cs'.toArray) := by simpa using hst
  simp only [hx, hy, Instr.storeAt, Instr.sureAddr, Sem.run_bind, Sem.run_pure, Result.andThen_ok, storeVar, hsz, sizeOf_of o.size, ne_eq, not_true_eq_false, if_false, hlist, hst2]
  exact hK _ _ (k _ hI)

/-- An operation whose guard says yes. -/
theorem w_want {op : Op} {gd : Nat × Bool} (hw : (yielded ops a.tmps gd.1 == some gd.2) = true) (h : wpList P ops Q (⟨dst, op, tt, pos, after, none⟩ :: rest) a w) : wpList P ops Q (⟨dst, op, tt, pos, after, some gd⟩ :: rest) a w := by
  unfold wpList at h ⊢
  simp only [Region.wanted, hw, if_true] at h ⊢
  exact h
/-- An operation whose guard is open. -/
theorem w_guard {op : Op} {j : Nat} {q b : Bool} (hb : yielded ops a.tmps j = some b) (h1 : b = q → wpList P ops Q (⟨dst, op, tt, pos, after, none⟩ :: rest) a w) (h2 : b = !q → wpList P ops Q rest (a.put dst undef) w) : wpList P ops Q (⟨dst, op, tt, pos, after, some (j, q)⟩ :: rest) a w := by
  by_cases h : b = q
  · subst h
    exact w_want (by simp [hb]) (h1 rfl)
  · have h3 : b = !q := by revert h; cases b <;> cases q <;> simp
    refine wpList_skip ?_ (h2 h3)
    subst h3
    simp only [Region.wanted, hb]
    cases q <;> rfl
theorem w_guardT {op : Op} {j : Nat} {b : Bool} (hb : yielded ops a.tmps j = some b) (h1 : b = true → wpList P ops Q (⟨dst, op, tt, pos, after, none⟩ :: rest) a w) (h2 : b = false → wpList P ops Q rest (a.put dst undef) w) : wpList P ops Q (⟨dst, op, tt, pos, after, some (j, true)⟩ :: rest) a w := w_guard hb h1 h2
theorem w_guardF {op : Op} {j : Nat} {b : Bool} (hb : yielded ops a.tmps j = some b) (h1 : b = true → wpList P ops Q rest (a.put dst undef) w) (h2 : b = false → wpList P ops Q (⟨dst, op, tt, pos, after, none⟩ :: rest) a w) : wpList P ops Q (⟨dst, op, tt, pos, after, some (j, false)⟩ :: rest) a w := w_guard hb h2 h1
theorem eqPair {x y : Int} (h : x = y) : x ≤ y ∧ y ≤ x := by omega
theorem gguard {op : Op} {gd : Nat × Bool} (h : wpList P ops Q (⟨dst, op, tt, pos, after, some gd⟩ :: rest) a w) : wpList P ops Q (⟨dst, op, tt, pos, after, some gd⟩ :: rest) a w := h

/-! ### Results -/
theorem run_loadVar_blk {n : Nat} [o : RowTy P ty n] {g : Nat} {cs : List Value} {t : TypeId} {R : List Asr} (I : St w0 w L) (m : At (Blk g cs t) L R) (hn : cs.length = n) : (loadVar ty ⟨g, 0, none⟩).run P w = .ok (.agg cs.toArray) w := by
  have h := o.is
  cases hu : P.underlying ty with
  | none => rw [hu] at h; simp at h
  | some d => exact run_loadVar_row w g t ty cs.toArray (0, 0) d (I.blk m) hu (by rw [hu] at h; cases d <;> simp_all) (by simp [o.size, hn])
theorem run_loadVar_cell [o : OneTy P ty] {g : Nat} {v : Value} {cs : List Value} {t : TypeId} {R : List Asr} (I : St w0 w L) (m : At (Blk g (v :: cs) t) L R) : (loadVar ty ⟨g, 0, none⟩).run P w = .ok v w := by
  simp only [loadVar, Sem.run_bind, isAgg_one, Result.andThen_ok, Bool.false_eq_true, if_false, load, Sem.run, I.cell m (i := 0) rfl]
section
variable {fn : Func} {R : Ending → World → Prop}
def ResV (P : Program) (w : World) (tmps : Array Value) : ResultVar → Value → Prop
  | .tmp t, v => tmps.getD t undef = v
  | .cell b ty, v => ∃ p, tmps.getD b undef = .pointer (some p) ∧ (loadVar ty p).run P w = .ok v w
theorem run_res (tmps : Array Value) (r : ResultVar) (v : Value) (h : ResV P w tmps r v) : ((match r with | .tmp t => (pure (tmps.getD t undef) : Sem Value) | .cell a t => do loadVar t (← asAddr (tmps.getD a undef)))).run P w = .ok v w := by
  cases r with
  | tmp t => obtain rfl := h; rfl
  | cell b ty =>
    obtain ⟨p, h1, h2⟩ := h
    show (do loadVar ty (← asAddr (tmps.getD b undef))).run P w = .ok v w
    rw [h1]
    exact h2
theorem mapM_1 (f : ResultVar → Sem Value) {r : ResultVar} {v : Value} (h1 : (f r).run P w = .ok v w) : ((#[r] : Array ResultVar).mapM f).run P w = .ok #[v] w := by simp [h1]
theorem mapM_2 (f : ResultVar → Sem Value) {r s : ResultVar} {v u : Value} (h1 : (f r).run P w = .ok v w) (h2 : (f s).run P w = .ok u w) : ((#[r, s] : Array ResultVar).mapM f).run P w = .ok #[v, u] w := by simp [h1, h2]
theorem mapM_3 (f : ResultVar → Sem Value) {r s q : ResultVar} {v u z : Value} (h1 : (f r).run P w = .ok v w) (h2 : (f s).run P w = .ok u w) (h3 : (f q).run P w = .ok z w) : ((#[r, s, q] : Array ResultVar).mapM f).run P w = .ok #[v, u, z] w := by simp [h1, h2, h3]
theorem ret_0 (hf : fn.results = #[]) (hd : a.defers = []) (hR : R (.returned (.tuple #[])) w) : bodyPost P fn R .ret a w := bodyPost_ret (results_none hf _ _ _) hd hR
theorem end_0 (hf : fn.results = #[]) (hd : a.defers = []) (hR : R (.returned (.tuple #[])) w) : bodyPost P fn R .normal a w := bodyPost_end (results_none hf _ _ _) hd hR
theorem ret_1 {r : ResultVar} {v : Value} (hf : fn.results = #[r]) (h1 : ResV P w a.tmps r v) (hd : a.defers = []) (hR : R (.returned v) w) : bodyPost P fn R .ret a w := by
  refine bodyPost_ret (v := v) ?_ hd hR
  unfold results
  rw [Sem.run_bind, hf, mapM_1 _ (run_res a.tmps r v h1)]
  rfl
theorem ret_2 {r s : ResultVar} {v u : Value} (hf : fn.results = #[r, s]) (h1 : ResV P w a.tmps r v) (h2 : ResV P w a.tmps s u) (hd : a.defers = []) (hR : R (.returned (.tuple #[v, u])) w) : bodyPost P fn R .ret a w := by
  refine bodyPost_ret (v := .tuple #[v, u]) ?_ hd hR
  unfold results
  rw [Sem.run_bind, hf, mapM_2 _ (run_res a.tmps r v h1) (run_res a.tmps s u h2)]
  rfl
theorem ret_3 {r s q : ResultVar} {v u z : Value} (hf : fn.results = #[r, s, q]) (h1 : ResV P w a.tmps r v) (h2 : ResV P w a.tmps s u) (h3 : ResV P w a.tmps q z) (hd : a.defers = []) (hR : R (.returned (.tuple #[v, u, z])) w) : bodyPost P fn R .ret a w := by
  refine bodyPost_ret (v := .tuple #[v, u, z]) ?_ hd hR
  unfold results
  rw [Sem.run_bind, hf, mapM_3 _ (run_res a.tmps r v h1) (run_res a.tmps s u h2) (run_res a.tmps q z h3)]
  rfl
theorem ResV.t (t : Tmp) {tmps : Array Value} {v : Value} (h : tmps.getD t undef = v) : ResV P w tmps (.tmp t) v := h
theorem ResV.row {b : Tmp} {n : Nat} [RowTy P ty n] {tmps : Array Value} {g : Nat} {cs : List Value} {t : TypeId} {M : List Asr} (I : St w0 w L) (h : tmps.getD b undef = .pointer (some ⟨g, 0, none⟩)) (m : At (Blk g cs t) L M) (hn : cs.length = n) : ResV P w tmps (.cell b ty) (.agg cs.toArray) := ⟨_, h, run_loadVar_blk I m hn⟩
theorem ResV.one {b : Tmp} [OneTy P ty] {tmps : Array Value} {g : Nat} {v : Value} {cs : List Value} {t : TypeId} {M : List Asr} (I : St w0 w L) (h : tmps.getD b undef = .pointer (some ⟨g, 0, none⟩)) (m : At (Blk g (v :: cs) t) L M) : ResV P w tmps (.cell b ty) v := ⟨_, h, run_loadVar_cell I m⟩
end

/-! ### Slices of the call's own: literals, append -/
/-- A slice's type: its element's. -/
class SlTy (P : Program) (t : TypeId) (e : outParam TypeId) (n bytes : outParam Nat) (z : outParam Value) : Prop where
  is : P.underlying t = some (.slice e)
  info : (P.info? e).map (fun i => (i.zero, i.size, i.bytes)) = some (some z, n, bytes)
  zs : z.cells.size = n
section
variable {α : Type} {e : TypeId} {n bytes : Nat} {z : Value} {t : TypeId} {enc : α → List Value} {v vy : Value} {l l2 : List α} {R : List Asr} {o : Oper} {K : Act → World → Prop} {E : Prop}
theorem own_grow (I : St w0 w L) (m : At (OwnS e n enc v l) L R) {v' : Value} {w' : World} {l' : List α} (h1 : Own w0.heap.size e n enc w' v' l') (h2 : w.grownBy w' v.ownBlock) (h3 : v'.ownBlock = v.ownBlock ∨ v'.ownBlock = some w.heap.size) : St w0 w' (OwnS e n enc v' l' :: R) :=
  (I.take m).grow1 (h1.lower (Nat.zero_le _)) h2 h3
theorem gappend (h : wpList P ops Q (⟨dst, .call { callee := .builtin .append, args := #[x, y], argTypes := #[t, t] }, tt, pos, after, none⟩ :: rest) a w) : wpList P ops Q (⟨dst, .call { callee := .builtin .append, args := #[x, y], argTypes := #[t, t] }, tt, pos, after, none⟩ :: rest) a w := h
theorem wp_app [s : SlTy P t e n bytes z] (hn : ∀ x, (enc x).length = n) (h1 : ∀ x, ∀ u ∈ enc x, u.oneCell' = true) (h0 : 0 < n) (I : St w0 w L) (hx : a.eval x = v) (m : At (OwnS e n enc v l) L R) (hy : a.eval y = vy) (hr : SlV n (flat enc) w vy l2)
    (hb : (l.length + l2.length) * bytes ≤ 140737488355328) (hm : l.length + l2.length ≤ maxLen) (k : ∀ A m c w', St w0 w' (OwnS e n enc (.slice A m c) (l ++ l2) :: R) → K (a.put dst (.slice A m c)) w') :
    Oper.wp P ⟨dst, .call { callee := .builtin .append, args := #[x, y], argTypes := #[t, t] }, tt, pos, after, none⟩ a w K Q := by
  obtain ⟨A, q, c, rfl, rfl, hc, hcm, hA, hs⟩ := hr
  have hinfo := s.info
  obtain ⟨i, hi, hz, hsize, hby⟩ : ∃ i, P.info? e = some i ∧ i.zero = some z ∧ i.size = n ∧ i.bytes = bytes := by
    cases hq : P.info? e with
    | none => simp [hq] at hinfo
    | some i => simp only [hq, Option.map_some, Option.some.injEq, Prod.mk.injEq] at hinfo; exact ⟨i, rfl, hinfo.1, hinfo.2.1, hinfo.2.2⟩
  cases A with
  | none =>
    obtain rfl : l2 = [] := hs.1 rfl
    obtain rfl : c = 0 := hA rfl
    have hr := run_append_owned_none (P := P) w w0.heap.size t tt e i n s.is hi v l.length _ (I.own m)
    unfold Oper.wp execOp
    simp only [resolve, invoke, builtin, Sem.run_bind, Sem.run_pure, Result.andThen_ok, List.map_toArray, List.map_cons, List.map_nil, List.length_nil, hx, hy, hr]
    have hI := I.take m
    obtain ⟨A', c', rfl, _⟩ := (hI.own .here).reads hn
    exact k A' _ c' w (by simpa using hI)
  | some ad =>
    obtain ⟨v', w', hr, h2, h3, _, h5⟩ := run_append_where (P := P) w w0.heap.size t tt e i z n bytes s.is hi hz hsize hby s.zs h0 v l.length _ (I.own m) ad l2.length c _ (flatMap_len hn l2) ((hs.raw hn h0).2 ad rfl) (fun u hu => by obtain ⟨x, _, h3⟩ := List.mem_flatMap.1 hu; exact h1 x u h3) hm hb I.size
    unfold Oper.wp execOp
    simp only [resolve, invoke, builtin, Sem.run_bind, Sem.run_pure, Result.andThen_ok, List.map_toArray, List.map_cons, List.map_nil, hx, hy, hr]
    have hI := own_grow I m (l' := l ++ l2) (by unfold Own; rw [List.flatMap_append, List.length_append]; exact h2) h3 h5
    obtain ⟨A', c', rfl, _⟩ := (hI.own .here).reads hn
    exact k A' _ c' w' hI
theorem w_append [s : SlTy P t e n bytes z] (hn : ∀ x, (enc x).length = n) (h1 : ∀ x, ∀ u ∈ enc x, u.oneCell' = true) (h0 : 0 < n) (I : St w0 w L) (hx : a.eval x = v) (m : At (OwnS e n enc v l) L R) (hy : a.eval y = vy) (hr : SlV n (flat enc) w vy l2)
    (hb : (l.length + l2.length) * bytes ≤ 140737488355328) (hm : l.length + l2.length ≤ maxLen) (k : ∀ A m c w', St w0 w' (OwnS e n enc (.slice A m c) (l ++ l2) :: R) → wpList P ops Q rest (a.put dst (.slice A m c)) w') :
    wpList P ops Q (⟨dst, .call { callee := .builtin .append, args := #[x, y], argTypes := #[t, t] }, tt, pos, after, none⟩ :: rest) a w :=
  wpList_plain rfl fun _ hK => wp_app hn h1 h0 I hx m hy hr hb hm fun A m c w' J => hK _ _ (k A m c w' J)
/-- At a step of a region that draws its order. -/
theorem step_append [s : SlTy P t e n bytes z] (hn : ∀ x, (enc x).length = n) (h1 : ∀ x, ∀ u ∈ enc x, u.oneCell' = true) (h0 : 0 < n) (I : St w0 w L) (hx : a.eval x = v) (m : At (OwnS e n enc v l) L R) (hy : a.eval y = vy) (hr : SlV n (flat enc) w vy l2)
    (hb : (l.length + l2.length) * bytes ≤ 140737488355328) (hm : l.length + l2.length ≤ maxLen) (k : ∀ A m c w', St w0 w' (OwnS e n enc (.slice A m c) (l ++ l2) :: R) → K (a.put dst (.slice A m c)) w') :
    if Region.wanted ⟨dst, .call { callee := .builtin .append, args := #[x, y], argTypes := #[t, t] }, tt, pos, after, none⟩ (yielded ops a.tmps) = true then Oper.wp P ⟨dst, .call { callee := .builtin .append, args := #[x, y], argTypes := #[t, t] }, tt, pos, after, none⟩ a w K Q else E := by
  rw [if_pos (by simp [Region.wanted])]
  exact wp_app hn h1 h0 I hx m hy hr hb hm k
/-- 'make([]T, n)', an element of one cell. -/
theorem gmake (h : wpList P ops Q (⟨dst, .makeSlice t x y, tt, pos, after, none⟩ :: rest) a w) : wpList P ops Q (⟨dst, .makeSlice t x y, tt, pos, after, none⟩ :: rest) a w := h
theorem w_make1 [s : SlTy P t e 1 bytes z] {zero : α} (hz : enc zero = [z]) (h1 : z.oneCell' = true) (I : St w0 w L) {q : Nat} (hx : a.eval x = .int .i64 q) (hy : a.eval y = .int .i64 q) (hb : bytes * q ≤ 281474976710656) (hm : q ≤ maxLen)
    (k : ∀ g w', St w0 w' (OwnS e 1 enc (.slice (some ⟨g, 0, none⟩) q q) (List.replicate q zero) :: L) → wpList P ops Q rest (a.put dst (.slice (some ⟨g, 0, none⟩) q q)) w') :
    wpList P ops Q (⟨dst, .makeSlice t x y, tt, pos, after, none⟩ :: rest) a w := by
  have hinfo := s.info
  obtain ⟨i, hi, hz0, hsize, hby⟩ : ∃ i, P.info? e = some i ∧ i.zero = some z ∧ i.size = 1 ∧ i.bytes = bytes := by
    cases hq : P.info? e with
    | none => simp [hq] at hinfo
    | some i => simp only [hq, Option.map_some, Option.some.injEq, Prod.mk.injEq] at hinfo; exact ⟨i, rfl, hinfo.1, hinfo.2.1, hinfo.2.2⟩
  have hzc : z.cells = #[z] := by cases z <;> first | rfl | simp [Value.oneCell'] at h1
  refine wpList_make_full w rfl x y t rfl w.heap.size e i z 1 s.is hi hz0 hsize .i64 .i64 q q q hx hy rfl rfl (by rw [hby]; exact hb) hm (Nat.le_refl _) (fun w' ho hg => k w.heap.size w' ?_)
  refine I.mkOwn (Below.grown (Fr.refl w) hg (Nat.le_refl _) (fun _ h => by cases h)) ?_
  unfold Own
  have h2 : (List.replicate q zero).flatMap enc = (madeCells z.cells (q * 1)).toList := by
    rw [hzc, Nat.mul_one, toList_madeCells_one]
    clear ho hg hx hy hb hm k
    induction q with
    | zero => rfl
    | succ q ih => rw [List.replicate_succ, List.flatMap_cons, hz, ih, List.replicate_succ]; rfl
  rw [List.length_replicate, h2]
  exact ho
/-- A cell of a slice of the call's own is written. -/
theorem St.setOwn {L' : List Asr} {g q cap i f : Nat} {l' : List α} {u : Value} (I : St w0 w L) (m : Upd (OwnS e n enc (.slice (some ⟨g, 0, none⟩) q cap) l) (OwnS e n enc (.slice (some ⟨g, 0, none⟩) q cap) l') L L') (hn : ∀ x, (enc x).length = n) {x x' : α} (hx : l[i]? = some x) (hf : f < n) (he : enc x' = (enc x).set f u) (hl : l.set i x' = l') : St w0 (w.setCell ⟨g, i * n + f, none⟩ u) L' := by
  subst hl
  refine I.upd m fun R h => ?_
  have ho := (h.own .here).set hn i x x' f u hx hf he
  obtain ⟨a1, F, ⟨F1, F2, b, c, d, e'⟩, k⟩ := h
  have hF := (b.2 g).2 rfl
  exact ⟨a1.set (k g ((e' g).2 (.inl hF))) u, F, ⟨F1, F2, ⟨ho.lower (Nat.zero_le _), b.2⟩, c.loc fun j hj => Below.heap_setCell w _ u j (fun hg => by have hg2 : j = g := hg; subst hg2; exact d _ hF hj), d, e'⟩, k⟩
theorem w_storeO [o : OneTy P ty] {L' : List Asr} {g q cap i f j : Nat} {l' : List α} {u : Value} (hn : ∀ x, (enc x).length = n) (I : St w0 w L) (hx : a.eval x = .pointer (some ⟨g, j, none⟩)) (hy : a.eval y = u) (m : Upd (OwnS e n enc (.slice (some ⟨g, 0, none⟩) q cap) l) (OwnS e n enc (.slice (some ⟨g, 0, none⟩) q cap) l') L L') (hj : j = i * n + f) {b b' : α} (hb : l[i]? = some b) (hf : f < n) (h1 : u.oneCell' = true) (he : enc b' = (enc b).set f u) (hl : l.set i b' = l')
    (k : ∀ w', St w0 w' L' → wpList P ops Q rest (a.put dst undef) w') : wpList P ops Q (⟨dst, .store ty x y, tt, pos, after, none⟩ :: rest) a w := by
  subst hj
  obtain ⟨R, hA, _⟩ := m.at_
  have ho := I.own hA
  obtain ⟨hi, rfl⟩ := List.getElem?_eq_some_iff.1 hb
  have hcell := ho.cell hn i hi f _ (List.getElem?_eq_getElem (by rw [hn]; exact hf))
  have hfz := ho.frozen (i * n + f)
  refine wpList_plain rfl fun K hK => ?_
  have hcs : u.cells = #[u] := by cases u <;> first | rfl | simp [Value.oneCell'] at h1
  unfold Oper.wp execOp
  have hst : (store ⟨g, i * n + f, none⟩ u).run P w = .ok () (w.setCell ⟨g, i * n + f, none⟩ u) := by
    rw [run_store P w _ u _ h1]; simp [hcell, hfz]
  simp only [hx, hy, Instr.storeAt, Instr.sureAddr, Sem.run_bind, Sem.run_pure, Result.andThen_ok, storeVar, hcs, sizeOf_of o.size, List.size_toArray, List.length_cons, List.length_nil, Nat.zero_add, ne_eq, not_true_eq_false, if_false, storeCells, Addr.add, if_true, hst]
  exact hK _ _ (k _ (I.setOwn m hn hb hf he hl))
theorem St.slvB {g q : Nat} {cs : List Value} {tb : TypeId} (I : St w0 w L) (m : At (Blk g cs tb) L R) (hl : l2.flatMap enc = cs) (hq : l2.length = q) (hm : q ≤ maxLen) (hn : ∀ x, (enc x).length = n) : SlV n (flat enc) w (.slice (some ⟨g, 0, none⟩) q q) l2 := by
  refine ⟨_, q, q, rfl, hq, Nat.le_refl _, hm, fun h => (by cases h), fun h => (by cases h), fun b hb => ?_⟩
  obtain rfl := Option.some.inj hb
  refine ⟨fun _ => rfl, fun i x hx => ⟨enc x, hn x, rfl, fun j u hu => ?_⟩⟩
  rw [Nat.zero_add]
  exact I.cell m (by rw [← hl]; exact flatMap_get' hn l2 i x j u hx hu)
end
end
end Go.Hf
