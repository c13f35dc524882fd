/- What one act makes of a book's list: plain Lean. -/
import Derived.Test.YthgmnlkblomcaaaOrderA
namespace Go.Proofs.Ythgmnlkblomcaaa.Order
open Go.RowKit Go.Hf

/-- Behind one act. -/
def Next (lw ln : List Ord) : Prop := lw.length ≤ ln.length ∧ ln.length ≤ lw.length + 1 ∧ ∀ (k : Nat) (h : k < ln.length), (lw.length ≤ k → ln[k].state = 0) ∧
  ∀ h2 : k < lw.length, ln[k].product = lw[k].product ∧ ln[k].units = lw[k].units ∧ (lw[k].state = 2 → ln[k].state = 2) ∧ (ln[k].state = 2 → lw[k].state ≠ 0)
/-- States are from 0 to 2. -/
def ST (l : List Ord) : Prop := ∀ (k : Nat) (h : k < l.length), 0 ≤ l[k].state ∧ l[k].state ≤ 2
theorem st_nil : ST [] := fun k h => by simp at h
theorem next_refl (l : List Ord) : Next l l := ⟨Nat.le_refl _, by omega, fun k h => ⟨fun h1 => by omega, fun _ => ⟨rfl, rfl, fun e => e, fun e => by omega⟩⟩⟩
theorem next_want (l : List Ord) (p u : Int) : Next l (want l p u).1 := by
  unfold want
  split
  · exact next_refl l
  · split
    · exact next_refl l
    · refine ⟨by simp, by simp, fun k h => ⟨fun h1 => ?_, fun h2 => ?_⟩⟩
      · have : k = l.length := by simp at h; omega
        subst this
        simp
      · have e : (l ++ [⟨(l.length : Int) + 1, p, u, 0⟩])[k] = l[k] := List.getElem_append_left h2
        simp only [e]
        exact ⟨trivial, trivial, fun e => e, fun e => by omega⟩
theorem st_want {l : List Ord} (hs : ST l) (p u : Int) : ST (want l p u).1 := by
  unfold want
  split
  · exact hs
  · split
    · exact hs
    · intro k h
      by_cases h2 : k < l.length
      · have e : (l ++ [⟨(l.length : Int) + 1, p, u, 0⟩])[k] = l[k] := List.getElem_append_left h2
        simp only [e]
        exact hs k h2
      · have : k = l.length := by simp at h; omega
        subst this
        simp
theorem get_state (l : List Ord) (id : Int) (h : (get l id).2 = 0) : ∃ hk : id.toNat - 1 < l.length, (get l id).1 = l[id.toNat - 1] := by
  unfold get at h ⊢
  split
  · rename_i h1
    rw [if_pos h1] at h
    exact absurd h (by decide)
  · have hk : id.toNat - 1 < l.length := by omega
    exact ⟨hk, by simp [List.getD_eq_getElem?_getD, hk]⟩
theorem next_change (l : List Ord) (id frm to_ : Int) (h1 : frm ≠ 2) (h2 : to_ = 2 → frm ≠ 0) : Next l (change l id frm to_).1 := by
  unfold change
  split
  · exact next_refl l
  · rename_i hg
    split
    · exact next_refl l
    · rename_i hs
      obtain ⟨hk, e⟩ := get_state l id (by omega)
      rw [e] at hs
      unfold setAt
      have eD : l.getD (id.toNat - 1) zero = l[id.toNat - 1] := by simp [List.getD_eq_getElem?_getD, hk]
      rw [eD]
      refine ⟨by simp, by simp, fun k h => ⟨fun h1 => by simp at h; omega, fun h3 => ?_⟩⟩
      by_cases ek : id.toNat - 1 = k
      · subst ek
        simp only [List.getElem_set_self]
        exact ⟨trivial, trivial, fun e => by omega, fun e => by have := h2 e; omega⟩
      · simp only [List.getElem_set_ne ek]
        exact ⟨trivial, trivial, fun e => e, fun e => by omega⟩
theorem st_change {l : List Ord} (hs : ST l) (id frm to_ : Int) (h1 : 0 ≤ to_) (h2 : to_ ≤ 2) : ST (change l id frm to_).1 := by
  unfold change
  split
  · exact hs
  · split
    · exact hs
    · unfold setAt
      intro k h
      by_cases ek : id.toNat - 1 = k
      · subst ek
        simp only [List.getElem_set_self]
        exact ⟨h1, h2⟩
      · simp only [List.getElem_set_ne ek]
        exact hs k (by simpa using h)
end Go.Proofs.Ythgmnlkblomcaaa.Order
