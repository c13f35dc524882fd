
/- Readings (layer 6), plain: silence; what all puts lead to. -/
import Derived.Test.YtggeloihnbjogaaSerP
namespace Go.Proofs.Ytggeloihnbjogaa
namespace Ser
def puts (L : List Rd) : List Rd := L.foldl step []
theorem puts_snoc (L : List Rd) (x : Rd) : puts (L ++ [x]) = step (puts L) x := by unfold puts; rw [List.foldl_append]; rfl
theorem foldl_rep : ∀ (L M l : List Rd), Rep l M → Rep (L.foldl step l) (M ++ L)
  | [], M, l, h => by rw [List.append_nil]; exact h
  | x :: L, M, l, h => by
    have := foldl_rep L (M ++ [x]) (step l x) (h.step x)
    rw [List.append_assoc] at this
    exact this
theorem puts_rep (L : List Rd) : Rep (puts L) L := foldl_rep L [] [] Rep.nil
theorem step_len (l : List Rd) (x : Rd) (hs : Sorted l) : (step l x).length ≤ l.length + 1 := by
  unfold step
  split
  · exact put_len l x hs
  · omega
theorem foldl_len : ∀ (L M l : List Rd), Rep l M → (L.foldl step l).length ≤ l.length + L.length
  | [], _, l, _ => Nat.le_refl _
  | x :: L, M, l, h => by
    have h1 := foldl_len L (M ++ [x]) (step l x) (h.step x)
    have h2 := step_len l x h.sorted
    simp only [List.foldl_cons, List.length_cons]
    omega
theorem puts_len (L : List Rd) : (puts L).length ≤ L.length := by have := foldl_len L [] [] Rep.nil; rw [List.length_nil, Nat.zero_add] at this; exact this
theorem right_small' {x : Rd} (h : right x = true) : 0 ≤ x.m ∧ x.m < 1048576 ∧ 0 ≤ x.s ∧ x.s < 65536 := by
  unfold right at h
  simp only [Bool.and_eq_true, decide_eq_true_eq] at h
  exact ⟨h.1.1.1.1, h.1.1.1.2, h.1.1.2, h.1.2⟩
theorem upto_same (l : List Rd) (hs : Sorted l) (m m' : Int) (h : m ≤ m') (hk : ∀ hk : upto l m < l.length, m' < (l[upto l m]).m) : upto l m' = upto l m := by
  have hle := sorted_le hs
  have h1 := upto_le l m
  have h2 := upto_le l m'
  by_cases c : upto l m < upto l m'
  · have h3 := (upto_iff m' l hle (upto l m) (by omega)).2 c
    have := hk (by omega)
    omega
  · by_cases c2 : upto l m' < upto l m
    · have h3 := (upto_iff m l hle (upto l m') (by omega)).2 c2
      have h4 := (upto_iff m' l hle (upto l m') (by omega)).1 (by omega)
      omega
    · omega
theorem air_of (l : List Rd) (a b m : Int) : air l a b m = a ∨ ∃ x ∈ l, x.t = air l a b m := by
  unfold air last
  by_cases h : upto l m = 0
  · rw [if_pos h]; exact .inl rfl
  · rw [if_neg h]
    have h1 := upto_le l m
    rw [List.getElem?_eq_getElem (by omega : upto l m - 1 < l.length)]
    dsimp only
    split
    · rename_i heq
      split at heq <;> first | exact .inl rfl | cases heq
    · rename_i x heq
      split at heq
      · cases heq
      · injection heq with heq
        exact .inr ⟨x, by rw [← heq]; exact List.getElem_mem _, rfl⟩
def n0 (l : List Rd) (m : Int) : Int := match l[upto l m]? with | none => -1 | some x => x.m
/-- What the next minute is, of the place and of the reading that counts. -/
theorem next_of (l : List Rd) (b m : Int) : next l b m = match last l b m with | none => (n0 l m) | some x => if (n0 l m) < 0 ∨ x.m + b + 1 < (n0 l m) then x.m + b + 1 else (n0 l m) := rfl
theorem place_of (l : List Rd) (hs : Sorted l) (hr : ∀ x ∈ l, right x = true) (m : Int) :
    (upto l m = l.length ∧ (n0 l m) = -1) ∨ ∃ h : upto l m < l.length, (n0 l m) = (l[upto l m]).m ∧ m < (l[upto l m]).m ∧ 0 ≤ (l[upto l m]).m := by
  have h1 := upto_le l m
  by_cases h : upto l m < l.length
  · refine .inr ⟨h, by unfold n0; rw [List.getElem?_eq_getElem h], ?_, (right_small' (hr _ (List.getElem_mem h))).1⟩
    have := upto_iff m l (sorted_le hs) (upto l m) h
    omega
  · exact .inl ⟨by omega, by unfold n0; rw [List.getElem?_eq_none (by omega)]⟩
theorem last_cases (l : List Rd) (hs : Sorted l) (b m : Int) : (upto l m = 0 ∧ last l b m = none) ∨ ∃ h : upto l m - 1 < l.length, 0 < upto l m ∧ (l[upto l m - 1]).m ≤ m ∧ last l b m = if b < m - (l[upto l m - 1]).m then none else some l[upto l m - 1] := by
  have h1 := upto_le l m
  unfold last
  by_cases h : upto l m = 0
  · exact .inl ⟨h, if_pos h⟩
  · refine .inr ⟨by omega, by omega, (upto_iff m l (sorted_le hs) (upto l m - 1) (by omega)).2 (by omega), ?_⟩
    rw [if_neg h, List.getElem?_eq_getElem (by omega : upto l m - 1 < l.length)]
theorem next_late (l : List Rd) (hs : Sorted l) (hr : ∀ x ∈ l, right x = true) (b m : Int) : next l b m < 0 ∨ m < next l b m := by
  rw [next_of]
  rcases place_of l hs hr m with ⟨h1, h2⟩ | ⟨h1, h2, h3, h4⟩ <;> rw [h2] <;> rcases last_cases l hs b m with ⟨g1, g2⟩ | ⟨g1, g2, g3, g4⟩
  · rw [g2]; exact .inl (by dsimp only; decide)
  · rw [g4]
    by_cases c : b < m - (l[upto l m - 1]).m
    · rw [if_pos c]; exact .inl (by dsimp only; decide)
    · rw [if_neg c]
      dsimp only
      rw [if_pos (.inl (by decide))]
      right; omega
  · rw [g2]; right; exact h3
  · rw [g4]
    by_cases c : b < m - (l[upto l m - 1]).m
    · rw [if_pos c]; right; exact h3
    · rw [if_neg c]
      dsimp only
      by_cases cc : (l[upto l m]).m < 0 ∨ (l[upto l m - 1]).m + b + 1 < (l[upto l m]).m
      · rw [if_pos cc]; right; omega
      · rw [if_neg cc]; right; omega
theorem air_same (l : List Rd) (hs : Sorted l) (hr : ∀ x ∈ l, right x = true) (a b m m' : Int) (h : m ≤ m') (hn : next l b m < 0 ∨ m' < next l b m) : air l a b m' = air l a b m := by
  have hu : upto l m' = upto l m := by
    refine upto_same l hs m m' h fun hk => ?_
    rw [next_of] at hn
    rcases place_of l hs hr m with ⟨h1, _⟩ | ⟨h1, h2, h3, h4⟩
    · omega
    · rw [h2] at hn
      rcases last_cases l hs b m with ⟨g1, g2⟩ | ⟨g1, g2, g3, g4⟩
      · rw [g2] at hn; dsimp only at hn; omega
      · rw [g4] at hn
        by_cases c : b < m - (l[upto l m - 1]).m
        · rw [if_pos c] at hn; dsimp only at hn; omega
        · rw [if_neg c] at hn
          dsimp only at hn
          have hx := right_small' (hr _ (List.getElem_mem g1))
          by_cases cc : (l[upto l m]).m < 0 ∨ (l[upto l m - 1]).m + b + 1 < (l[upto l m]).m
          · rw [if_pos cc] at hn; omega
          · rw [if_neg cc] at hn; omega
  have hl : last l b m' = last l b m := by
    rcases last_cases l hs b m with ⟨g1, g2⟩ | ⟨g1, g2, g3, g4⟩
    · rw [g2]; unfold last; rw [hu, if_pos g1]
    · have g5 : last l b m' = if b < m' - (l[upto l m - 1]).m then none else some l[upto l m - 1] := by
        unfold last
        rw [hu, if_neg (by omega), List.getElem?_eq_getElem g1]
      rw [g4, g5]
      by_cases c : b < m - (l[upto l m - 1]).m
      · rw [if_pos c, if_pos (by omega)]
      · rw [if_neg c]
        refine if_neg fun c2 => ?_
        rw [next_of, g4, if_neg c] at hn
        dsimp only at hn
        have hx := right_small' (hr _ (List.getElem_mem g1))
        rcases place_of l hs hr m with ⟨h1, h2⟩ | ⟨h1, h2, h3, h4⟩ <;> rw [h2] at hn
        · rw [if_pos (.inl (by decide))] at hn; omega
        · by_cases cc : (l[upto l m]).m < 0 ∨ (l[upto l m - 1]).m + b + 1 < (l[upto l m]).m
          · rw [if_pos cc] at hn; omega
          · rw [if_neg cc] at hn; omega
  unfold air
  rw [hl]
theorem air_none (l : List Rd) (hs : Sorted l) (hr : ∀ x ∈ l, right x = true) (a b m : Int) (hb : 0 ≤ b) (hn : next l b m < 0) : air l a b m = a := by
  rw [next_of] at hn
  unfold air
  rcases last_cases l hs b m with ⟨g1, g2⟩ | ⟨g1, g2, g3, g4⟩
  · rw [g2]
  · rw [g4]
    by_cases c : b < m - (l[upto l m - 1]).m
    · rw [if_pos c]
    · rw [g4, if_neg c] at hn
      dsimp only at hn
      have hx := right_small' (hr _ (List.getElem_mem g1))
      rcases place_of l hs hr m with ⟨h1, h2⟩ | ⟨h1, h2, h3, h4⟩ <;> rw [h2] at hn
      · rw [if_pos (.inl (by decide))] at hn; omega
      · by_cases cc : (l[upto l m]).m < 0 ∨ (l[upto l m - 1]).m + b + 1 < (l[upto l m]).m
        · rw [if_pos cc] at hn; omega
        · rw [if_neg cc] at hn; omega
theorem air_far (l : List Rd) (hs : Sorted l) (a b m : Int) (k : Nat) (hk : l.length = k + 1) (hm : (l[k]).m + b < m) (hb : 0 ≤ b) : air l a b m = a := by
  have hu : upto l m = k + 1 := by
    have h1 := upto_le l m
    have := (upto_iff m l (sorted_le hs) k (by omega)).1 (by omega)
    omega
  unfold air last
  rw [hu, if_neg (by omega), Nat.add_sub_cancel, List.getElem?_eq_getElem (by omega)]
  dsimp only
  rw [if_pos (by omega)]
end Ser
end Go.Proofs.Ytggeloihnbjogaa
