
/- Sorting, plain: an exchange, of whole stretches, a rotation; an element moved into its place; two sorted stretches merged in place. -/
namespace Go.Hf.Srt
variable {α : Type}
/-- Two places exchanged. -/
def swp (l : List α) (i j : Nat) : List α := match l[i]?, l[j]? with
  | some x, some y => (l.set i y).set j x
  | _, _ => l
theorem swp_eq {l : List α} {i j : Nat} (hi : i < l.length) (hj : j < l.length) : swp l i j = (l.set i l[j]).set j l[i] := by
  unfold swp
  rw [List.getElem?_eq_getElem hi, List.getElem?_eq_getElem hj]
theorem swp_len (l : List α) (i j : Nat) : (swp l i j).length = l.length := by
  unfold swp
  split <;> simp
theorem swp_app (P Q R : List α) (x y : α) : swp (P ++ x :: (Q ++ y :: R)) P.length (P.length + 1 + Q.length) = P ++ y :: (Q ++ x :: R) := by
  have h1 : (P ++ x :: (Q ++ y :: R))[P.length]? = some x := by simp
  have h2 : (P ++ x :: (Q ++ y :: R))[P.length + 1 + Q.length]? = some y := by
    rw [List.getElem?_append_right (by omega), show P.length + 1 + Q.length - P.length = Q.length + 1 by omega, List.getElem?_cons_succ, List.getElem?_append_right (Nat.le_refl _), Nat.sub_self]
    rfl
  unfold swp
  rw [h1, h2]
  dsimp only
  rw [List.set_append_right _ _ (Nat.le_refl _), Nat.sub_self, List.set_cons_zero, List.set_append_right _ _ (by omega), show P.length + 1 + Q.length - P.length = Q.length + 1 by omega, List.set_cons_succ, List.set_append_right _ _ (Nat.le_refl _), Nat.sub_self, List.set_cons_zero]
theorem swp_up (P R : List α) (x y : α) : swp (P ++ x :: y :: R) P.length (P.length + 1) = P ++ y :: x :: R := swp_app P [] R x y
theorem swp_comm {l : List α} {i j : Nat} (h : i ≠ j) : swp l i j = swp l j i := by
  unfold swp
  cases l[i]? <;> cases l[j]? <;> try rfl
  dsimp only
  rw [List.set_comm _ _ h]
theorem swp_down (P R : List α) (x y : α) : swp (P ++ x :: y :: R) (P.length + 1) P.length = P ++ y :: x :: R := by
  rw [swp_comm (by omega)]; exact swp_up P R x y
/-- So many places from two on, exchanged one by one. -/
def swr : List α → Nat → Nat → Nat → List α
  | l, _, _, 0 => l
  | l, a, b, n + 1 => swr (swp l a b) (a + 1) (b + 1) n
theorem swr_len : ∀ (n : Nat) (l : List α) (a b : Nat), (swr l a b n).length = l.length
  | 0, _, _, _ => rfl
  | n + 1, l, a, b => by rw [swr, swr_len n, swp_len]
theorem swr_app : ∀ (A B X Y Z : List α), A.length = B.length → swr (X ++ (A ++ (Y ++ (B ++ Z)))) X.length (X.length + A.length + Y.length) A.length = X ++ (B ++ (Y ++ (A ++ Z)))
  | [], [], X, Y, Z, _ => rfl
  | x :: A, y :: B, X, Y, Z, h => by
    have h' : A.length = B.length := by simpa using h
    have e := swp_app X (A ++ Y) (B ++ Z) x y
    have ih := swr_app A B (X ++ [y]) (Y ++ [x]) Z h'
    simp only [List.append_assoc, List.cons_append, List.nil_append, List.length_append, List.length_cons, List.length_nil] at e ih ⊢
    rw [swr]
    rw [show X.length + (A.length + 1) + Y.length = X.length + 1 + (A.length + Y.length) by omega, e]
    rw [show X.length + 1 + (A.length + Y.length) + 1 = X.length + (0 + 1) + A.length + (Y.length + (0 + 1)) by omega]
    exact ih
/-- What a rotation comes to, all the way. -/
def Rot (G l : List α) (m i j : Nat) : Prop := ∃ P A B S, l = P ++ (A ++ (B ++ S)) ∧ P.length + i = m ∧ A.length = i ∧ B.length = j ∧ P ++ (B ++ (A ++ S)) = G
theorem Rot.gt {G l : List α} {m i j : Nat} (h : Rot G l m i j) (hij : j < i) : Rot G (swr l (m - i) m j) m (i - j) j := by
  obtain ⟨P, A, B, S, rfl, rfl, rfl, rfl, rfl⟩ := h
  obtain ⟨A1, A2, rfl, hA1⟩ : ∃ A1 A2, A = A1 ++ A2 ∧ A1.length = B.length := ⟨A.take B.length, A.drop B.length, (List.take_append_drop _ _).symm, by rw [List.length_take]; omega⟩
  have e := swr_app A1 B P A2 S hA1
  rw [List.length_append] at hij ⊢
  refine ⟨P ++ B, A2, A1, S, ?_, by rw [List.length_append]; omega, by omega, hA1, by simp [List.append_assoc]⟩
  rw [show P.length + (A1.length + A2.length) - (A1.length + A2.length) = P.length by omega, show P.length + (A1.length + A2.length) = P.length + A1.length + A2.length by omega, List.append_assoc, ← hA1, e]
  simp [List.append_assoc]
theorem Rot.lt {G l : List α} {m i j : Nat} (h : Rot G l m i j) (hij : i < j) : Rot G (swr l (m - i) (m + j - i) i) m i (j - i) := by
  obtain ⟨P, A, B, S, rfl, rfl, rfl, rfl, rfl⟩ := h
  obtain ⟨B1, B2, rfl, hB2⟩ : ∃ B1 B2, B = B1 ++ B2 ∧ B2.length = A.length := ⟨B.take (B.length - A.length), B.drop (B.length - A.length), (List.take_append_drop _ _).symm, by rw [List.length_drop]; omega⟩
  have e := swr_app A B2 P B1 S hB2.symm
  rw [List.length_append] at hij ⊢
  refine ⟨P, B2, B1, A ++ S, ?_, by omega, hB2, by omega, by simp [List.append_assoc]⟩
  rw [show P.length + A.length - A.length = P.length by omega, show P.length + A.length + (B1.length + B2.length) - A.length = P.length + A.length + B1.length by omega, List.append_assoc, e]
theorem Rot.eq {G l : List α} {m i : Nat} (h : Rot G l m i i) : swr l (m - i) m i = G := by
  obtain ⟨P, A, B, S, rfl, rfl, rfl, hB, rfl⟩ := h
  have e := swr_app A B P [] S hB.symm
  rw [show P.length + A.length - A.length = P.length by omega]
  simpa using e
/-- An element on its way through a stretch. -/
def Move (P W : List α) (x : α) (R l : List α) (k : Nat) (q : α → Prop) : Prop := ∃ U V, U ++ V = W ∧ l = P ++ (U ++ x :: (V ++ R)) ∧ k = P.length + U.length ∧ ∀ y ∈ V, q y
theorem Move.up {P W R l : List α} {x : α} {k : Nat} (h : Move P W x R l k fun _ => True) (hk : k < P.length + W.length) : Move P W x R (swp l k (k + 1)) (k + 1) fun _ => True := by
  obtain ⟨U, V, rfl, rfl, rfl, _⟩ := h
  cases V with
  | nil => simp at hk
  | cons y V =>
    refine ⟨U ++ [y], V, by simp, ?_, by simp; omega, fun _ _ => trivial⟩
    have e := swp_up (P ++ U) (V ++ R) x y
    simp only [List.append_assoc, List.length_append, List.cons_append, List.nil_append] at e ⊢
    exact e
theorem Move.down {P W R l : List α} {x : α} {k : Nat} {q : α → Prop} (h : Move P W x R l (k + 1) q) (hk : P.length ≤ k) (hq : ∀ y, l[k]? = some y → q y) : Move P W x R (swp l (k + 1) k) k q := by
  obtain ⟨U, V, rfl, rfl, he, hv⟩ := h
  rcases List.eq_nil_or_concat U with rfl | ⟨U, y, rfl⟩
  · simp at he; omega
  · rw [List.concat_eq_append] at *
    rw [List.length_append] at he
    simp only [List.length_cons, List.length_nil] at he
    obtain rfl : k = P.length + U.length := by omega
    have hy : q y := hq y (by
      rw [List.getElem?_append_right (by omega), Nat.add_sub_cancel_left, List.append_assoc, List.getElem?_append_right (Nat.le_refl _), Nat.sub_self]
      rfl)
    refine ⟨U, y :: V, by simp, ?_, rfl, fun z hz => ?_⟩
    · have e := swp_down (P ++ U) (V ++ R) y x
      simp only [List.append_assoc, List.length_append, List.cons_append, List.nil_append] at e ⊢
      exact e
    · rcases List.mem_cons.1 hz with rfl | hz
      · exact hy
      · exact hv z hz
theorem Move.here {P W R l : List α} {x : α} {k : Nat} {q : α → Prop} (h : Move P W x R l k q) : l[k]? = some x := by
  obtain ⟨U, V, rfl, rfl, rfl, _⟩ := h
  rw [List.getElem?_append_right (by omega), Nat.add_sub_cancel_left, List.getElem?_append_right (Nat.le_refl _), Nat.sub_self]
  rfl
theorem Move.len {P W R l : List α} {x : α} {k : Nat} {q : α → Prop} (h : Move P W x R l k q) : l.length = P.length + W.length + 1 + R.length ∧ P.length ≤ k ∧ k ≤ P.length + W.length := by
  obtain ⟨U, V, rfl, rfl, rfl, _⟩ := h
  simp
  omega
theorem Move.first {P W R l : List α} {x : α} {q : α → Prop} (h : Move P W x R l P.length q) : l = P ++ (x :: (W ++ R)) ∧ ∀ y ∈ W, q y := by
  obtain ⟨U, V, rfl, rfl, he, hq⟩ := h
  obtain rfl : U = [] := List.eq_nil_of_length_eq_zero (by omega)
  exact ⟨rfl, hq⟩
theorem Move.last {P W R l : List α} {x : α} {q : α → Prop} (h : Move P W x R l (P.length + W.length) q) : l = P ++ (W ++ (x :: R)) := by
  obtain ⟨U, V, rfl, rfl, he, hq⟩ := h
  obtain rfl : V = [] := List.eq_nil_of_length_eq_zero (by rw [List.length_append] at he; omega)
  simp

/-- What a sort is told by: 'neg' tells, whether the first one goes ahead; 'tag' numbers the elements as they came; 'lt' is the order, of two as good that of their numbers. -/
structure Ord (neg : α → α → Bool) (tag : α → Nat) (lt : α → α → Prop) : Prop where
  trans : ∀ {x y z}, lt x y → lt y z → lt x z
  neg_iff : ∀ {x y}, tag x < tag y → (neg y x = true ↔ lt y x)
  tot : ∀ {x y}, tag x < tag y → lt x y ∨ lt y x
section
variable {neg : α → α → Bool} {tag : α → Nat} {lt : α → α → Prop}
theorem Ord.no (O : Ord neg tag lt) {x y : α} (h : tag x < tag y) (hn : neg y x = false) : lt x y := by
  rcases O.tot h with e | e
  · exact e
  · rw [(O.neg_iff h).2 e] at hn; cases hn
theorem part_lo (O : Ord neg tag lt) {W : List α} (hs : W.Pairwise lt) {x : α} {k : Nat} (hk : k ≤ W.length) (h : k = 0 ∨ ∀ y, W[k - 1]? = some y → lt y x) : ∀ y ∈ W.take k, lt y x := by
  intro y hy
  obtain ⟨i, hi, rfl⟩ := List.mem_iff_getElem.1 hy
  rw [List.length_take] at hi
  rw [List.getElem_take]
  rcases h with rfl | h
  · omega
  · have h1 := h _ (List.getElem?_eq_getElem (by omega))
    by_cases e : i = k - 1
    · subst e; exact h1
    · exact O.trans (List.pairwise_iff_getElem.1 hs i (k - 1) (by omega) (by omega) (by omega)) h1
theorem part_hi (O : Ord neg tag lt) {W : List α} (hs : W.Pairwise lt) {x : α} {k : Nat} (h : k = W.length ∨ ∀ y, W[k]? = some y → lt x y) : ∀ y ∈ W.drop k, lt x y := by
  intro y hy
  obtain ⟨i, hi, rfl⟩ := List.mem_iff_getElem.1 hy
  rw [List.length_drop] at hi
  rw [List.getElem_drop]
  rcases h with rfl | h
  · omega
  · have h1 := h _ (List.getElem?_eq_getElem (by omega))
    by_cases e : i = 0
    · subst e; exact h1
    · exact O.trans h1 (List.pairwise_iff_getElem.1 hs k (k + i) (by omega) (by omega) (by omega))
theorem put_in {W : List α} (hs : W.Pairwise lt) {x : α} {k : Nat} (h1 : ∀ y ∈ W.take k, lt y x) (h2 : ∀ y ∈ W.drop k, lt x y) : (W.take k ++ x :: W.drop k).Pairwise lt ∧ (W.take k ++ x :: W.drop k).Perm (x :: W) := by
  have hs2 := hs
  rw [← List.take_append_drop k W, List.pairwise_append] at hs2
  refine ⟨?_, ?_⟩
  · rw [List.pairwise_append, List.pairwise_cons]
    refine ⟨hs2.1, ⟨h2, hs2.2.1⟩, fun y hy z hz => ?_⟩
    rcases List.mem_cons.1 hz with rfl | hz
    · exact h1 y hy
    · exact hs2.2.2 y hy z hz
  · have := List.perm_middle (a := x) (l₁ := W.take k) (l₂ := W.drop k)
    rwa [List.take_append_drop] at this
/-- An element brought in: where it stops. -/
theorem Move.stop (O : Ord neg tag lt) {P W R l : List α} {x : α} {k : Nat} (h : Move P W x R l k (lt x)) (hs : W.Pairwise lt) (ht : ∀ y ∈ W, tag y < tag x) (he : k = P.length ∨ ∀ y, l[k - 1]? = some y → neg x y = false) : ∃ M, l = P ++ (M ++ R) ∧ M.Pairwise lt ∧ M.Perm (x :: W) := by
  obtain ⟨U, V, rfl, rfl, rfl, hv⟩ := h
  have hU : ∀ y ∈ U, lt y x := by
    rw [List.pairwise_append] at hs
    rcases List.eq_nil_or_concat U with rfl | ⟨U, y, rfl⟩
    · intro y hy; cases hy
    · rw [List.concat_eq_append] at *
      rcases he with he | he
      · rw [List.length_append] at he; simp at he
      · have hy := he y (by
          rw [List.length_append, List.getElem?_append_right (by simp <;> omega)]
          rw [List.append_assoc, List.getElem?_append_right (by simp)]
          rw [show P.length + (U.length + [y].length) - 1 - P.length - U.length = 0 by simp <;> omega]
          rfl)
        have h1 := O.no (ht y (by simp)) hy
        intro z hz
        rcases List.mem_append.1 hz with hz | hz
        · exact O.trans ((List.pairwise_append.1 hs.1).2.2 z hz y (by simp)) h1
        · rw [List.mem_singleton.1 hz]; exact h1
  refine ⟨U ++ x :: V, by simp, ?_, List.perm_middle⟩
  rw [List.pairwise_append] at hs ⊢
  rw [List.pairwise_cons]
  refine ⟨hs.1, ⟨hv, hs.2.1⟩, fun y hy z hz => ?_⟩
  rcases List.mem_cons.1 hz with rfl | hz
  · exact hU y hy
  · exact hs.2.2 y hy z hz
/-- Two stretches, cut where the search stopped: what goes ahead, what behind. -/
theorem halves {A1 A2 B1 B2 M1 M2 : List α} (hA : (A1 ++ A2).Pairwise lt) (hB : (B1 ++ B2).Pairwise lt) (h1 : ∀ x ∈ A1, ∀ y ∈ B2, lt x y) (h2 : ∀ x ∈ B1, ∀ y ∈ A2, lt x y) (p1 : M1.Perm (A1 ++ B1)) (p2 : M2.Perm (A2 ++ B2)) (s1 : M1.Pairwise lt) (s2 : M2.Pairwise lt) : (M1 ++ M2).Pairwise lt ∧ (M1 ++ M2).Perm ((A1 ++ A2) ++ (B1 ++ B2)) := by
  constructor
  · rw [List.pairwise_append] at hA hB ⊢
    refine ⟨s1, s2, fun x hx y hy => ?_⟩
    rcases List.mem_append.1 (p1.mem_iff.1 hx) with hx | hx <;> rcases List.mem_append.1 (p2.mem_iff.1 hy) with hy | hy
    · exact hA.2.2 x hx y hy
    · exact h1 x hx y hy
    · exact h2 x hx y hy
    · exact hB.2.2 x hx y hy
  · refine (p1.append p2).trans ?_
    rw [List.append_assoc, List.append_assoc]
    refine List.Perm.append_left A1 ?_
    rw [← List.append_assoc, ← List.append_assoc]
    exact List.Perm.append_right B2 List.perm_append_comm
/-- The cut of two stretches. -/
theorem cross_lo (O : Ord neg tag lt) {A B : List α} (hA : A.Pairwise lt) (hB : B.Pairwise lt) (ht : ∀ x ∈ A, ∀ y ∈ B, tag x < tag y) {i j : Nat} (hi : i ≤ A.length) (h : i = 0 ∨ j = B.length ∨ ∀ x y, A[i - 1]? = some x → B[j]? = some y → neg y x = false) : ∀ x ∈ A.take i, ∀ y ∈ B.drop j, lt x y := by
  intro x hx y hy
  obtain ⟨k, hk, rfl⟩ := List.mem_iff_getElem.1 hy
  rw [List.length_drop] at hk
  rcases h with rfl | rfl | h
  · simp at hx
  · omega
  · refine part_lo O hA hi ?_ x hx
    by_cases e : i = 0
    · exact .inl e
    · refine .inr fun z hz => ?_
      have hz2 := List.mem_of_getElem? hz
      refine part_hi O hB (x := z) (k := j) (.inr fun u hu => ?_) _ hy
      exact O.no (ht z hz2 u (List.mem_of_getElem? hu)) (h z u hz hu)
theorem cross_hi (O : Ord neg tag lt) {A B : List α} (hA : A.Pairwise lt) (hB : B.Pairwise lt) (ht : ∀ x ∈ A, ∀ y ∈ B, tag x < tag y) {i j : Nat} (hj : j ≤ B.length) (h : j = 0 ∨ i = A.length ∨ ∀ x y, A[i]? = some x → B[j - 1]? = some y → neg y x = true) : ∀ x ∈ B.take j, ∀ y ∈ A.drop i, lt x y := by
  intro x hx y hy
  obtain ⟨k, hk, rfl⟩ := List.mem_iff_getElem.1 hy
  rw [List.length_drop] at hk
  rcases h with rfl | rfl | h
  · simp at hx
  · omega
  · refine part_lo O hB hj ?_ x hx
    by_cases e : j = 0
    · exact .inl e
    · refine .inr fun z hz => ?_
      have hz2 := List.mem_of_getElem? hz
      refine part_hi O hA (x := z) (k := i) (.inr fun u hu => ?_) _ hy
      exact (O.neg_iff (ht u (List.mem_of_getElem? hu) z hz2)).1 (h u z hu hz)
end
end Go.Hf.Srt
