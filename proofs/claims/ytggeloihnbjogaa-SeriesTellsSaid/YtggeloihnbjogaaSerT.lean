
/- Readings (layer 6), plain: the reference's list: as they came, of each number one; it holds the same readings as the sorted list. -/
import Derived.Test.YtggeloihnbjogaaSerQ
namespace Go.Proofs.Ytggeloihnbjogaa
namespace Ser
def rput : List Rd → Rd → Bool × List Rd
  | [], r => (true, [r])
  | x :: l, r => if x.m = r.m ∧ x.s = r.s then (if r.t ≤ x.t then (false, x :: l) else (true, { x with t := r.t } :: l)) else ((rput l r).1, x :: (rput l r).2)
theorem key_iff (a b : Rd) : key a = key b ↔ a.m = b.m ∧ a.s = b.s := by unfold key; rw [Prod.mk.injEq]
theorem rput_spec (r : Rd) : ∀ l : List Rd,
    (∃ (j : Nat) (hj : j < l.length), key l[j] = key r ∧ rput l r = (decide (l[j].t < r.t), l.set j { l[j] with t := max l[j].t r.t })) ∨
    ((∀ x ∈ l, key x ≠ key r) ∧ rput l r = (true, l ++ [r]))
  | [] => .inr ⟨fun x h => (by cases h), rfl⟩
  | x :: l => by
    by_cases hk : x.m = r.m ∧ x.s = r.s
    · refine .inl ⟨0, by simp, (key_iff _ _).2 hk, ?_⟩
      rw [rput, if_pos hk]
      by_cases ht : r.t ≤ x.t
      · rw [if_pos ht]
        have h1 : max x.t r.t = x.t := by omega
        have h2 : ¬ x.t < r.t := by omega
        simp [h1, h2]
      · rw [if_neg ht]
        have h1 : max x.t r.t = r.t := by omega
        have h2 : x.t < r.t := by omega
        simp [h1, h2]
    · rcases rput_spec r l with ⟨j, hj, h1, h2⟩ | ⟨h1, h2⟩
      · refine .inl ⟨j + 1, by simp; omega, by simpa using h1, ?_⟩
        rw [rput, if_neg hk, h2]
        simp
      · refine .inr ⟨fun y hy => ?_, ?_⟩
        · rcases List.mem_cons.1 hy with rfl | hy
          · exact fun e => hk ((key_iff _ _).1 e)
          · exact h1 y hy
        · rw [rput, if_neg hk, h2]; rfl
def Uni (l : List Rd) : Prop := (l.map key).Pairwise (· ≠ ·)
theorem uni_inj {l : List Rd} (h : Uni l) {x y : Rd} (hx : x ∈ l) (hy : y ∈ l) (hk : key x = key y) : x = y := by
  obtain ⟨i, hi, rfl⟩ := List.mem_iff_getElem.1 hx
  obtain ⟨j, hj, rfl⟩ := List.mem_iff_getElem.1 hy
  unfold Uni at h
  rw [List.pairwise_iff_getElem] at h
  by_cases e : i = j
  · subst e; rfl
  · by_cases hl : i < j
    · exact absurd hk (by have := h i j (by rw [List.length_map]; exact hi) (by rw [List.length_map]; exact hj) hl; rw [List.getElem_map, List.getElem_map] at this; exact this)
    · exact absurd hk.symm (by have := h j i (by rw [List.length_map]; exact hj) (by rw [List.length_map]; exact hi) (by omega); rw [List.getElem_map, List.getElem_map] at this; exact this)
structure RepU (l L : List Rd) : Prop where
  uni : Uni l
  of : ∀ x ∈ l, right x = true ∧ x ∈ L
  has : ∀ r ∈ L, right r = true → ∃ x ∈ l, key x = key r ∧ r.t ≤ x.t
theorem RepU.nil : RepU [] [] := ⟨List.Pairwise.nil, fun _ h => (by cases h), fun _ h => (by cases h)⟩
theorem RepU.skip {l L : List Rd} (h : RepU l L) {x : Rd} (hx : right x = false) : RepU l (L ++ [x]) :=
  ⟨h.uni, fun y hy => ⟨(h.of y hy).1, List.mem_append_left _ (h.of y hy).2⟩, fun r hr hrr => by
    rcases List.mem_append.1 hr with hr | hr
    · exact h.has r hr hrr
    · rw [List.mem_singleton.1 hr, hx] at hrr; cases hrr⟩
theorem RepU.put {l L : List Rd} (h : RepU l L) {x : Rd} (hx : right x = true) : RepU (rput l x).2 (L ++ [x]) := by
  rcases rput_spec x l with ⟨j, hj, hk, he⟩ | ⟨h1, he⟩
  · rw [he]
    dsimp only
    have hz : ∀ z : Rd, z = { l[j] with t := max l[j].t x.t } → key z = key l[j] ∧ l[j].t ≤ z.t ∧ x.t ≤ z.t ∧ (z = l[j] ∨ z = x) := by
      intro z hz
      have hzk : key z = key l[j] := by rw [hz]; rfl
      have hzt : z.t = max l[j].t x.t := by rw [hz]
      refine ⟨hzk, by omega, by omega, ?_⟩
      by_cases hle : x.t ≤ l[j].t
      · exact .inl (key_eq hzk (by omega))
      · exact .inr (key_eq (hzk.trans hk) (by omega))
    generalize hzz : ({ l[j] with t := max l[j].t x.t } : Rd) = z
    obtain ⟨z1, z2, z3, z4⟩ := hz z hzz.symm
    refine ⟨?_, fun y hy => ?_, fun r hr hrr => ?_⟩
    · have hm : (l.set j z).map key = l.map key := by
        rw [List.map_set, z1]
        have h1 : key l[j] = (l.map key)[j]'(by simpa using hj) := by simp
        rw [h1, List.set_getElem_self]
      unfold Uni
      rw [hm]
      exact h.uni
    · rcases List.mem_or_eq_of_mem_set hy with hy | rfl
      · exact ⟨(h.of y hy).1, List.mem_append_left _ (h.of y hy).2⟩
      · rcases z4 with e | e
        · rw [e]; have := h.of l[j] (List.getElem_mem _); exact ⟨this.1, List.mem_append_left _ this.2⟩
        · rw [e]; exact ⟨hx, List.mem_append_right _ (List.mem_singleton.2 rfl)⟩
    · have hzm : z ∈ l.set j z := List.mem_set hj z
      rcases List.mem_append.1 hr with hr | hr
      · obtain ⟨y, hy, y1, y2⟩ := h.has r hr hrr
        obtain ⟨k, hkl, rfl⟩ := List.mem_iff_getElem.1 hy
        by_cases e : k = j
        · subst e; exact ⟨z, hzm, z1.trans y1, by omega⟩
        · refine ⟨l[k], ?_, y1, y2⟩
          rw [List.mem_iff_getElem]
          exact ⟨k, by simpa using hkl, by rw [List.getElem_set_ne (fun h => e h.symm)]⟩
      · rw [List.mem_singleton.1 hr]
        exact ⟨z, hzm, z1.trans hk, z3⟩
  · rw [he]
    dsimp only
    refine ⟨?_, fun y hy => ?_, fun r hr hrr => ?_⟩
    · unfold Uni
      rw [List.map_append, List.pairwise_append]
      refine ⟨h.uni, by simp, fun a ha b hb => ?_⟩
      rw [List.map_cons, List.map_nil, List.mem_singleton] at hb
      obtain ⟨y, hy, rfl⟩ := List.mem_map.1 ha
      rw [hb]
      exact h1 y hy
    · rcases List.mem_append.1 hy with hy | hy
      · exact ⟨(h.of y hy).1, List.mem_append_left _ (h.of y hy).2⟩
      · rw [List.mem_singleton.1 hy]; exact ⟨hx, List.mem_append_right _ (List.mem_singleton.2 rfl)⟩
    · rcases List.mem_append.1 hr with hr | hr
      · obtain ⟨y, hy, y1, y2⟩ := h.has r hr hrr
        exact ⟨y, List.mem_append_left _ hy, y1, y2⟩
      · rw [List.mem_singleton.1 hr]
        exact ⟨x, List.mem_append_right _ (List.mem_singleton.2 rfl), rfl, Int.le_refl _⟩
def rstep (l : List Rd) (x : Rd) : List Rd := if right x = true then (rput l x).2 else l
theorem RepU.step {l L : List Rd} (h : RepU l L) (x : Rd) : RepU (rstep l x) (L ++ [x]) := by
  unfold rstep
  split
  · rename_i hx; exact h.put hx
  · rename_i hx; exact h.skip (by simpa using hx)
/-- The two lists hold the same. -/
theorem RepU.mem {l s L : List Rd} (h : RepU l L) (h' : Rep s L) (x : Rd) : x ∈ l ↔ x ∈ s := by
  constructor
  · intro hx
    obtain ⟨hr, hL⟩ := h.of x hx
    obtain ⟨y, hy, y1, y2⟩ := h'.has x hL hr
    obtain ⟨hr2, hL2⟩ := h'.of y hy
    obtain ⟨z, hz, z1, z2⟩ := h.has y hL2 hr2
    have : z = x := uni_inj h.uni hz hx (z1.trans y1)
    subst this
    have : y = z := key_eq y1 (by omega)
    rw [← this]; exact hy
  · intro hx
    obtain ⟨hr, hL⟩ := h'.of x hx
    obtain ⟨y, hy, y1, y2⟩ := h.has x hL hr
    obtain ⟨hr2, hL2⟩ := h.of y hy
    obtain ⟨z, hz, z1, z2⟩ := h'.has y hL2 hr2
    have : z = x := sorted_inj h'.sorted hz hx (z1.trans y1)
    subst this
    have : y = z := key_eq y1 (by omega)
    rw [← this]; exact hy
/-- Each put changes both, or none. -/
theorem put_bool {l s L : List Rd} (h : RepU l L) (h' : Rep s L) (r : Rd) : (rput l r).1 = (put s r).1 := by
  have hm := h.mem h'
  have hno : ∀ i, i ≤ s.length → (∀ j (hj : j < s.length), j < i → lt s[j] r) → (∀ j (hj : j < s.length), i ≤ j → lt r s[j]) → ∀ x ∈ s, key x ≠ key r := by
    intro i _ h1 h2 x hx
    obtain ⟨j, hj, rfl⟩ := List.mem_iff_getElem.1 hx
    by_cases c : j < i
    · exact lt_key (h1 j hj c)
    · exact fun e => lt_key (h2 j hj (by omega)) e.symm
  rcases rput_spec r l with ⟨j, hj, hk, he⟩ | ⟨h1, he⟩ <;> rcases put_spec s r h'.sorted with ⟨i, hi, ik, ie⟩ | ⟨i, hi, i1, i2, ie⟩
  · rw [he, ie]
    have : l[j] = s[i] := sorted_inj h'.sorted ((hm _).1 (List.getElem_mem hj)) (List.getElem_mem hi) (hk.trans ik.symm)
    dsimp only
    rw [this]
  · exact absurd hk (hno i hi i1 i2 _ ((hm _).1 (List.getElem_mem hj)))
  · exact absurd ik (h1 _ ((hm _).2 (List.getElem_mem hi)))
  · rw [he, ie]
end Ser
end Go.Proofs.Ytggeloihnbjogaa
