
/- Readings (layer 6), plain: what is found in a list of any order that holds the same readings as a sorted one. -/
import Derived.Test.YtggeloihnbjogaaSerT
namespace Go.Proofs.Ytggeloihnbjogaa
namespace Ser
variable {l s : List Rd}
theorem last_ref_none (hs : Sorted s) (hm : ∀ x, x ∈ l ↔ x ∈ s) (b m : Int) (h : ∀ x ∈ l, m < x.m) : last s b m = none := by
  rcases last_cases s hs b m with ⟨_, g⟩ | ⟨h1, h2, h3, _⟩
  · exact g
  · have := h _ ((hm _).2 (List.getElem_mem h1))
    omega
theorem last_ref_some (hs : Sorted s) (hm : ∀ x, x ∈ l ↔ x ∈ s) (b m : Int) (x : Rd) (hx : x ∈ l) (hxm : x.m ≤ m) (hmax : ∀ y ∈ l, y.m ≤ m → ¬ lt x y) :
    last s b m = if b < m - x.m then none else some x := by
  obtain ⟨j, hj, rfl⟩ := List.mem_iff_getElem.1 ((hm x).1 hx)
  have hju := (upto_iff m s (sorted_le hs) j hj).1 hxm
  rcases last_cases s hs b m with ⟨g0, _⟩ | ⟨h1, h2, h3, h4⟩
  · omega
  · have he : j = upto s m - 1 := by
      by_cases e : j = upto s m - 1
      · exact e
      · exact absurd (sorted_get hs (show j < upto s m - 1 by omega) h1) (hmax _ ((hm _).2 (List.getElem_mem h1)) h3)
    subst he
    exact h4
theorem n0_ref_none (hs : Sorted s) (hm : ∀ x, x ∈ l ↔ x ∈ s) (m : Int) (h : ∀ x ∈ l, x.m ≤ m) : n0 s m = -1 := by
  unfold n0
  cases hq : s[upto s m]? with
  | none => rfl
  | some x =>
    obtain ⟨hlt, he⟩ := List.getElem?_eq_some_iff.1 hq
    have h1 := h x ((hm x).2 (List.mem_of_getElem? hq))
    rw [← he] at h1
    have := (upto_iff m s (sorted_le hs) _ hlt).1 h1
    omega
theorem n0_ref_some (hs : Sorted s) (hm : ∀ x, x ∈ l ↔ x ∈ s) (m : Int) (x : Rd) (hx : x ∈ l) (hxm : m < x.m) (hmin : ∀ y ∈ l, m < y.m → x.m ≤ y.m) : n0 s m = x.m := by
  obtain ⟨j, hj, rfl⟩ := List.mem_iff_getElem.1 ((hm x).1 hx)
  have hju : ¬ j < upto s m := fun h => by
    have := (upto_iff m s (sorted_le hs) j hj).2 h
    omega
  have hu : upto s m < s.length := by omega
  have hum : m < (s[upto s m]).m := by
    by_cases c : (s[upto s m]).m ≤ m
    · have := (upto_iff m s (sorted_le hs) _ hu).1 c
      omega
    · omega
  unfold n0
  rw [List.getElem?_eq_getElem hu]
  dsimp only
  have h1 := hmin _ ((hm _).2 (List.getElem_mem hu)) hum
  by_cases e : upto s m = j
  · subst e; rfl
  · have h2 := sorted_get hs (show upto s m < j by omega) hj
    unfold lt at h2
    omega
/-- The first one that isn't told yet. -/
theorem all_ref (hs : Sorted s) (hm : ∀ x, x ∈ l ↔ x ∈ s) (k : Nat) (hk : k < s.length) (x : Rd) (hx : x ∈ l) (hlt : ∀ h : 0 < k, lt (s[k - 1]'(by omega)) x) (hmin : ∀ y ∈ l, (∀ h : 0 < k, lt (s[k - 1]'(by omega)) y) → ¬ lt y x) : x = s[k] := by
  obtain ⟨j, hj, rfl⟩ := List.mem_iff_getElem.1 ((hm x).1 hx)
  have hkj : k ≤ j := by
    by_cases c : k ≤ j
    · exact c
    · have h1 := hlt (by omega)
      by_cases e : j = k - 1
      · subst e; exact absurd h1 (lt_irrefl _)
      · exact absurd (lt_trans h1 (sorted_get hs (show j < k - 1 by omega) (by omega))) (lt_irrefl _)
  by_cases e : j = k
  · subst e; rfl
  · exact absurd (sorted_get hs (show k < j by omega) hj) (hmin _ ((hm _).2 (List.getElem_mem hk)) fun h => sorted_get hs (by omega) hk)
end Ser
end Go.Proofs.Ytggeloihnbjogaa
