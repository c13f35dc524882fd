
/- Readings (layer 6), plain: the same ones from behind, each twice; what is there. -/
import Derived.Test.YtpnpgeilhafepaaSerQ
namespace Go.Proofs.Ytpnpgeilhafepaa
namespace Ser
open Go.Hf
def twice (L : List Rd) : Nat → List Rd
  | 0 => []
  | k + 1 => match L[L.length - 1 - k]? with
    | none => twice L k
    | some y => twice L k ++ [y] ++ [y]
theorem twice_succ (L : List Rd) (k j : Nat) (hj : L.length - 1 - k = j) (h : j < L.length) : twice L (k + 1) = twice L k ++ [L[j]] ++ [L[j]] := by
  rw [twice, hj, List.getElem?_eq_getElem h]
theorem twice_mem (L : List Rd) : ∀ k, k ≤ L.length → ∀ y, y ∈ twice L k ↔ ∃ j, L.length ≤ j + k ∧ L[j]? = some y
  | 0, _, y => by
    rw [twice]
    constructor
    · intro h; cases h
    · rintro ⟨j, h1, h2⟩
      rw [List.getElem?_eq_none (by omega)] at h2
      cases h2
  | k + 1, hk, y => by
    have ih := twice_mem L k (by omega) y
    have hj : L.length - 1 - k < L.length := by omega
    rw [twice_succ L k _ rfl hj, List.mem_append, List.mem_append, List.mem_singleton, ih]
    constructor
    · rintro ((⟨j, h1, h2⟩ | h) | h)
      · exact ⟨j, by omega, h2⟩
      · exact ⟨L.length - 1 - k, by omega, by rw [h]; exact List.getElem?_eq_getElem hj⟩
      · exact ⟨L.length - 1 - k, by omega, by rw [h]; exact List.getElem?_eq_getElem hj⟩
    · rintro ⟨j, h1, h2⟩
      by_cases c : L.length ≤ j + k
      · exact .inl (.inl ⟨j, c, h2⟩)
      · obtain rfl : j = L.length - 1 - k := by omega
        rw [List.getElem?_eq_getElem hj] at h2
        exact .inr (Option.some.inj h2).symm
theorem twice_all (L : List Rd) (y : Rd) : y ∈ twice L L.length ↔ y ∈ L := by
  rw [twice_mem L L.length (Nat.le_refl _) y, List.mem_iff_getElem?]
  exact ⟨fun ⟨j, _, h⟩ => ⟨j, h⟩, fun ⟨j, h⟩ => ⟨j, by omega, h⟩⟩
theorem twice_len (L : List Rd) : ∀ k, (twice L k).length ≤ 2 * k
  | 0 => by rw [twice]; simp
  | k + 1 => by
    have ih := twice_len L k
    rw [twice]
    split
    · omega
    · simp only [List.length_append, List.length_cons, List.length_nil]; omega
theorem puts_twice (L : List Rd) : puts (twice L L.length) = puts L := ((puts_rep _).same fun y => (twice_all L y)).uniq (puts_rep L)
def isAt (y x : Rd) : Bool := ((x.m == y.m) && (x.s == y.s)) && decide (y.t ≤ x.t)
theorem has_any {l L : List Rd} (h : Rep l L) {y : Rd} (hy : y ∈ L) (hr : right y = true) : l.any (isAt y) = true := by
  obtain ⟨x, hx, hk, ht⟩ := h.has y hy hr
  rw [List.any_eq_true]
  refine ⟨x, hx, ?_⟩
  unfold key at hk
  injection hk with h1 h2
  unfold isAt
  simp [h1, h2, ht]
theorem in_any {l L : List Rd} (h : Rep l L) {x : Rd} (hx : x ∈ l) : (L.any fun y => decide (y = x)) = true := by
  rw [List.any_eq_true]
  exact ⟨x, (h.of x hx).2, decide_eq_true rfl⟩
end Ser
end Go.Proofs.Ytpnpgeilhafepaa
