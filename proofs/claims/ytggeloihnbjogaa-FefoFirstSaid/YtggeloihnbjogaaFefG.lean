
/- Lots (layer 15), plain: first out: what a pick comes to. -/
import Derived.Test.YtggeloihnbjogaaFefF
namespace Go.Proofs.Ytggeloihnbjogaa
open Go.RowKit Go.Hf
namespace Fef
def sumU : List Lt → Int
  | [] => 0
  | x :: M => x.units + sumU M
theorem sumU_append : ∀ (A B : List Lt), sumU (A ++ B) = sumU A + sumU B
  | [], B => by simp [sumU]
  | x :: A, B => by rw [List.cons_append, sumU, sumU, sumU_append A B]; omega
theorem sumU_perm {A B : List Lt} (h : A.Perm B) : sumU A = sumU B := by
  induction h with
  | nil => rfl
  | cons x _ ih => rw [sumU, sumU, ih]
  | swap x y l => rw [sumU, sumU, sumU, sumU]; omega
  | trans _ _ ih1 ih2 => exact ih1.trans ih2
theorem sumU_nonneg : ∀ {M : List Lt}, (∀ x ∈ M, 1 ≤ x.units) → 0 ≤ sumU M
  | [], _ => by simp [sumU]
  | x :: M, h => by
    rw [sumU]
    have h1 := h x (List.mem_cons_self ..)
    have h2 := sumU_nonneg (M := M) fun y hy => h y (List.mem_cons_of_mem _ hy)
    omega
def full (x : Lt) : Int × Int := (x.id, x.units)
theorem run_spec : ∀ (M : List Lt) (u : Int), (∀ x ∈ M, 1 ≤ x.units) → 0 < u →
    (sumU M < u → 0 < (run M u).2) ∧
    (u ≤ sumU M → (run M u).2 = 0 ∧ ∃ (n : Nat) (x : Lt) (w : Int), M[n]? = some x ∧ (run M u).1 = (M.take n).map full ++ [(x.id, w)] ∧ 1 ≤ w ∧ w ≤ x.units ∧ sumU (M.take n) + w = u)
  | [], u, _, hu => ⟨fun _ => hu, fun h => by simp [sumU] at h; omega⟩
  | x :: M, u, hM, hu => by
    have hx := hM x (List.mem_cons_self ..)
    have hM2 : ∀ y ∈ M, 1 ≤ y.units := fun y hy => hM y (List.mem_cons_of_mem _ hy)
    have hnn := sumU_nonneg hM2
    rw [run, if_neg (by omega), sumU]
    by_cases hle : u ≤ x.units
    · rw [show min x.units u = u by omega, Int.sub_self, run_zero M (Int.le_refl 0)]
      exact ⟨fun h => by omega, fun _ => ⟨rfl, 0, x, u, rfl, rfl, by omega, hle, by simp [sumU]⟩⟩
    · rw [show min x.units u = x.units by omega]
      obtain ⟨h1, h2⟩ := run_spec M (u - x.units) hM2 (by omega)
      refine ⟨fun h => h1 (by omega), fun h => ?_⟩
      obtain ⟨h3, n, y, w, h4, h5, h6, h7, h8⟩ := h2 (by omega)
      refine ⟨h3, n + 1, y, w, by rw [List.getElem?_cons_succ]; exact h4, ?_, h6, h7, ?_⟩
      · dsimp only
        rw [h5]; rfl
      · rw [List.take_succ_cons, sumU]; omega
/-- What is summed of a lot's ID. -/
def acc (T : List (Int × Int)) (id : Int) : Int := T.foldl (fun a t => if t.1 = id then IntKind.i64.wrap (a + t.2) else a) 0
theorem acc_snoc (T : List (Int × Int)) (t : Int × Int) (id : Int) : acc (T ++ [t]) id = if t.1 = id then IntKind.i64.wrap (acc T id + t.2) else acc T id := by unfold acc; rw [List.foldl_append]; rfl
theorem fold_none (id : Int) : ∀ (T : List (Int × Int)) (a : Int), (∀ t ∈ T, t.1 ≠ id) → T.foldl (fun a t => if t.1 = id then IntKind.i64.wrap (a + t.2) else a) a = a
  | [], a, _ => rfl
  | t :: T, a, h => by
    rw [List.foldl_cons, if_neg (h t (List.mem_cons_self ..))]
    exact fold_none id T a fun s hs => h s (List.mem_cons_of_mem _ hs)
theorem acc_none {T : List (Int × Int)} {id : Int} (h : ∀ t ∈ T, t.1 ≠ id) : acc T id = 0 := fold_none id T 0 h
theorem acc_one {T1 T2 : List (Int × Int)} {t : Int × Int} {id : Int} (h1 : ∀ s ∈ T1, s.1 ≠ id) (h2 : ∀ s ∈ T2, s.1 ≠ id) (ht : t.1 = id) (hr : 0 ≤ t.2 ∧ t.2 ≤ 1048576) : acc (T1 ++ t :: T2) id = t.2 := by
  unfold acc
  rw [List.foldl_append, fold_none id T1 0 h1, List.foldl_cons, if_pos ht, fold_none id T2 _ h2, Int.zero_add, IntKind.wrap_i64]
  omega
theorem tot_of : ∀ (T : List (Int × Int)) (a : Int), 0 ≤ a → (∀ t ∈ T, 0 ≤ t.2) → a + (T.map Prod.snd).sum ≤ 1000000000 → T.foldl (fun a t => IntKind.i64.wrap (a + t.2)) a = a + (T.map Prod.snd).sum
  | [], a, _, _, _ => by simp
  | t :: T, a, ha, ht, hs => by
    have h0 := ht t (List.mem_cons_self ..)
    have hT : ∀ s ∈ T, 0 ≤ s.2 := fun s hs => ht s (List.mem_cons_of_mem _ hs)
    have hnn : ∀ (L : List (Int × Int)), (∀ s ∈ L, 0 ≤ s.2) → 0 ≤ (L.map Prod.snd).sum := fun L => by
      induction L with
      | nil => intro _; simp
      | cons s L ih =>
        intro h
        have h1 := h s (List.mem_cons_self ..)
        have h2 := ih fun r hr => h r (List.mem_cons_of_mem _ hr)
        rw [List.map_cons, List.sum_cons]; omega
    have hn := hnn T hT
    rw [List.map_cons, List.sum_cons] at hs ⊢
    rw [List.foldl_cons, show IntKind.i64.wrap (a + t.2) = a + t.2 by rw [IntKind.wrap_i64]; omega, tot_of T (a + t.2) (by omega) hT (by omega)]
    omega
theorem sum_full : ∀ (M : List Lt), ((M.map full).map Prod.snd).sum = sumU M
  | [] => rfl
  | x :: M => by rw [List.map_cons, List.map_cons, List.sum_cons, sum_full M, sumU]; rfl
/-- No two of one ID. -/
def Dist (l : List Lt) (n : Nat) : Prop := ∀ a b x y, b < a → a < n → l[a]? = some x → l[b]? = some y → x.id ≠ y.id
theorem Dist.inj {l : List Lt} (h : Dist l l.length) {a b : Nat} {x y : Lt} (hx : l[a]? = some x) (hy : l[b]? = some y) (he : x.id = y.id) : a = b := by
  have ha := (List.getElem?_eq_some_iff.1 hx).1
  have hb := (List.getElem?_eq_some_iff.1 hy).1
  by_cases e : a = b
  · exact e
  · by_cases c : b < a
    · exact absurd he (h a b x y c ha hx hy)
    · exact absurd he.symm (h b a y x (by omega) hb hy hx)
theorem Dist.mem {l : List Lt} (h : Dist l l.length) {x y : Lt} (hx : x ∈ l) (hy : y ∈ l) (he : x.id = y.id) : x = y := by
  obtain ⟨a, ha, hae⟩ := List.mem_iff_getElem.1 hx
  obtain ⟨b, hb, hbe⟩ := List.mem_iff_getElem.1 hy
  have := h.inj (a := a) (b := b) (by rw [List.getElem?_eq_getElem ha, hae]) (by rw [List.getElem?_eq_getElem hb, hbe]) he
  subst this
  exact hae.symm.trans hbe
/-- Which goes ahead of the last one that is picked. -/
def aheadB (p : Int) (x y : Lt) : Bool := (x.prod == p) && (decide (x.exp < y.exp) || ((x.exp == y.exp) && decide (x.id < y.id)))
variable {l M : List Lt} {p : Int}
/-- What the law asks of each lot. -/
theorem first_out (hd : Dist l l.length) (hg : Tagged l) (hp : M.Perm (l.filter fun x => !other p x)) (hs : M.Pairwise lt) (hu : ∀ x ∈ l, 1 ≤ x.units ∧ x.units ≤ 1048576) {n : Nat} {y : Lt} {w : Int} (hy : M[n]? = some y) (hw : 1 ≤ w ∧ w ≤ y.units) {T : List (Int × Int)} (hT : T = (M.take n).map full ++ [(y.id, w)]) {i e : Nat} {x : Lt} (hx : l[i]? = some x) (he : l[e]? = some y) :
    (aheadB p x y = true → acc T x.id = x.units ∧ i ≠ e) ∧ (aheadB p x y = false → i ≠ e → acc T x.id = 0) ∧ (i = e → 1 ≤ acc T x.id ∧ acc T x.id ≤ x.units ∧ x.prod = p) := by
  obtain ⟨hn, hye⟩ := List.getElem?_eq_some_iff.1 hy
  have hyM : y ∈ M := by rw [← hye]; exact List.getElem_mem _
  have hyl := in_l hp hyM
  have hxl : x ∈ l := List.mem_of_getElem? hx
  have hfull : ∀ t ∈ (M.take n).map full, ∃ k, ∃ hk : k < n, t = full (M[k]'(by omega)) := fun t ht => by
    obtain ⟨z, hz, rfl⟩ := List.mem_map.1 ht
    obtain ⟨k, hk, rfl⟩ := List.mem_iff_getElem.1 hz
    rw [List.length_take] at hk
    exact ⟨k, by omega, by rw [List.getElem_take]⟩
  have hMid : ∀ (k : Nat) (hk : k < n), (M[k]'(by omega)).id ≠ y.id := fun k hk hid => by
    have := hd.mem (in_l hp (List.getElem_mem (by omega))).1 hyl.1 hid
    have hlt := sorted_get hs (show k < n from hk) hn
    rw [this, hye] at hlt
    exact lt_asymm hlt hlt
  have hlast : x = y → acc T x.id = w := fun hxy => by
    subst hxy
    rw [hT]
    refine acc_one (T2 := []) (fun t ht => ?_) (fun _ h => by cases h) rfl ⟨by omega, ?_⟩
    · obtain ⟨k, hk, rfl⟩ := hfull t ht
      exact hMid k hk
    · have := (hu x hxl).2; dsimp only; omega
  have hat : ∀ (k : Nat) (hk : k < n), x = M[k]'(by omega) → acc T x.id = x.units := fun k hk hxk => by
    have hkM : k < M.length := by omega
    have hsplit : (M.take n).map full ++ [(y.id, w)] = (M.take k).map full ++ full x :: (((M.take n).drop (k + 1)).map full ++ [(y.id, w)]) := by
      have h1 : M.take n = M.take k ++ x :: (M.take n).drop (k + 1) := by
        have h2 : k < (M.take n).length := by rw [List.length_take]; omega
        have h3 := List.take_append_drop k (M.take n)
        rw [List.drop_eq_getElem_cons h2, List.take_take, Nat.min_eq_left (by omega), List.getElem_take, ← hxk] at h3
        exact h3.symm
      have h4 : (M.take n).map full = (M.take k).map full ++ full x :: ((M.take n).drop (k + 1)).map full := by
        have := congrArg (List.map full) h1
        rw [List.map_append, List.map_cons] at this
        exact this
      rw [h4, List.append_assoc]
      rfl
    rw [hT, hsplit]
    refine acc_one (t := full x) (fun t ht => ?_) (fun t ht => ?_) rfl ⟨by have := (hu x hxl).1; show 0 ≤ x.units; omega, (hu x hxl).2⟩
    · obtain ⟨z, hz, rfl⟩ := List.mem_map.1 ht
      obtain ⟨j, hj, rfl⟩ := List.mem_iff_getElem.1 hz
      rw [List.length_take] at hj
      rw [List.getElem_take]
      intro hid
      have h5 := hd.mem (in_l hp (List.getElem_mem (by omega))).1 hxl hid
      have h6 := sorted_get hs (show j < k by omega) hkM
      rw [h5, ← hxk] at h6
      exact lt_asymm h6 h6
    · rcases List.mem_append.1 ht with ht | ht
      · obtain ⟨z, hz, rfl⟩ := List.mem_map.1 ht
        obtain ⟨j, hj, rfl⟩ := List.mem_iff_getElem.1 hz
        rw [List.length_drop, List.length_take] at hj
        rw [List.getElem_drop, List.getElem_take]
        intro hid
        have h5 := hd.mem (in_l hp (List.getElem_mem (by omega))).1 hxl hid
        have h6 := sorted_get hs (show k < k + 1 + j by omega) (by omega)
        rw [h5, ← hxk] at h6
        exact lt_asymm h6 h6
      · rw [List.mem_singleton.1 ht]
        intro hid
        have h6 := hMid k hk
        rw [← hxk] at h6
        exact h6 hid.symm
  have hab : aheadB p x y = true ↔ x.prod = p ∧ (x.exp < y.exp ∨ x.exp = y.exp ∧ x.id < y.id) := by unfold aheadB; simp
  have hxM : x.prod = p → x ∈ M := fun h => hp.mem_iff.2 (List.mem_filter.2 ⟨hxl, by unfold other; simp [h]⟩)
  refine ⟨fun h => ?_, fun h hie => ?_, fun h => ?_⟩
  · obtain ⟨h1, h2⟩ := hab.1 h
    obtain ⟨k, hk, hke⟩ := List.mem_iff_getElem.1 (hxM h1)
    have hlt : lt x y := by unfold lt; omega
    have hkn : k < n := by
      by_cases c : k < n
      · exact c
      · exfalso
        by_cases e2 : k = n
        · subst e2; rw [hye] at hke; rw [← hke] at hlt; exact lt_asymm hlt hlt
        · have h3 := sorted_get hs (show n < k by omega) hk
          rw [hke, hye] at h3
          exact lt_asymm hlt h3
    refine ⟨hat k hkn hke.symm, fun hie => ?_⟩
    subst hie
    rw [hx] at he
    rw [Option.some.inj he] at hlt
    exact lt_asymm hlt hlt
  · refine acc_none fun t ht hid => ?_
    rw [hT] at ht
    rcases List.mem_append.1 ht with ht | ht
    · obtain ⟨k, hk, rfl⟩ := hfull t ht
      have h5 := hd.mem (in_l hp (List.getElem_mem (show k < M.length by omega))).1 hxl hid
      have h6 := sorted_get hs hk hn
      have h7 := (in_l hp (List.getElem_mem (show k < M.length by omega))).2
      rw [h5, hye] at h6
      rw [h5] at h7
      have h8 : x.prod = p := by unfold other at h7; simpa using h7
      have h9 : x.id ≠ y.id := by have := hMid k hk; rw [h5] at this; exact this
      have : aheadB p x y = true := hab.2 ⟨h8, by unfold lt at h6; omega⟩
      rw [h] at this; cases this
    · rw [List.mem_singleton.1 ht] at hid
      exact hie (hd.inj hx he hid.symm)
  · subst h
    rw [hx] at he
    have hxy := Option.some.inj he
    rw [hlast hxy]
    have h7 := hyl.2
    refine ⟨hw.1, by rw [hxy]; exact hw.2, ?_⟩
    rw [hxy]
    unfold other at h7
    simpa using h7
end Fef
end Go.Proofs.Ytggeloihnbjogaa
