
/- Readings (layer 6), plain: sorted lists, what puts lead to. -/
import Derived.Test.YtggeloihnbjogaaSer
namespace Go.Proofs.Ytggeloihnbjogaa
namespace Ser
def lt (a b : Rd) : Prop := a.m < b.m ∨ (a.m = b.m ∧ a.s < b.s)
def key (a : Rd) : Int × Int := (a.m, a.s)
def klt (a b : Int × Int) : Prop := a.1 < b.1 ∨ (a.1 = b.1 ∧ a.2 < b.2)
def Sorted (l : List Rd) : Prop := l.Pairwise lt
theorem cmp_neg (a b : Rd) : cmp a b < 0 ↔ lt a b := by unfold cmp lt; split <;> omega
theorem cmp_zero (a b : Rd) : cmp a b = 0 ↔ key a = key b := by
  unfold cmp key
  rw [Prod.mk.injEq]
  split <;> omega
theorem cmp_pos (a b : Rd) (h1 : ¬ cmp a b < 0) (h2 : ¬ cmp a b = 0) : lt b a := by unfold cmp at h1 h2; unfold lt; split at h1 <;> split at h2 <;> omega
theorem lt_trans {a b c : Rd} (h1 : lt a b) (h2 : lt b c) : lt a c := by unfold lt at *; omega
theorem lt_irrefl (a : Rd) : ¬ lt a a := by unfold lt; omega
theorem lt_key {a b : Rd} (h : lt a b) : key a ≠ key b := by unfold lt at h; unfold key; rw [Ne, Prod.mk.injEq]; omega
theorem sorted_get {l : List Rd} (h : Sorted l) {i j : Nat} (hij : i < j) (hj : j < l.length) : lt (l[i]'(by omega)) l[j] := List.pairwise_iff_getElem.1 h i j (by omega) hj hij
theorem sorted_keys (l : List Rd) : Sorted l ↔ (l.map key).Pairwise klt := by
  unfold Sorted
  rw [List.pairwise_map]
  rfl
/-- What a put leads to. -/
theorem putAt_spec (l : List Rd) (x : Rd) (hs : Sorted l) : ∀ k, k ≤ l.length → (∀ j (hj : j < l.length), k ≤ j → lt x l[j]) →
    (∃ (j : Nat) (hj : j < l.length), key l[j] = key x ∧ putAt l x k = (decide (l[j].t < x.t), l.set j { l[j] with t := max l[j].t x.t })) ∨
    (∃ i, i ≤ l.length ∧ (∀ j (hj : j < l.length), j < i → lt l[j] x) ∧ (∀ j (hj : j < l.length), i ≤ j → lt x l[j]) ∧ putAt l x k = (true, l.take i ++ x :: l.drop i))
  | 0, _, h => .inr ⟨0, by omega, fun _ _ h => by omega, fun j hj h0 => h j hj h0, rfl⟩
  | k + 1, hk, h => by
    have he : putAt l x (k + 1) = if cmp l[k] x < 0 then (true, l.take (k + 1) ++ x :: l.drop (k + 1)) else if cmp l[k] x = 0 then (decide (l[k].t < x.t), l.set k { l[k] with t := max l[k].t x.t }) else putAt l x k := by
      show (match l[k]? with | none => _ | some y => _) = _
      rw [List.getElem?_eq_getElem (by omega)]
    by_cases h1 : cmp l[k] x < 0
    · rw [if_pos h1] at he
      refine .inr ⟨k + 1, hk, fun j hj hjk => ?_, h, he⟩
      by_cases e : j = k
      · subst e; exact (cmp_neg _ _).1 h1
      · exact lt_trans (sorted_get hs (by omega) (by omega)) ((cmp_neg _ _).1 h1)
    · rw [if_neg h1] at he
      by_cases h2 : cmp l[k] x = 0
      · rw [if_pos h2] at he
        exact .inl ⟨k, by omega, (cmp_zero _ _).1 h2, he⟩
      · rw [if_neg h2] at he
        rw [he]
        refine putAt_spec l x hs k (by omega) fun j hj hjk => ?_
        by_cases e : j = k
        · subst e; exact cmp_pos _ _ h1 h2
        · exact h j hj (by omega)
theorem put_spec (l : List Rd) (x : Rd) (hs : Sorted l) :
    (∃ (j : Nat) (hj : j < l.length), key l[j] = key x ∧ put l x = (decide (l[j].t < x.t), l.set j { l[j] with t := max l[j].t x.t })) ∨
    (∃ i, i ≤ l.length ∧ (∀ j (hj : j < l.length), j < i → lt l[j] x) ∧ (∀ j (hj : j < l.length), i ≤ j → lt x l[j]) ∧ put l x = (true, l.take i ++ x :: l.drop i)) :=
  putAt_spec l x hs l.length (Nat.le_refl _) fun j hj h => by omega
theorem set_sorted {l : List Rd} (hs : Sorted l) (j : Nat) (hj : j < l.length) (z : Rd) (hz : key z = key l[j]) : Sorted (l.set j z) := by
  rw [sorted_keys] at hs ⊢
  have : (l.set j z).map key = l.map key := by
    rw [List.map_set, hz]
    have h1 : key l[j] = (l.map key)[j]'(by simpa using hj) := by simp
    rw [h1, List.set_getElem_self]
  rw [this]; exact hs
theorem ins_sorted {l : List Rd} (hs : Sorted l) (i : Nat) (hi : i ≤ l.length) (x : Rd) (h1 : ∀ j (hj : j < l.length), j < i → lt l[j] x) (h2 : ∀ j (hj : j < l.length), i ≤ j → lt x l[j]) : Sorted (l.take i ++ x :: l.drop i) := by
  unfold Sorted at hs ⊢
  have hd : l.take i ++ l.drop i = l := List.take_append_drop i l
  rw [← hd, List.pairwise_append] at hs
  rw [List.pairwise_append, List.pairwise_cons]
  refine ⟨hs.1, ⟨fun y hy => ?_, hs.2.1⟩, fun a ha b hb => ?_⟩
  · obtain ⟨j, hj, rfl⟩ := List.mem_iff_getElem.1 hy
    rw [List.getElem_drop]
    exact h2 _ _ (by omega)
  · obtain ⟨j, hj, rfl⟩ := List.mem_iff_getElem.1 ha
    rw [List.length_take] at hj
    have hax : lt ((l.take i)[j]'(by rw [List.length_take]; exact hj)) x := by rw [List.getElem_take]; exact h1 j (by omega) (by omega)
    rcases List.mem_cons.1 hb with rfl | hb
    · exact hax
    · exact hs.2.2 _ ha b hb
/-- A series' readings, of those that were put. -/
structure Rep (l L : List Rd) : Prop where
  sorted : Sorted l
  of : ∀ x ∈ l, right x = true ∧ x ∈ L
  has : ∀ r ∈ L, right r = true → ∃ x ∈ l, key x = key r ∧ r.t ≤ x.t
theorem Rep.nil : Rep [] [] := ⟨List.Pairwise.nil, fun _ h => (by cases h), fun _ h => (by cases h)⟩
theorem Rep.skip {l L : List Rd} (h : Rep l L) {x : Rd} (hx : right x = false) : Rep l (L ++ [x]) :=
  ⟨h.sorted, fun y hy => ⟨(h.of y hy).1, List.mem_append_left _ (h.of y hy).2⟩, fun r hr hrr => by
    rcases List.mem_append.1 hr with hr | hr
    · exact h.has r hr hrr
    · rw [List.mem_singleton.1 hr, hx] at hrr; cases hrr⟩
theorem key_eq {a b : Rd} (h : key a = key b) (ht : a.t = b.t) : a = b := by
  obtain ⟨m, s, t⟩ := a
  obtain ⟨m', s', t'⟩ := b
  unfold key at h
  simp only [Prod.mk.injEq] at h ht
  obtain ⟨rfl, rfl⟩ := h
  subst ht
  rfl
theorem Rep.put {l L : List Rd} (h : Rep l L) {x : Rd} (hx : right x = true) : Rep (put l x).2 (L ++ [x]) := by
  rcases put_spec l x h.sorted with ⟨j, hj, hk, he⟩ | ⟨i, hi, h1, h2, he⟩
  · rw [he]
    dsimp only
    have hz : ∀ z : Rd, z = { l[j] with t := max l[j].t x.t } → key z = key l[j] ∧ l[j].t ≤ z.t ∧ x.t ≤ z.t ∧ (z = l[j] ∨ z = x) := by
      intro z hz
      have hzk : key z = key l[j] := by rw [hz]; rfl
      have hzt : z.t = max l[j].t x.t := by rw [hz]
      refine ⟨hzk, by omega, by omega, ?_⟩
      by_cases hle : x.t ≤ l[j].t
      · exact .inl (key_eq hzk (by omega))
      · exact .inr (key_eq (hzk.trans hk) (by omega))
    generalize hzz : ({ l[j] with t := max l[j].t x.t } : Rd) = z
    obtain ⟨z1, z2, z3, z4⟩ := hz z hzz.symm
    refine ⟨set_sorted h.sorted j hj z z1, fun y hy => ?_, fun r hr hrr => ?_⟩
    · rcases List.mem_or_eq_of_mem_set hy with hy | rfl
      · exact ⟨(h.of y hy).1, List.mem_append_left _ (h.of y hy).2⟩
      · rcases z4 with e | e
        · rw [e]; have := h.of l[j] (List.getElem_mem _); exact ⟨this.1, List.mem_append_left _ this.2⟩
        · rw [e]; exact ⟨hx, List.mem_append_right _ (List.mem_singleton.2 rfl)⟩
    · have hzm : z ∈ l.set j z := List.mem_set hj z
      rcases List.mem_append.1 hr with hr | hr
      · obtain ⟨y, hy, y1, y2⟩ := h.has r hr hrr
        obtain ⟨k, hkl, rfl⟩ := List.mem_iff_getElem.1 hy
        by_cases e : k = j
        · subst e; exact ⟨z, hzm, z1.trans y1, by omega⟩
        · refine ⟨l[k], ?_, y1, y2⟩
          rw [List.mem_iff_getElem]
          exact ⟨k, by simpa using hkl, by rw [List.getElem_set_ne (fun h => e h.symm)]⟩
      · rw [List.mem_singleton.1 hr]
        exact ⟨z, hzm, z1.trans hk, z3⟩
  · rw [he]
    dsimp only
    have hmem : ∀ y, y ∈ l → y ∈ l.take i ++ x :: l.drop i := fun y hy => by
      rw [← List.take_append_drop i l] at hy
      rcases List.mem_append.1 hy with hy | hy
      · exact List.mem_append_left _ hy
      · exact List.mem_append_right _ (List.mem_cons_of_mem _ hy)
    refine ⟨ins_sorted h.sorted i hi x h1 h2, fun y hy => ?_, fun r hr hrr => ?_⟩
    · have : y ∈ l ∨ y = x := by
        rcases List.mem_append.1 hy with hy | hy
        · exact .inl (List.mem_of_mem_take hy)
        · rcases List.mem_cons.1 hy with hy | hy
          · exact .inr hy
          · exact .inl (List.mem_of_mem_drop hy)
      rcases this with hy | rfl
      · exact ⟨(h.of y hy).1, List.mem_append_left _ (h.of y hy).2⟩
      · exact ⟨hx, List.mem_append_right _ (List.mem_singleton.2 rfl)⟩
    · rcases List.mem_append.1 hr with hr | hr
      · obtain ⟨y, hy, y1, y2⟩ := h.has r hr hrr
        exact ⟨y, hmem y hy, y1, y2⟩
      · rw [List.mem_singleton.1 hr]
        exact ⟨x, List.mem_append_right _ (List.mem_cons_self ..), rfl, Int.le_refl _⟩
/-- One step: a reading that may be is put, another one is not. -/
def step (l : List Rd) (x : Rd) : List Rd := if right x = true then (put l x).2 else l
theorem Rep.step {l L : List Rd} (h : Rep l L) (x : Rd) : Rep (step l x) (L ++ [x]) := by
  unfold Ser.step
  split
  · rename_i hx; exact h.put hx
  · rename_i hx; exact h.skip (by simpa using hx)
theorem Rep.same {l L L' : List Rd} (h : Rep l L) (hm : ∀ y, y ∈ L ↔ y ∈ L') : Rep l L' :=
  ⟨h.sorted, fun x hx => ⟨(h.of x hx).1, (hm x).1 (h.of x hx).2⟩, fun r hr => h.has r ((hm r).2 hr)⟩
theorem sorted_ext : ∀ (l l' : List Rd), Sorted l → Sorted l' → (∀ x, x ∈ l ↔ x ∈ l') → l = l'
  | [], [], _, _, _ => rfl
  | [], b :: t, _, _, h => by have := (h b).2 (List.mem_cons_self ..); cases this
  | a :: t, [], _, _, h => by have := (h a).1 (List.mem_cons_self ..); cases this
  | a :: t, b :: t', h1, h2, h => by
    unfold Sorted at h1 h2
    rw [List.pairwise_cons] at h1 h2
    have hab : a = b := by
      rcases List.mem_cons.1 ((h a).1 (List.mem_cons_self ..)) with e | e
      · exact e
      · rcases List.mem_cons.1 ((h b).2 (List.mem_cons_self ..)) with f | f
        · exact f.symm
        · exact absurd (lt_trans (h1.1 b f) (h2.1 a e)) (lt_irrefl a)
    subst hab
    rw [sorted_ext t t' h1.2 h2.2 fun x => ⟨fun hx => by
      rcases List.mem_cons.1 ((h x).1 (List.mem_cons_of_mem _ hx)) with e | e
      · subst e; exact absurd (h1.1 _ hx) (lt_irrefl _)
      · exact e, fun hx => by
      rcases List.mem_cons.1 ((h x).2 (List.mem_cons_of_mem _ hx)) with e | e
      · subst e; exact absurd (h2.1 _ hx) (lt_irrefl _)
      · exact e⟩]
theorem sorted_inj {l : List Rd} (h : Sorted l) {x y : Rd} (hx : x ∈ l) (hy : y ∈ l) (hk : key x = key y) : x = y := by
  obtain ⟨i, hi, rfl⟩ := List.mem_iff_getElem.1 hx
  obtain ⟨j, hj, rfl⟩ := List.mem_iff_getElem.1 hy
  by_cases e : i = j
  · subst e; rfl
  · by_cases hl : i < j
    · exact absurd hk (lt_key (sorted_get h hl hj))
    · exact absurd hk.symm (lt_key (sorted_get h (by omega : j < i) hi))
theorem Rep.sub {l l' L : List Rd} (h : Rep l L) (h' : Rep l' L) : ∀ x, x ∈ l → x ∈ l' := fun x hx => by
  obtain ⟨hr, hL⟩ := h.of x hx
  obtain ⟨y, hy, y1, y2⟩ := h'.has x hL hr
  obtain ⟨hr2, hL2⟩ := h'.of y hy
  obtain ⟨z, hz, z1, z2⟩ := h.has y hL2 hr2
  have : z = x := sorted_inj h.sorted hz hx (z1.trans y1)
  subst this
  have : y = z := key_eq y1 (by omega)
  rw [← this]; exact hy
theorem Rep.uniq {l l' L : List Rd} (h : Rep l L) (h' : Rep l' L) : l = l' :=
  sorted_ext l l' h.sorted h'.sorted fun x => ⟨h.sub h' x, h'.sub h x⟩
theorem sorted_le {l : List Rd} (h : Sorted l) : l.Pairwise fun a b => a.m ≤ b.m := h.imp fun hab => by unfold lt at hab; omega
theorem upto_le (l : List Rd) (m : Int) : upto l m ≤ l.length := by unfold upto; exact (List.takeWhile_sublist _).length_le
theorem upto_iff (m : Int) : ∀ (l : List Rd), (l.Pairwise fun a b => a.m ≤ b.m) → ∀ i (hi : i < l.length), l[i].m ≤ m ↔ i < upto l m
  | [], _, i, hi => by simp at hi
  | x :: l, h, i, hi => by
    rw [List.pairwise_cons] at h
    by_cases hx : x.m ≤ m
    · have he : upto (x :: l) m = upto l m + 1 := by unfold upto; rw [List.takeWhile_cons_of_pos (by simpa using hx)]; rfl
      rw [he]
      cases i with
      | zero => simp [hx]
      | succ i =>
        rw [List.getElem_cons_succ, upto_iff m l h.2 i (by simpa using hi)]
        omega
    · have he : upto (x :: l) m = 0 := by unfold upto; rw [List.takeWhile_cons_of_neg (by simpa using hx)]; rfl
      rw [he]
      have : x.m ≤ (x :: l)[i].m := by
        cases i with
        | zero => exact Int.le_refl _
        | succ i => rw [List.getElem_cons_succ]; exact h.1 _ (List.getElem_mem _)
      omega
theorem put_len (l : List Rd) (x : Rd) (hs : Sorted l) : (put l x).2.length ≤ l.length + 1 := by
  rcases put_spec l x hs with ⟨j, hj, _, he⟩ | ⟨i, hi, _, _, he⟩
  · rw [he]; simp
  · rw [he]; simp; omega
end Ser
end Go.Proofs.Ytggeloihnbjogaa
