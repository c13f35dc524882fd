/- Stays, plain: a step of StaysSomewhere (layer 9). -/
import Derived.Test.YtpnpgeilhafepaaStyG
namespace Go.Proofs.Ytpnpgeilhafepaa
namespace Sty
theorem Good.mono {s : List Stay} {n0 now inn : Int} (h : Good s n0 inn) (hn : n0 ≤ now) : Good s now inn := by
  rcases h with h | ⟨t, x, e, h1, h2, h3, h4⟩
  · exact .inl h
  · refine .inr ⟨t, x, e, h1, h2, h3, ?_⟩
    rcases h4 with ⟨a, b, c⟩ | ⟨a, b, c⟩
    · exact .inl ⟨a, b, by omega⟩
    · exact .inr ⟨a, by omega, c⟩
theorem Good.opened {s : List Stay} {n0 inn : Int} (h : Good s n0 inn) : lastOpen s = decide (0 < inn) := by
  rcases h with ⟨rfl, rfl⟩ | ⟨t, x, rfl, h1, h2, h3, h4⟩
  · rfl
  · unfold lastOpen
    rw [List.getLast?_concat]
    rcases h4 with ⟨a, b, c⟩ | ⟨a, b, c⟩
    · show decide (x.to_ = -1) = _
      rw [decide_eq_true a, decide_eq_true (by omega)]
    · show decide (x.to_ = -1) = _
      rw [decide_eq_false (by omega), decide_eq_false (by omega)]
def May (s : List Stay) (inn z now : Int) : Prop := (0 < z ∧ (0 < inn ∨ s = [] ∨ ∃ x, s.getLast? = some x ∧ x.to_ = now)) ∨ (z = 0 ∧ 0 < inn)
def step (s : List Stay) (z now : Int) : Option (List Stay) := if z = 0 then leave s now else enter s z now
theorem enter_zero (s : List Stay) (now : Int) : enter s 0 now = none := by
  unfold enter
  cases ended s now with
  | none => rfl
  | some out => rfl
structure Stepped (s : List Stay) (inn z now : Int) (next : List Stay) : Prop where
  good : Good next now z
  ahead : ∀ m, m < now → zone next m = zone s m
  from_ : ∀ m, now ≤ m → zone next m = z
  len : next.length ≤ s.length + 1
theorem step_spec (s : List Stay) (n0 now inn z : Int) (h : Good s n0 inn) (hn : n0 ≤ now) (h0 : 0 ≤ now) (hz : 0 ≤ z) :
    (¬ May s inn z now ∧ step s z now = none) ∨ (May s inn z now ∧ ∃ next, step s z now = some next ∧ Stepped s inn z now next) := by
  have hr := h.right
  have ho := h.opened
  have hzs : ∀ m, zone s m = zoneL m s := fun m => by unfold zone; rw [if_pos hr]
  have mk : ∀ next, Good next now z → (∀ m, m < now → zoneL m next = zoneL m s) → (∀ m, now ≤ m → zoneL m next = z) → next.length ≤ s.length + 1 → Stepped s inn z now next := fun next g a b c => by
    have hz2 : ∀ m, zone next m = zoneL m next := fun m => by unfold zone; rw [if_pos g.right]
    exact ⟨g, fun m hm => by rw [hz2, hzs, a m hm], fun m hm => by rw [hz2, b m hm], c⟩
  unfold step May
  by_cases hz0 : z = 0
  · rw [if_pos hz0]
    unfold leave
    rcases ended_spec s n0 now inn h hn h0 with ⟨he, hi, _, _⟩ | ⟨out, he, hc, ha, hor⟩
    · rw [he]
      exact .inl ⟨by omega, rfl⟩
    · rw [he, ho]
      dsimp only
      by_cases hi : 0 < inn
      · rw [if_pos (decide_eq_true hi)]
        refine .inr ⟨.inr ⟨hz0, hi⟩, out, rfl, mk out (by rw [hz0]; exact good_cl out now hc) ha (fun m hm => by rw [zone_end out now m hc hm, hz0]) (by have := ended_len he; omega)⟩
      · rw [if_neg (by simp; omega)]
        exact .inl ⟨by omega, rfl⟩
  · rw [if_neg hz0]
    unfold enter
    rcases ended_spec s n0 now inn h hn h0 with ⟨he, hi, hs, hl⟩ | ⟨out, he, hc, ha, hor⟩
    · rw [he]
      refine .inl ⟨?_, rfl⟩
      rintro (⟨_, h1 | h1 | ⟨x, h1, h2⟩⟩ | ⟨h1, _⟩)
      · omega
      · exact hs h1
      · exact hl x h1 h2
      · exact hz0 h1
    · rw [he]
      dsimp only
      rw [if_neg (by omega)]
      obtain ⟨next, e, hg, h1, h2⟩ := enter_spec out z now hc h0 (by omega)
      refine .inr ⟨.inl ⟨by omega, hor⟩, next, e, mk next hg (fun m hm => (h1 m hm).trans (ha m hm)) h2 ?_⟩
      have hl := ended_len he
      rcases List.eq_nil_or_concat out with rfl | ⟨t, y, rfl⟩
      · simp at e; subst e; simp
      · rw [List.concat_eq_append] at e hl
        simp only [List.getLast?_concat, List.dropLast_concat] at e
        split at e
        · injection e with e; subst e; simp at hl ⊢; omega
        · injection e with e; subst e; simp at hl ⊢; omega
theorem cl_to (t : List Stay) : ∀ p e, cl p t e → ∀ y ∈ t, y.to_ ≤ e := by
  induction t with
  | nil => intro p e _ y hy; cases hy
  | cons x r ih =>
    intro p e ⟨_, _, _, _, h5⟩ y hy
    cases hy with
    | head => exact cl_le r _ _ h5
    | tail _ hy => exact ih _ _ h5 y hy
theorem Good.to_le {s : List Stay} {now inn : Int} (h : Good s now inn) (h0 : 0 ≤ now) : ∀ y ∈ s, y.to_ ≤ now := by
  rcases h with ⟨rfl, _⟩ | ⟨t, x, rfl, h1, h2, h3, h4⟩
  · intro y hy; cases hy
  · intro y hy
    rw [List.mem_append] at hy
    rcases hy with hy | hy
    · have := cl_to t _ _ h1 y hy; omega
    · simp at hy; subst hy; omega
theorem right_mem (l : List Stay) : ∀ p, rightF p l = true → ∀ y ∈ l, 0 ≤ y.frm ∧ (y.frm < y.to_ ∨ y.to_ = -1) := by
  induction l with
  | nil => intro p _ y hy; cases hy
  | cons x r ih =>
    intro p h y hy
    obtain ⟨_, h2, h3, _, h5⟩ := rightF_cons h
    cases hy with
    | head => exact ⟨h2, h3.imp id And.left⟩
    | tail _ hy => exact ih _ h5 y hy
theorem mem_noclose (l : List Stay) : ∀ p, rightF p l = true → ∀ t y, l = t ++ [y] → ∀ x ∈ t, x.frm < x.to_ := by
  induction l with
  | nil => intro p _ t y e; simp at e
  | cons a r ih =>
    intro p h t y e x hx
    obtain ⟨_, _, h3, _, h5⟩ := rightF_cons h
    cases t with
    | nil => cases hx
    | cons b t =>
      rw [List.cons_append] at e
      injection e with e1 e2
      subst e1
      cases hx with
      | head => rcases h3 with h3 | ⟨_, h3⟩; exact h3; rw [h3] at e2; simp at e2
      | tail _ hx => exact ih _ h5 t y e2 x hx
theorem upto_le (l : List Stay) (m B : Int) (h : right l = true) (hB : ∀ y ∈ l, y.to_ ≤ B) (hm : m ≤ B) : ∀ x ∈ upto l m, 0 ≤ x.frm ∧ x.frm ≤ x.to_ ∧ x.to_ ≤ B := by
  unfold upto
  rw [if_pos h]
  have hF : ∀ y ∈ l.filter fun x => decide (x.frm < m), 0 ≤ y.frm ∧ (y.frm < y.to_ ∨ y.to_ = -1) ∧ y.to_ ≤ B ∧ y.frm < m := fun y hy => by
    rw [List.mem_filter] at hy
    obtain ⟨a, b⟩ := right_mem l none h y hy.1
    exact ⟨a, b, hB y hy.1, by simpa using hy.2⟩
  have hC : ∀ t y, (l.filter fun x => decide (x.frm < m)) = t ++ [y] → ∀ x ∈ t, x.frm < x.to_ := by
    clear hF hB hm
    unfold right at h
    generalize (none : Option Int) = p at h
    induction l generalizing p with
    | nil => intro t y e; simp at e
    | cons a r ih =>
      obtain ⟨_, _, h3, _, h5⟩ := rightF_cons h
      intro t y e x hx
      by_cases hq : a.frm < m
      · rw [List.filter_cons_of_pos (by simpa using hq)] at e
        cases t with
        | nil => cases hx
        | cons b t =>
          rw [List.cons_append] at e
          injection e with e1 e2
          subst e1
          cases hx with
          | head => rcases h3 with h3 | ⟨_, h3⟩; exact h3; rw [h3] at e2; simp at e2
          | tail _ hx => exact ih (some a.to_) h5 t y e2 x hx
      · rw [List.filter_cons_of_neg (by simpa using hq)] at e
        exact ih (some a.to_) h5 t y e x hx
  rcases List.eq_nil_or_concat (l.filter fun x => decide (x.frm < m)) with he | ⟨t, y, he⟩
  · rw [he]; intro x hx; cases hx
  · rw [List.concat_eq_append] at he
    rw [he] at hF ⊢
    have hC := hC t y he
    unfold clip
    simp only [List.getLast?_concat, List.dropLast_concat]
    intro x hx
    split at hx
    · rw [List.mem_append] at hx
      rcases hx with hx | hx
      · have h1 := hF x (List.mem_append_left _ hx)
        have := hC x hx
        omega
      · simp at hx
        subst hx
        have h1 := hF y (by simp)
        dsimp only
        omega
    · rename_i hn
      rw [List.mem_append] at hx
      rcases hx with hx | hx
      · have h1 := hF x (List.mem_append_left _ hx)
        have := hC x hx
        omega
      · simp at hx
        subst hx
        have h1 := hF x (by simp)
        omega
theorem upto_len (l : List Stay) (m : Int) : (upto l m).length ≤ l.length := by
  unfold upto
  split
  · have hf : (l.filter fun x => decide (x.frm < m)).length ≤ l.length := List.length_filter_le _ _
    unfold clip
    rcases List.eq_nil_or_concat (l.filter fun x => decide (x.frm < m)) with he | ⟨t, y, he⟩
    · rw [he] at hf ⊢; simp
    · rw [List.concat_eq_append] at he
      rw [he] at hf ⊢
      simp only [List.getLast?_concat, List.dropLast_concat]
      simp at hf
      split <;> simp <;> omega
  · simp
end Sty
end Go.Proofs.Ytpnpgeilhafepaa
