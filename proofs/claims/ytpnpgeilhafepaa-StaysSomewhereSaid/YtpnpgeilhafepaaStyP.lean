/- Stays, plain: what may be, where something is, how many minutes (layer 9). -/
import Derived.Test.YtpnpgeilhafepaaSty
namespace Go.Proofs.Ytpnpgeilhafepaa
namespace Sty
def meets : Option Int → Int → Bool
  | none, _ => true
  | some q, f => decide (q = f)
/-- Whether stays may be, behind one whose end is p. -/
def rightF (p : Option Int) : List Stay → Bool
  | [] => true
  | x :: r => decide (1 ≤ x.zone) && decide (0 ≤ x.frm) && (decide (x.frm < x.to_) || (decide (x.to_ = -1) && r.isEmpty)) && meets p x.frm && rightF (some x.to_) r
def right (l : List Stay) : Bool := rightF none l
def zoneL (m : Int) : List Stay → Int
  | [] => 0
  | x :: r => if m < x.frm then 0 else if x.to_ = -1 ∨ m < x.to_ then x.zone else zoneL m r
def zone (l : List Stay) (m : Int) : Int := if right l = true then zoneL m l else 0
def lastOpen (l : List Stay) : Bool := match l.getLast? with | none => false | some x => decide (x.to_ = -1)
def ended (l : List Stay) (now : Int) : Option (List Stay) :=
  if right l = false ∨ now < 0 then none else match l.getLast? with
  | none => some []
  | some x => if x.to_ ≠ -1 then (if x.to_ = now then some l else none) else if now < x.frm then none else if x.frm = now then some l.dropLast else some (l.dropLast ++ [{ x with to_ := now }])
def enter (l : List Stay) (z now : Int) : Option (List Stay) := match ended l now with
  | none => none
  | some out => if z < 1 then none else match out.getLast? with
    | none => some [⟨z, now, -1⟩]
    | some y => if y.zone = z then some (out.dropLast ++ [{ y with to_ := -1 }]) else some (out ++ [⟨z, now, -1⟩])
def leave (l : List Stay) (now : Int) : Option (List Stay) := match ended l now with
  | none => none
  | some out => if lastOpen l = true then some out else none

/-- Stays of which none goes on, the last one's end e. -/
def cl (p : Option Int) : List Stay → Int → Prop
  | [], e => ∀ q, p = some q → q = e
  | x :: r, e => 1 ≤ x.zone ∧ 0 ≤ x.frm ∧ x.frm < x.to_ ∧ (∀ q, p = some q → q = x.frm) ∧ cl (some x.to_) r e
theorem cl_le (t : List Stay) : ∀ q e, cl (some q) t e → q ≤ e := by
  induction t with
  | nil => intro q e h; exact Int.le_of_eq (h q rfl)
  | cons x r ih => intro q e ⟨_, _, h3, h4, h5⟩; have := ih _ _ h5; have := h4 q rfl; omega
theorem cl_snoc (t : List Stay) (x : Stay) (e : Int) : ∀ p, cl p (t ++ [x]) e ↔ cl p t x.frm ∧ 1 ≤ x.zone ∧ 0 ≤ x.frm ∧ x.frm < x.to_ ∧ x.to_ = e := by
  induction t with
  | nil =>
    intro p
    show (1 ≤ x.zone ∧ 0 ≤ x.frm ∧ x.frm < x.to_ ∧ (∀ q, p = some q → q = x.frm) ∧ (∀ q, some x.to_ = some q → q = e)) ↔ (∀ q, p = some q → q = x.frm) ∧ _
    constructor
    · rintro ⟨a, b, c, d, f⟩; exact ⟨d, a, b, c, f _ rfl⟩
    · rintro ⟨d, a, b, c, f⟩; exact ⟨a, b, c, d, fun q hq => by injection hq with hq; omega⟩
  | cons y t ih =>
    intro p
    show (1 ≤ y.zone ∧ 0 ≤ y.frm ∧ y.frm < y.to_ ∧ (∀ q, p = some q → q = y.frm) ∧ cl (some y.to_) (t ++ [x]) e) ↔ (1 ≤ y.zone ∧ 0 ≤ y.frm ∧ y.frm < y.to_ ∧ (∀ q, p = some q → q = y.frm) ∧ cl (some y.to_) t x.frm) ∧ _
    rw [ih]
    constructor
    · rintro ⟨a, b, c, d, f, g⟩; exact ⟨⟨a, b, c, d, f⟩, g⟩
    · rintro ⟨⟨a, b, c, d, f⟩, g⟩; exact ⟨a, b, c, d, f, g⟩
theorem right_snoc (t : List Stay) (x : Stay) : ∀ p, rightF p (t ++ [x]) = true ↔ cl p t x.frm ∧ 1 ≤ x.zone ∧ 0 ≤ x.frm ∧ (x.frm < x.to_ ∨ x.to_ = -1) := by
  induction t with
  | nil =>
    intro p
    simp only [List.nil_append, rightF, cl]
    cases p with
    | none => simp [and_assoc, meets]
    | some q => simp [and_assoc, and_comm, and_left_comm, meets]
  | cons y t ih =>
    intro p
    have hp : meets p y.frm = true ↔ ∀ q, p = some q → q = y.frm := by cases p <;> simp [meets]
    have hr : rightF p (y :: t ++ [x]) = (decide (1 ≤ y.zone) && decide (0 ≤ y.frm) && (decide (y.frm < y.to_) || (decide (y.to_ = -1) && (t ++ [x]).isEmpty)) && meets p y.frm && rightF (some y.to_) (t ++ [x])) := rfl
    have he : (t ++ [x]).isEmpty = false := by cases t <;> rfl
    rw [hr, he]
    simp only [Bool.and_eq_true, decide_eq_true_eq, Bool.and_false, Bool.or_false, ih, cl]
    rw [hp]
    constructor
    · rintro ⟨⟨⟨⟨a, b⟩, c⟩, d⟩, f, g⟩; exact ⟨⟨a, b, c, d, f⟩, g⟩
    · rintro ⟨⟨a, b, c, d, f⟩, g⟩; exact ⟨⟨⟨⟨a, b⟩, c⟩, d⟩, f, g⟩
theorem right_cl (t : List Stay) (e : Int) (h : cl none t e) : right t = true := by
  rcases List.eq_nil_or_concat t with rfl | ⟨u, x, rfl⟩
  · rfl
  · rw [List.concat_eq_append] at h ⊢
    obtain ⟨a, b, c, d, f⟩ := (cl_snoc u x e none).1 h
    exact (right_snoc u x none).2 ⟨a, b, c, .inl d⟩
theorem zone_ge (t r : List Stay) (m : Int) : ∀ p e, cl p t e → e ≤ m → zoneL m (t ++ r) = zoneL m r := by
  induction t with
  | nil => intro p e _ _; rfl
  | cons x t ih =>
    intro p e ⟨_, h2, h3, _, h5⟩ hm
    have := cl_le _ _ _ h5
    show (if m < x.frm then 0 else if x.to_ = -1 ∨ m < x.to_ then x.zone else zoneL m (t ++ r)) = _
    rw [if_neg (by omega), if_neg (by omega), ih _ _ h5 hm]
theorem zone_lt (t r : List Stay) (m : Int) : ∀ p e, cl p t e → (∀ y, r.head? = some y → y.frm = e) → m < e → zoneL m (t ++ r) = zoneL m t := by
  induction t with
  | nil =>
    intro p e _ hr hm
    cases r with
    | nil => rfl
    | cons y r => show (if m < y.frm then 0 else _) = _; rw [if_pos (by have := hr y rfl; omega)]; rfl
  | cons x t ih =>
    intro p e ⟨_, h2, h3, _, h5⟩ hr hm
    show (if m < x.frm then 0 else if x.to_ = -1 ∨ m < x.to_ then x.zone else zoneL m (t ++ r)) = (if m < x.frm then 0 else if x.to_ = -1 ∨ m < x.to_ then x.zone else zoneL m t)
    rw [ih _ _ h5 hr hm]
/-- Where something is, as far as is known. -/
def Good (s : List Stay) (now inn : Int) : Prop :=
  (s = [] ∧ inn = 0) ∨ ∃ t x, s = t ++ [x] ∧ cl none t x.frm ∧ 1 ≤ x.zone ∧ 0 ≤ x.frm ∧ ((x.to_ = -1 ∧ inn = x.zone ∧ x.frm ≤ now) ∨ (x.frm < x.to_ ∧ x.to_ ≤ now ∧ inn = 0))
theorem Good.right {s : List Stay} {now inn : Int} (h : Good s now inn) : Sty.right s = true := by
  rcases h with ⟨rfl, _⟩ | ⟨t, x, rfl, h1, h2, h3, h4⟩
  · rfl
  · exact (right_snoc t x none).2 ⟨h1, h2, h3, by rcases h4 with h | h <;> omega⟩
theorem good_cl (t : List Stay) (e : Int) (h : cl none t e) : Good t e 0 := by
  rcases List.eq_nil_or_concat t with rfl | ⟨u, x, rfl⟩
  · exact .inl ⟨rfl, rfl⟩
  · rw [List.concat_eq_append] at h ⊢
    obtain ⟨a, b, c, d, f⟩ := (cl_snoc u x e none).1 h
    exact .inr ⟨u, x, rfl, a, b, c, .inr ⟨d, by omega, rfl⟩⟩
/-- Whether it may be so at all that nothing goes on: it is so. -/
theorem ended_spec (s : List Stay) (n0 now inn : Int) (h : Good s n0 inn) (hn : n0 ≤ now) (h0 : 0 ≤ now) :
    (ended s now = none ∧ inn = 0 ∧ s ≠ [] ∧ (∀ x, s.getLast? = some x → x.to_ ≠ now)) ∨ (∃ out, ended s now = some out ∧ cl none out now ∧ (∀ m, m < now → zoneL m out = zoneL m s) ∧ (0 < inn ∨ s = [] ∨ ∃ x, s.getLast? = some x ∧ x.to_ = now)) := by
  have hr := h.right
  unfold ended
  rw [if_neg (by rw [hr]; simp; omega)]
  rcases h with ⟨rfl, rfl⟩ | ⟨t, x, rfl, h1, h2, h3, h4⟩
  · exact .inr ⟨[], rfl, fun q hq => (by cases hq), fun m _ => rfl, .inr (.inl rfl)⟩
  · simp only [List.getLast?_concat, List.dropLast_concat]
    rcases h4 with ⟨ho, hi, hf⟩ | ⟨hc, hl, hi⟩
    · rw [if_neg (by simp [ho]), if_neg (by omega)]
      by_cases he : x.frm = now
      · rw [if_pos he]
        subst he
        refine .inr ⟨t, rfl, h1, fun m hm => ?_, .inl (by omega)⟩
        rw [zone_lt t [x] m none _ h1 (fun y hy => by simp at hy; rw [hy]) hm]
      · rw [if_neg he]
        refine .inr ⟨_, rfl, (cl_snoc t _ now none).2 ⟨h1, h2, h3, by show x.frm < now; omega, rfl⟩, fun m hm => ?_, .inl (by omega)⟩
        by_cases hm2 : m < x.frm
        · rw [zone_lt t _ m none _ h1 (fun y hy => by simp at hy; rw [← hy]) hm2, zone_lt t _ m none _ h1 (fun y hy => by simp at hy; rw [hy]) hm2]
        · rw [zone_ge t _ m none _ h1 (by omega), zone_ge t _ m none _ h1 (by omega)]
          show (if m < x.frm then 0 else if now = -1 ∨ m < now then x.zone else 0) = (if m < x.frm then 0 else if x.to_ = -1 ∨ m < x.to_ then x.zone else 0)
          rw [if_neg hm2, if_neg hm2, if_pos (.inr hm), if_pos (.inl ho)]
    · rw [if_pos (by omega)]
      by_cases he : x.to_ = now
      · rw [if_pos he]
        exact .inr ⟨_, rfl, (cl_snoc t x now none).2 ⟨h1, h2, h3, hc, he⟩, fun m _ => rfl, .inr (.inr ⟨x, rfl, he⟩)⟩
      · rw [if_neg he]
        exact .inl ⟨rfl, hi, by simp, fun y hy => by simp at hy; subst hy; exact he⟩
theorem zone_end (out : List Stay) (now m : Int) (h : cl none out now) (hm : now ≤ m) : zoneL m out = 0 := by
  have := zone_ge out [] m none now h hm
  rwa [List.append_nil] at this
theorem enter_spec (out : List Stay) (z now : Int) (h : cl none out now) (h0 : 0 ≤ now) (hz : 1 ≤ z) :
    ∃ next, (match out.getLast? with
    | none => some [⟨z, now, -1⟩]
    | some y => if y.zone = z then some (out.dropLast ++ [{ y with to_ := -1 }]) else some (out ++ [⟨z, now, -1⟩])) = some next ∧ Good next now z ∧ (∀ m, m < now → zoneL m next = zoneL m out) ∧ (∀ m, now ≤ m → zoneL m next = z) := by
  have new : Good (out ++ [⟨z, now, -1⟩]) now z ∧ (∀ m, m < now → zoneL m (out ++ [⟨z, now, -1⟩]) = zoneL m out) ∧ (∀ m, now ≤ m → zoneL m (out ++ [⟨z, now, -1⟩]) = z) := by
    refine ⟨.inr ⟨out, _, rfl, h, hz, h0, .inl ⟨rfl, rfl, Int.le_refl _⟩⟩, fun m hm => ?_, fun m hm => ?_⟩
    · exact zone_lt out _ m none _ h (fun y hy => by simp at hy; rw [← hy]) hm
    · rw [zone_ge out _ m none _ h hm]
      show (if m < now then 0 else if (-1 : Int) = -1 ∨ m < -1 then z else 0) = z
      rw [if_neg (by omega), if_pos (.inl rfl)]
  rcases List.eq_nil_or_concat out with rfl | ⟨t, y, rfl⟩
  · exact ⟨_, rfl, new⟩
  · rw [List.concat_eq_append] at h new ⊢
    simp only [List.getLast?_concat, List.dropLast_concat]
    by_cases he : y.zone = z
    · rw [if_pos he]
      obtain ⟨a, b, c, d, f⟩ := (cl_snoc t y now none).1 h
      refine ⟨_, rfl, .inr ⟨t, _, rfl, a, b, c, .inl ⟨rfl, he.symm, by show y.frm ≤ now; omega⟩⟩, fun m hm => ?_, fun m hm => ?_⟩
      · by_cases hm2 : m < y.frm
        · rw [zone_lt t _ m none _ a (fun u hu => by simp at hu; rw [← hu]) hm2, zone_lt t _ m none _ a (fun u hu => by simp at hu; rw [hu]) hm2]
        · rw [zone_ge t _ m none _ a (by omega), zone_ge t _ m none _ a (by omega)]
          show (if m < y.frm then 0 else if (-1 : Int) = -1 ∨ m < -1 then y.zone else 0) = (if m < y.frm then 0 else if y.to_ = -1 ∨ m < y.to_ then y.zone else 0)
          rw [if_neg hm2, if_neg hm2, if_pos (.inl rfl), if_pos (by omega)]
      · rw [zone_ge t _ m none _ a (by omega)]
        show (if m < y.frm then 0 else if (-1 : Int) = -1 ∨ m < -1 then y.zone else 0) = z
        rw [if_neg (by omega), if_pos (.inl rfl), he]
    · rw [if_neg he]
      exact ⟨_, rfl, new⟩

def clip (m : Int) (l : List Stay) : List Stay := match l.getLast? with
  | none => l
  | some x => if x.to_ = -1 ∨ m < x.to_ then l.dropLast ++ [{ x with to_ := m }] else l
def upto (l : List Stay) (m : Int) : List Stay := if right l = true then clip m (l.filter fun x => decide (x.frm < m)) else []
def minutes (l : List Stay) (m : Int) : Int := ((upto l m).map fun x => x.to_ - x.frm).sum
def minL (m : Int) : List Stay → Int
  | [] => 0
  | x :: r => if m ≤ x.frm then 0 else if x.to_ = -1 ∨ m < x.to_ then m - x.frm else (x.to_ - x.frm) + minL m r
theorem rightF_cons {p : Option Int} {x : Stay} {r : List Stay} (h : rightF p (x :: r) = true) : 1 ≤ x.zone ∧ 0 ≤ x.frm ∧ (x.frm < x.to_ ∨ (x.to_ = -1 ∧ r = [])) ∧ (∀ q, p = some q → q = x.frm) ∧ rightF (some x.to_) r = true := by
  simp only [rightF, Bool.and_eq_true, Bool.or_eq_true, decide_eq_true_eq, List.isEmpty_iff] at h
  obtain ⟨⟨⟨⟨a, b⟩, c⟩, d⟩, e⟩ := h
  refine ⟨a, b, c, fun q hq => ?_, e⟩
  subst hq
  simpa [meets] using d
theorem frm_ge (r : List Stay) : ∀ q, rightF (some q) r = true → ∀ y ∈ r, q ≤ y.frm := by
  induction r with
  | nil => intro q _ y hy; cases hy
  | cons x r ih =>
    intro q h y hy
    obtain ⟨_, h2, h3, h4, h5⟩ := rightF_cons h
    have := h4 q rfl
    cases hy with
    | head => omega
    | tail _ hy =>
      have h6 := ih _ h5 y hy
      rcases h3 with h3 | ⟨_, rfl⟩
      · omega
      · cases hy
theorem filter_none (r : List Stay) (q m : Int) (h : rightF (some q) r = true) (hm : m ≤ q) : (r.filter fun x => decide (x.frm < m)) = [] := by
  rw [List.filter_eq_nil_iff]
  intro y hy
  have := frm_ge r q h y hy
  simp; omega
theorem minL_none (r : List Stay) (q m : Int) (h : rightF (some q) r = true) (hm : m ≤ q) : minL m r = 0 := by
  cases r with
  | nil => rfl
  | cons x r =>
    have := frm_ge _ q h x (.head _)
    show (if m ≤ x.frm then 0 else _) = 0
    rw [if_pos (by omega)]
theorem clip_cons (m : Int) (x : Stay) (u : List Stay) (h : u ≠ []) : clip m (x :: u) = x :: clip m u := by
  rcases List.eq_nil_or_concat u with rfl | ⟨t, y, rfl⟩
  · exact absurd rfl h
  · rw [List.concat_eq_append]
    unfold clip
    rw [← List.cons_append]
    simp only [List.getLast?_concat, List.dropLast_concat]
    split <;> rfl
theorem clip_sum (l : List Stay) (m : Int) : ∀ p, rightF p l = true → ((clip m (l.filter fun x => decide (x.frm < m))).map fun x => x.to_ - x.frm).sum = minL m l := by
  induction l with
  | nil => intro p _; rfl
  | cons x r ih =>
    intro p h
    obtain ⟨_, h2, h3, _, h5⟩ := rightF_cons h
    by_cases hf : m ≤ x.frm
    · have hr : (r.filter fun x => decide (x.frm < m)) = [] := by
        rcases h3 with h3 | ⟨_, rfl⟩
        · exact filter_none r _ m h5 (by omega)
        · rfl
      rw [List.filter_cons_of_neg (by simp; omega), hr]
      show (0 : Int) = if m ≤ x.frm then 0 else _
      rw [if_pos hf]
    · rw [List.filter_cons_of_pos (by simp; omega)]
      show _ = if m ≤ x.frm then 0 else if x.to_ = -1 ∨ m < x.to_ then m - x.frm else (x.to_ - x.frm) + minL m r
      rw [if_neg hf]
      by_cases hc : x.to_ = -1 ∨ m < x.to_
      · have hr : (r.filter fun x => decide (x.frm < m)) = [] := by
          rcases h3 with h3 | ⟨_, rfl⟩
          · exact filter_none r _ m h5 (by omega)
          · rfl
        rw [hr, if_pos hc]
        show ((if x.to_ = -1 ∨ m < x.to_ then [{ x with to_ := m }] else [x]).map fun x : Stay => x.to_ - x.frm).sum = _
        rw [if_pos hc]
        simp
      · rw [if_neg hc, ← ih _ h5]
        by_cases hu : (r.filter fun x => decide (x.frm < m)) = []
        · rw [hu]
          show ((if x.to_ = -1 ∨ m < x.to_ then [{ x with to_ := m }] else [x]).map fun x : Stay => x.to_ - x.frm).sum = _
          rw [if_neg hc]
          rfl
        · rw [clip_cons m x _ hu]
          simp
theorem minL_step (l : List Stay) (m : Int) : ∀ p, rightF p l = true → minL (m + 1) l = minL m l + (if 0 < zoneL m l then 1 else 0) := by
  induction l with
  | nil => intro p _; rfl
  | cons x r ih =>
    intro p h
    obtain ⟨h1, h2, h3, _, h5⟩ := rightF_cons h
    show (if m + 1 ≤ x.frm then 0 else if x.to_ = -1 ∨ m + 1 < x.to_ then m + 1 - x.frm else (x.to_ - x.frm) + minL (m + 1) r) = (if m ≤ x.frm then 0 else if x.to_ = -1 ∨ m < x.to_ then m - x.frm else (x.to_ - x.frm) + minL m r) + (if 0 < (if m < x.frm then 0 else if x.to_ = -1 ∨ m < x.to_ then x.zone else zoneL m r) then 1 else 0)
    by_cases a : m < x.frm
    · rw [if_pos (by omega), if_pos (by omega), if_pos a]; rfl
    · rw [if_neg (by omega), if_neg a]
      by_cases b : x.to_ = -1 ∨ m < x.to_
      · have z : (if 0 < x.zone then (1 : Int) else 0) = 1 := if_pos (by omega)
        rw [if_pos b, if_pos b, z]
        have e : (if m ≤ x.frm then 0 else m - x.frm) = m - x.frm := by split <;> omega
        rw [e]
        by_cases c : x.to_ = -1 ∨ m + 1 < x.to_
        · rw [if_pos c]; omega
        · rw [if_neg c, minL_none r _ _ h5 (by omega)]; omega
      · rcases h3 with h3 | ⟨h3, _⟩
        · rw [if_neg b, if_neg b, if_neg (by omega), if_neg (by omega), ih _ h5]; omega
        · exact absurd (.inl h3) b
def cnt (l : List Stay) : Nat → Int
  | 0 => 0
  | m + 1 => cnt l m + (if 0 < zone l m then 1 else 0)
theorem minutes_cnt (l : List Stay) (h : right l = true) (m : Nat) : minutes l m = cnt l m := by
  have hz : minutes l m = minL m l := by
    unfold minutes upto
    rw [if_pos h]
    exact clip_sum l m none h
  rw [hz]
  induction m with
  | zero =>
    cases l with
    | nil => rfl
    | cons x r =>
      have := (rightF_cons h).2.1
      show (if (0 : Int) ≤ x.frm then 0 else _) = 0
      rw [if_pos this]
  | succ m ih =>
    have hz' : minutes l m = minL m l := by
      unfold minutes upto
      rw [if_pos h]
      exact clip_sum l m none h
    show minL ((m : Int) + 1) l = cnt l m + _
    rw [minL_step l m none h, ih hz']
    unfold zone
    rw [if_pos h]
end Sty
end Go.Proofs.Ytpnpgeilhafepaa
