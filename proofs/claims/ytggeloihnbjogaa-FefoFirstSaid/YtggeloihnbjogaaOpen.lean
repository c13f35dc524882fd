
/- Opening flat structs and arrays that come in as arguments. -/
import Derived.Test.YtggeloihnbjogaaFrame
namespace Go.Hf
open Go.ChangeShapes Go.WideShapes Go.ChangeAt Go.RowKit

/-- Kinds of one cell. -/
inductive K1 where
  | int (k : IntKind) | bool | str
deriving DecidableEq
def K1.has : K1 → Value → Prop
  | .int k, v => ∃ n, v = .int k n ∧ (Lit.int k n).wf = true
  | .bool, v => ∃ b, v = .bool b
  | .str, v => ∃ s, v = .string s ∧ s.size ≤ maxLen
def kind1 (P : Program) (t : TypeId) : Option K1 :=
  match P.underlying t with | some (.int k) => some (.int k) | some .bool => some .bool | some .string => some .str | _ => none
def Flat : List K1 → List Value → Prop
  | [], [] => True
  | k :: ks, v :: vs => k.has v ∧ Flat ks vs
  | _, _ => False
section
variable {P : Program} {t : TypeId}
theorem opens_kind {k : K1} (h : kind1 P t = some k) : Opens P t (α := Unit) (fun _ cs _ => ∃ v, cs = [v] ∧ k.has v) := by
  intro H enc w fuel cs x hx
  unfold kind1 at h
  split at h
  · rename_i j hj
    obtain rfl := Option.some.inj h
    obtain ⟨n, h1, h2⟩ := opens_int hj enc w fuel cs x hx
    exact ⟨(), _, h1, n, rfl, h2⟩
  · rename_i hj
    obtain rfl := Option.some.inj h
    obtain ⟨n, h1⟩ := opens_bool hj enc w fuel cs x hx
    exact ⟨(), _, h1, n, rfl⟩
  · rename_i hj
    obtain rfl := Option.some.inj h
    obtain ⟨n, h1, h2⟩ := opens_string hj enc w fuel cs x hx
    exact ⟨(), _, h1, n, rfl, h2⟩
  · cases h
theorem flat_of (ks : List K1) : ∀ (cs : List Value), cs.length = ks.length → (∀ (i : Nat) k, ks[i]? = some k → ∃ v, cs[i]? = some v ∧ k.has v) → Flat ks cs := by
  induction ks with
  | nil => intro cs h _; rw [List.eq_nil_of_length_eq_zero h]; trivial
  | cons k ks ih =>
    intro cs h hall
    cases cs with
    | nil => simp at h
    | cons c cs =>
      obtain ⟨v, h1, h2⟩ := hall 0 k rfl
      obtain rfl : c = v := by simpa using h1
      exact ⟨h2, ih cs (by simpa using h) (fun i k hk => by simpa using hall (i + 1) k (by simpa using hk))⟩
/-- A struct, or an array, all of whose parts are of one cell. -/
def flatS (P : Program) (t : TypeId) (ks : List K1) : Bool :=
  match P.underlying t with
  | some (.struct fs) => P.cellsOf t == ks.length && fs.size == ks.length && (List.range ks.length).all fun i => match fs[i]?, ks[i]? with | some f, some k => f.offset == i && P.cellsOf f.type == 1 && kind1 P f.type == some k | _, _ => false
  | some (.array n e) => P.cellsOf t == ks.length && n == ks.length && P.cellsOf e == 1 && ks.all fun k => kind1 P e == some k
  | _ => false
theorem take1 {cs : List Value} {i : Nat} {v : Value} (h : (cs.drop i).take 1 = [v]) : cs[i]? = some v := by
  have : ((cs.drop i).take 1)[0]? = some v := by rw [h]; rfl
  simpa [List.getElem?_take, List.getElem?_drop] using this
theorem opens_flat {ks : List K1} (h : flatS P t ks = true) : Opens P t (α := Unit) (fun _ cs _ => Flat ks cs) := by
  intro H enc w fuel cs x hx
  refine ⟨(), ?_⟩
  unfold flatS at h
  split at h
  · rename_i fs hu
    simp only [Bool.and_eq_true, beq_iff_eq, List.all_eq_true, List.mem_range] at h
    obtain ⟨⟨h1, h2⟩, h3⟩ := h
    obtain ⟨hl, hf⟩ := field_opens hu hx
    refine flat_of ks cs (by omega) (fun i k hk => ?_)
    have hi : i < ks.length := (List.getElem?_eq_some_iff.1 hk).1
    have h4 := h3 i hi
    rw [hk] at h4
    split at h4
    · rename_i f k' hfi hk'
      obtain rfl : k = k' := by simpa using hk'
      simp only [Bool.and_eq_true, beq_iff_eq] at h4
      obtain ⟨⟨h5, h6⟩, h7⟩ := h4
      obtain ⟨_, v, h8, h9⟩ := hf i f hfi (opens_kind h7)
      rw [h5, h6] at h8
      exact ⟨v, take1 h8, h9⟩
    · cases h4
  · rename_i n e hu
    simp only [Bool.and_eq_true, beq_iff_eq, List.all_eq_true] at h
    obtain ⟨⟨⟨h1, h2⟩, h3⟩, h4⟩ := h
    obtain ⟨xs, m, _, _, hl, hxs, hall⟩ := DataW.trod_array hu hx
    refine flat_of ks cs (by omega) (fun i k hk => ?_)
    have hi : i < ks.length := (List.getElem?_eq_some_iff.1 hk).1
    have h5 := hall i (by omega)
    rw [h3, Nat.mul_one, List.getElem?_eq_getElem (by omega)] at h5
    obtain ⟨_, v, h8, h9⟩ := opens_kind (h4 k (List.mem_of_getElem? hk)) enc w _ _ _ h5
    exact ⟨v, take1 h8, h9⟩
  · cases h
variable {H : Type} {enc : TypeId × Value → H}
/-- A struct, or an array, as an argument. -/
theorem open_flat_arg {ks : List K1} {W : World} {base : Nat} {v : Value} {d : DataW H} {p : List MemPlace} (h : flatS P t ks = true) (hv : Value.okWide P W .any base t v) (hd : DataW.Trod enc P W 0 (fun _ => true) true t v d p) :
    ∃ cs, v = .agg cs ∧ Flat ks cs.toList := by
  have : ∃ cs, v = .agg cs := by
    have h' := h
    unfold flatS at h'
    split at h'
    · rename_i fs hu; obtain ⟨cs, h1, _⟩ := okWide_struct hu hv; exact ⟨cs, h1⟩
    · rename_i n e hu; simp only [Value.okWide, hu] at hv; obtain ⟨cs, h1, _⟩ := hv; exact ⟨cs, h1⟩
    · cases h'
  obtain ⟨cs, rfl⟩ := this
  obtain ⟨fuel, hf⟩ := hd
  obtain ⟨_, h1⟩ := opens_flat h enc W fuel _ _ hf
  exact ⟨cs, rfl, h1⟩
theorem Flat.nil {cs : List Value} (h : Flat [] cs) : cs = [] := by cases cs <;> simp_all [Flat]
theorem Flat.cons {k : K1} {ks : List K1} {cs : List Value} (h : Flat (k :: ks) cs) : ∃ v vs, cs = v :: vs ∧ k.has v ∧ Flat ks vs := by
  cases cs with
  | nil => cases h
  | cons v vs => exact ⟨v, vs, rfl, h.1, h.2⟩
end
end Go.Hf
