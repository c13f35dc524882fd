
/- The row of a law: it returns true, its arguments read as they did. Reading an argument as lists. -/
import Derived.Test.YtggeloihnbjogaaLib
import Derived.ProofKit
import Derived.OpenShut
import Derived.ShutString
namespace Go.Hf
open Go.ChangeShapes Go.WideShapes Go.ChangeAt Go.RowKit

section
variable {H : Type} {enc : TypeId × Value → H} {P : Program}

theorem trodAll_stays (hl : laidOutB P = true) {W W' : World} (hb : Fr W W') : ∀ (ts : List TypeId) (vs : List Value) (ds : List (DataW H)) (ps : List MemPlace),
    (∀ t ∈ ts, P.readableRec t = true ∧ t < P.types.size) → DataW.TrodAll enc P W 0 (fun _ => true) true ts vs ds ps → (∀ p ∈ ps, p.block < W.heap.size) →
    ∀ sp : Nat → Bool, (∀ p ∈ ps, sp p.block = true) → DataW.TrodAll enc P W' 0 sp true ts vs ds ps
  | [], vs, ds, ps, _, h, _, _, _ => by
    cases vs <;> cases ds <;> first | (simp [DataW.TrodAll] at h; done) | (simp [DataW.TrodAll] at h ⊢; exact h)
  | t :: ts, vs, ds, ps, ht, h, hlt, sp, hsp => by
    obtain ⟨v, vs', d, ds', p, q, rfl, rfl, rfl, h1, h2⟩ := trodAll_cons h
    have ht' := ht t (by simp)
    refine trodAll_cons_mk (WideElems.Trod_stays hl ht'.1 ht'.2 h1 (fun x hx => Below.same hb (hlt x (by simp [hx]))) (fun x hx => hsp x (by simp [hx]))) ?_
    exact trodAll_stays hl hb ts vs' ds' q (fun t ht2 => ht t (by simp [ht2])) h2 (fun p hp => hlt p (by simp [hp])) sp (fun p hp => hsp p (by simp [hp]))

theorem law_lifted {C : Checked} {os : Os} {f : FuncId} {fn : Func} {s : ChangeSpec} {tb : TypeId} (own : ownKnob C.prog.godebug = none) (started : os.Started) (noInit : C.prog.inits.idxOf? f = none) (hfn : C.prog.funcs[f]? = some fn)
    (witness : ∃ (w : World) (tape : Tape) (i : Input), w.os = os ∧ (w.forCall tape i).Shaped C.prog ∧ i.vars = [] ∧ Input.okWide C.prog (w.forCall tape i) .any w.heap.size f i ∧
      s.pre6 enc C.prog fn [] false (w.forCall tape i).memory i.args ∧ ({} : Assume).holds C.prog (lone (Frame.enter C.prog f i.args .normal) [] (w.forCall tape i)))
    (hvars : s.vars = []) (hres : fn.resultTypes = #[tb]) (htb : C.prog.underlying tb = some .bool) (hl : laidOutB C.prog = true)
    (hparams : fn.params.toList.all (fun t => C.prog.readableRec t && decide (t < C.prog.types.size)) = true)
    (hspec : ∀ ds : List (DataW H), ds.length = fn.params.size → s.fn H ds = { results := [.lit (.bool true)], args := ds })
    (walk : ∀ (W : World) (base : Nat) (args : Array Value) (ds : List (DataW H)) (ps : List MemPlace), (∀ (j : Nat) t v, fn.params[j]? = some t → args[j]? = some v → Value.okWide C.prog W .any base t v) →
      DataW.TrodAll enc C.prog W 0 (fun _ => true) true fn.params.toList args.toList ds ps → Calls C.prog f args W fun e W' => e = .returned (.bool true) ∧ Fr W W') :
    ReturnsInHanded {} C os f .any (s.pre6 enc C.prog fn [] false) (s.post enc C.prog fn false true false false) := by
  refine returnsInHanded_of_change (C := C) own started noInit hfn witness ?_
  intro W base args ds gs before hval hW _ _
  have hW' := hW
  have hlt := hW.lt
  obtain ⟨p, q, hA, hV, rfl, _, _⟩ := hW
  rw [hvars] at hV
  obtain ⟨rfl, rfl⟩ := trodVars_none hV
  simp only [List.append_nil] at hW' hlt
  refine (walk W base args ds p hval hA).mono fun e W' ⟨he, hg⟩ => ?_
  subst he
  have hlen : ds.length = fn.params.size := by
    have : ∀ (ts : List TypeId) (vs : List Value) (ds : List (DataW H)) (ps : List MemPlace), DataW.TrodAll enc C.prog W 0 (fun _ => true) true ts vs ds ps → ds.length = ts.length := by
      intro ts
      induction ts with
      | nil => intro vs ds ps h; cases vs <;> cases ds <;> simp_all [DataW.TrodAll]
      | cons t ts ih => intro vs ds ps h; obtain ⟨v, vs', d, ds', p, q, rfl, rfl, rfl, _, h2⟩ := trodAll_cons h; simp [ih _ _ _ h2]
    simpa using this _ _ _ _ hA
  have hs := hspec ds hlen
  have hp : ∀ t ∈ fn.params.toList, C.prog.readableRec t = true ∧ t < C.prog.types.size := fun t ht => by
    have := List.all_eq_true.1 hparams t ht
    simpa using this
  refine ⟨_, rfl, ds, [], p, [], p, [], hW', ?_, ?_, ?_, World.keptBut_mono (fun p hp => ⟨hp, Or.inr (Or.inl hp)⟩) (Below.frame hg _), fun h => by cases h⟩
  · rw [List.append_nil, hs, hres]
    exact trodAll_cons_mk (shut_bool htb _) trodAll_mk0
  · rw [List.append_nil, hs]
    exact trodAll_stays hl hg _ _ _ _ hp hA hlt _ (fun x hx => by simpa using hlt x hx)
  · rw [hvars, List.append_nil, hs]; rfl

/-! ### Opening arguments -/
/-- Cells of type t read by R. -/
def Opens (P : Program) (t : TypeId) {α : Type} (R : Rdr α) : Prop :=
  ∀ {H : Type} (enc : TypeId × Value → H) (w : World) (fuel : Nat) (cs : List Value) (x : DataW H × List MemPlace), DataW.trod enc P w 0 (fun _ => true) true fuel t cs = some x → ∃ a, R w cs a

theorem opens_int {t : TypeId} {k : IntKind} (ht : P.underlying t = some (.int k)) : Opens P t (α := Int) (fun _ cs n => cs = [.int k n] ∧ (Lit.int k n).wf = true) :=
  fun _ _ _ _ _ h => by obtain ⟨n, h1, _, h2⟩ := DataW.trod_int ht h; exact ⟨n, h1, h2⟩
theorem opens_bool {t : TypeId} (ht : P.underlying t = some .bool) : Opens P t (α := Bool) (fun _ cs n => cs = [.bool n]) :=
  fun _ _ _ _ _ h => by obtain ⟨n, h1, _⟩ := DataW.trod_bool ht h; exact ⟨n, h1⟩
theorem opens_string {t : TypeId} (ht : P.underlying t = some .string) : Opens P t (α := ByteArray) (fun _ cs n => cs = [.string n] ∧ n.size ≤ maxLen) :=
  fun _ _ _ _ _ h => by obtain ⟨n, h1, _, h2⟩ := DataW.trod_string ht h; exact ⟨n, h1, h2⟩

/-- A slice: its value, its base, its list. -/
def slR {α : Type} (n : Nat) (R : Rdr α) : Rdr (List α) := fun w cs l => ∃ A c, cs = [.slice A l.length c] ∧ l.length ≤ c ∧ c ≤ maxLen ∧ (A = none → c = 0) ∧ SlA n R w A l

theorem cells?_some {w : World} {base : Nat} {a : Addr} {n : Nat} {cs : List Value} (h : w.cells? base a n = some cs) : cs.length = n ∧ ∀ j u, cs[j]? = some u → w.cell? (a.add j) = some u := by
  obtain ⟨_, h1, h2⟩ := World.cells?_some h
  refine ⟨h1, fun j u hu => ?_⟩
  have hj : j < n := by rw [← h1]; exact (List.getElem?_eq_some_iff.1 hu).1
  rw [← h2 j hj] at hu
  exact hu

theorem list_of_each {α : Type} {Q : Nat → α → Prop} : ∀ n, (∀ i, i < n → ∃ y, Q i y) → ∃ l : List α, l.length = n ∧ ∀ i x, l[i]? = some x → Q i x
  | 0, _ => ⟨[], rfl, fun i x h => by simp at h⟩
  | k + 1, each => by
    obtain ⟨l, hl, hall⟩ := list_of_each k (fun i hi => each i (by omega))
    obtain ⟨y, hy⟩ := each k (by omega)
    refine ⟨l ++ [y], by simp [hl], fun i x hx => ?_⟩
    rw [List.getElem?_append] at hx
    split at hx
    · exact hall i x hx
    · rename_i hi
      have e : i = k := by
        have := (List.getElem?_eq_some_iff.1 hx).1
        simp at this; omega
      subst e
      simp [hl] at hx
      subst hx
      exact hy

theorem opens_slice {t e : TypeId} {n : Nat} {α : Type} {R : Rdr α} (ht : P.underlying t = some (.slice e)) (hn : P.cellsOf e = n) (hn0 : 0 < n) (hR : Opens P e R) : Opens P t (slR n R) := by
  intro H enc w fuel cs x h
  rcases DataW.trod_slice ht h with ⟨rfl, _⟩ | ⟨a, len, cap, elems, rest, m, _, rfl, _, _, hlc, hcm, hlen, hel, _, _⟩
  · exact ⟨[], none, 0, rfl, Nat.le_refl _, Nat.zero_le _, fun _ => rfl, SlA.nil _ _ _ _⟩
  · rw [hn] at hel
    have each : ∀ i, i < len → ∃ y cs', w.cells? 0 (a.add (i * n)) n = some cs' ∧ R w cs' y := by
      intro i hi
      have h1 := hel i hi
      rw [List.getElem?_eq_getElem (by omega)] at h1
      obtain ⟨cs', h2, h3⟩ := Option.bind_eq_some_iff.1 h1
      obtain ⟨y, hy⟩ := hR enc w m cs' _ h3
      exact ⟨y, cs', h2, hy⟩
    obtain ⟨l, hl, hall⟩ := list_of_each (Q := fun i x => ∃ cs', w.cells? 0 (a.add (i * n)) n = some cs' ∧ R w cs' x) len each
    refine ⟨l, some a, cap, by rw [hl], by omega, hcm, fun h => (by cases h), ⟨fun h => (by cases h), fun a' ha => ?_⟩⟩
    obtain rfl := Option.some.inj ha
    have hsp : l ≠ [] → a.spot = none := by
      intro hne
      obtain ⟨x, hx⟩ : ∃ x, l[0]? = some x := by cases l with | nil => exact absurd rfl hne | cons y ys => exact ⟨y, rfl⟩
      obtain ⟨cs', h1, _⟩ := hall 0 x hx
      obtain ⟨h2, h3⟩ := cells?_some h1
      have h4 := h3 0 (cs'[0]'(by omega)) (List.getElem?_eq_getElem (by omega))
      simp only [Nat.zero_mul, Addr.add, if_true, World.cell?] at h4
      split at h4
      · split at h4 <;> simp_all
      · cases h4
    refine ⟨hsp, fun i x hx => ?_⟩
    obtain ⟨cs', h1, h2⟩ := hall i x hx
    obtain ⟨h3, h4⟩ := cells?_some h1
    refine ⟨cs', h3, h2, fun j u hu => ?_⟩
    have hne : l ≠ [] := by rintro rfl; simp at hx
    obtain ⟨b, o, sp⟩ := a
    obtain rfl : sp = none := hsp hne
    have := h4 j u hu
    rw [addr_add, addr_add] at this
    exact this

theorem field_opens {t : TypeId} {fs : Array Field} {w : World} {fuel : Nat} {cs : List Value} {x : DataW H × List MemPlace} (ht : P.underlying t = some (.struct fs)) (h : DataW.trod enc P w 0 (fun _ => true) true fuel t cs = some x) :
    cs.length = P.cellsOf t ∧ ∀ (i : Nat) (f : Field) {α : Type} {R : Rdr α}, fs[i]? = some f → Opens P f.type R → ∃ a, R w ((cs.drop f.offset).take (P.cellsOf f.type)) a := by
  obtain ⟨xs, n, _, _, hl, hx, hall⟩ := DataW.trod_struct ht h
  refine ⟨hl, fun i f α R hf hR => ?_⟩
  have h1 := hall i f hf
  have hi : i < fs.size := (Array.getElem?_eq_some_iff.1 hf).1
  rw [List.getElem?_eq_getElem (by omega)] at h1
  exact hR enc w n _ _ h1

/-- A slice argument. -/
theorem open_slice_arg {t : TypeId} {n : Nat} {α : Type} {R : Rdr α} {W : World} {base : Nat} {v : Value} {d : DataW H} {p : List MemPlace} {e : TypeId} (ht : P.underlying t = some (.slice e)) (hv : Value.okWide P W .any base t v) (h : DataW.Trod enc P W 0 (fun _ => true) true t v d p) (hO : Opens P t (slR n R)) :
    ∃ (A : Option Addr) (c : Nat) (l : List α), v = .slice A l.length c ∧ l.length ≤ c ∧ c ≤ maxLen ∧ (A = none → c = 0) ∧ SlA n R W A l := by
  obtain ⟨a0, len, cap, rfl⟩ := okWide_slice ht hv
  obtain ⟨fuel, hf⟩ := h
  obtain ⟨l, A, c, h1, h2, h3, h4, h5⟩ := hO enc W fuel _ _ hf
  simp only [Value.cells, List.cons.injEq, Value.slice.injEq, and_true] at h1
  obtain ⟨rfl, rfl, rfl⟩ := h1
  exact ⟨_, _, l, rfl, h2, h3, h4, h5⟩
theorem open_slv_arg {t : TypeId} {n : Nat} {α : Type} {R : Rdr α} {W : World} {base : Nat} {v : Value} {d : DataW H} {p : List MemPlace} {e : TypeId} (ht : P.underlying t = some (.slice e)) (hv : Value.okWide P W .any base t v) (h : DataW.Trod enc P W 0 (fun _ => true) true t v d p) (hO : Opens P t (slR n R)) :
    ∃ l : List α, SlV n R W v l := by
  obtain ⟨A, c, l, rfl, h1, h2, h3, h4⟩ := open_slice_arg ht hv h hO
  exact ⟨l, A, _, c, rfl, rfl, h1, h2, h3, h4⟩
theorem opens_byte {t : TypeId} (ht : P.underlying t = some (.int .u8)) : Opens P t (flat encB) :=
  fun enc w fuel cs x h => by
    obtain ⟨n, h1, h2⟩ := opens_int ht enc w fuel cs x h
    have h3 : 0 ≤ n ∧ n ≤ 255 := by simpa [Lit.wf, IntKind.min, IntKind.max, IntKind.signed, IntKind.bits] using h2
    refine ⟨UInt8.ofNat n.toNat, ?_⟩
    subst h1
    unfold flat encB
    rw [UInt8.toNat_ofNat_of_lt' (by show _ < 256; omega), Int.toNat_of_nonneg h3.1]
theorem opens_i64 {t : TypeId} (ht : P.underlying t = some (.int .i64)) : Opens P t (flat encI) :=
  fun enc w fuel cs x h => by
    obtain ⟨n, h1, h2⟩ := opens_int ht enc w fuel cs x h
    exact ⟨n, h1⟩
end
end Go.Hf
