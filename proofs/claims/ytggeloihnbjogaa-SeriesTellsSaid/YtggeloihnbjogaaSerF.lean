
/- Readings (layer 6): any put; what comes in as arguments. -/
import Derived.Test.YtggeloihnbjogaaSerE
import Derived.Test.YtggeloihnbjogaaSerQ
import Derived.Test.YtggeloihnbjogaaOpen
namespace Go.Proofs.Ytggeloihnbjogaa
open Go.ChangeShapes Go.WideShapes Go.ChangeAt Go.RowKit Go.Hf

theorem series_PutAny (g : Nat) (a b : Int) (l : List Rd) (x : Rd) (hl : l.length ≤ 10000) (hr : ∀ y ∈ l, Ser.right y = true) (w0 w : World) (L R : List Asr) (I : St w0 w L) (hA : At (SerO g a b l) L R) :
    Calls Try.prog 14 #[.pointer (some ⟨g, 0, none⟩), aggR x] w fun e w' => ∃ (q : Bool) (n : Int), e = .returned (.tuple #[.bool q, .int .i64 n]) ∧ (n = if Ser.right x = true then 0 else 1) ∧ (q = if Ser.right x = true then (Ser.put l x).1 else false) ∧ St w0 w' (SerO g a b (Ser.step l x) :: R) := by
  cases hx : Ser.right x with
  | true =>
    refine (series_Put g a b l x hl (fun y hy => Ser.right_small (hr y hy)) hx w0 w L R I hA).mono ?_
    rintro _ w1 ⟨rfl, S⟩
    refine ⟨_, _, rfl, by simp, by simp, ?_⟩
    unfold Ser.step
    rw [if_pos hx]
    exact S
  | false =>
    refine (series_Put_no g x w hx).mono ?_
    rintro _ w1 ⟨rfl, hf⟩
    refine ⟨_, _, rfl, by simp, by simp, ?_⟩
    unfold Ser.step
    rw [if_neg (by simp [hx])]
    exact (I.take hA).still hf
section
variable {H : Type} {enc : TypeId × Value → H} {W : World} {base : Nat} {v : Value} {d : DataW H} {p : List MemPlace}
set_option maxRecDepth 100000 in
theorem open_two (hv : Value.okWide Try.prog W .any base 22 v) (hd : DataW.Trod enc Try.prog W 0 (fun _ => true) true 22 v d p) : ∃ a b : Int, v = .agg #[.int .i64 a, .int .i64 b] := by
  obtain ⟨cs, rfl, h⟩ := open_flat_arg (ks := [.int .i64, .int .i64]) (by kernel_rfl) hv hd
  obtain ⟨v0, r0, e0, ⟨a, rfl, _⟩, h0⟩ := h.cons
  obtain ⟨v1, r1, e1, ⟨b, rfl, _⟩, h1⟩ := h0.cons
  obtain rfl := h1.nil
  subst e1
  exact ⟨a, b, by cases cs; simp_all⟩
set_option maxRecDepth 100000 in
theorem open_u32s (hv : Value.okWide Try.prog W .any base 78 v) (hd : DataW.Trod enc Try.prog W 0 (fun _ => true) true 78 v d p) : ∃ a b : Nat, v = .agg #[.int .u32 a, .int .u32 b] ∧ a < 4294967296 ∧ b < 4294967296 := by
  obtain ⟨cs, rfl, h⟩ := open_flat_arg (ks := [.int .u32, .int .u32]) (by kernel_rfl) hv hd
  obtain ⟨v0, r0, e0, ⟨a, rfl, wa⟩, h0⟩ := h.cons
  obtain ⟨v1, r1, e1, ⟨b, rfl, wb⟩, h1⟩ := h0.cons
  obtain rfl := h1.nil
  subst e1
  have ha : 0 ≤ a ∧ a ≤ 4294967295 := by simpa [Lit.wf, IntKind.min, IntKind.max, IntKind.signed, IntKind.bits] using wa
  have hb : 0 ≤ b ∧ b ≤ 4294967295 := by simpa [Lit.wf, IntKind.min, IntKind.max, IntKind.signed, IntKind.bits] using wb
  obtain ⟨a', rfl⟩ : ∃ a' : Nat, a = (a' : Int) := ⟨a.toNat, by omega⟩
  obtain ⟨b', rfl⟩ : ∃ b' : Nat, b = (b' : Int) := ⟨b.toNat, by omega⟩
  exact ⟨a', b', by cases cs; simp_all, by omega, by omega⟩
end
set_option maxRecDepth 100000 in
theorem opens_rd : Opens Try.prog 36 (flat encR) := fun enc w fuel cs x h => by
  obtain ⟨_, h⟩ := opens_flat (ks := [.int .i64, .int .i64, .int .i64]) (by kernel_rfl) enc w fuel cs x h
  obtain ⟨v0, r0, e0, ⟨a, rfl, _⟩, h0⟩ := h.cons
  obtain ⟨v1, r1, e1, ⟨b, rfl, _⟩, h1⟩ := h0.cons
  obtain ⟨v2, r2, e2, ⟨c, rfl, _⟩, h2⟩ := h1.cons
  obtain rfl := h2.nil
  subst e2 e1
  exact ⟨⟨a, b, c⟩, by rw [e0]; rfl⟩
set_option maxRecDepth 100000 in
theorem opens_rds : Opens Try.prog 23 (slR 3 (flat encR)) := opens_slice Try.underlying23 (by kernel_rfl) (by omega) opens_rd
end Go.Proofs.Ytggeloihnbjogaa
