
/- Readings (layer 6): contracts as the law SeriesTells wants them. -/
import Derived.Test.YtggeloihnbjogaaSerF
import Derived.Test.YtggeloihnbjogaaSerW
import Derived.Test.YtggeloihnbjogaaSerG
import Derived.Test.YtggeloihnbjogaaSerH
namespace Go.Proofs.Ytggeloihnbjogaa
open Go.RowKit Go.Hf
namespace Ser
theorem put_length {l s L : List Rd} (h : RepU l L) (h' : Rep s L) (he : l.length = s.length) (r : Rd) : (rput l r).2.length = (put s r).2.length := by
  have hm := h.mem h'
  have hno : ∀ i, i ≤ s.length → (∀ j (hj : j < s.length), j < i → lt s[j] r) → (∀ j (hj : j < s.length), i ≤ j → lt r s[j]) → ∀ x ∈ s, key x ≠ key r := by
    intro i _ h1 h2 x hx
    obtain ⟨j, hj, rfl⟩ := List.mem_iff_getElem.1 hx
    by_cases c : j < i
    · exact lt_key (h1 j hj c)
    · exact fun e => lt_key (h2 j hj (by omega)) e.symm
  rcases rput_spec r l with ⟨j, hj, hk, he1⟩ | ⟨h1, he1⟩ <;> rcases put_spec s r h'.sorted with ⟨i, hi, ik, ie⟩ | ⟨i, hi, i1, i2, ie⟩
  · rw [he1, ie]; simp [he]
  · exact absurd hk (hno i hi i1 i2 _ ((hm _).1 (List.getElem_mem hj)))
  · exact absurd ik (h1 _ ((hm _).2 (List.getElem_mem hi)))
  · rw [he1, ie]; simp; omega
theorem step_length {l s L : List Rd} (h : RepU l L) (h' : Rep s L) (he : l.length = s.length) (r : Rd) : (rstep l r).length = (step s r).length := by
  unfold rstep step
  split
  · exact put_length h h' he r
  · exact he
def lit : Rd := ⟨7, 65535, 1099511627776⟩
theorem lit_right : right lit = true := by decide
theorem lit_air {s L : List Rd} (h : Rep s L) (a b : Int) (hb : 0 ≤ b) : air (step s lit) a b 7 = 1099511627776 := by
  have h2 := h.step lit
  obtain ⟨x, hx, x1, x2⟩ := h2.has lit (List.mem_append_right _ (List.mem_singleton.2 rfl)) lit_right
  obtain ⟨hr, _⟩ := h2.of x hx
  have hxt : x.t ≤ 1099511627776 := by
    unfold right tenth at hr
    simp only [Bool.and_eq_true, decide_eq_true_eq] at hr
    omega
  obtain ⟨k1, k2⟩ := (key_iff _ _).1 x1
  change x.m = 7 at k1
  change x.s = 65535 at k2
  change (1099511627776 : Int) ≤ x.t at x2
  have hla := last_ref_some h2.sorted (fun _ => Iff.rfl) b 7 x hx (by omega) (fun y hy hym e => by
    obtain ⟨hyr, _⟩ := h2.of y hy
    have := right_small' hyr
    unfold lt at e
    omega)
  unfold air
  rw [hla, if_neg (by omega)]
  show x.t = _
  omega
end Ser
theorem put_tell (g : Nat) (a b : Int) (l : List Rd) (x : Rd) (q : Bool) (n : Int) (hq : (if Ser.right x = true then (Ser.put l x).1 else false) = q) (hn : (if Ser.right x = true then (0 : Int) else 1) = n) (hl : l.length ≤ 10000) (hr : ∀ y ∈ l, Ser.right y = true) (w0 w : World) (L R : List Asr) (I : St w0 w L) (hA : At (SerO g a b l) L R) :
    Calls Try.prog 14 #[.pointer (some ⟨g, 0, none⟩), .agg (encR x).toArray] w fun e w' => e = .returned (.tuple #[.bool q, .int .i64 n]) ∧ St w0 w' (SerO g a b (Ser.step l x) :: R) := by
  refine (series_PutAny g a b l x hl hr w0 w L R I hA).mono ?_
  rintro _ w1 ⟨q', n', rfl, h1, h2, S⟩
  exact ⟨by rw [h1, h2, hq, hn], S⟩
theorem rput_tell (g : Nat) (a b : Int) (l : List Rd) (x : Rd) (q : Bool) (n : Int) (hq : (if Ser.right x = true then (Ser.rput l x).1 else false) = q) (hn : (if Ser.right x = true then (0 : Int) else 1) = n) (hl : l.length ≤ 10000) (w0 w : World) (L R : List Asr) (I : St w0 w L) (hA : At (RefO g a b l) L R) :
    Calls Try.prog 15 #[.pointer (some ⟨g, 0, none⟩), .agg (encR x).toArray] w fun e w' => e = .returned (.tuple #[.bool q, .int .i64 n]) ∧ St w0 w' (RefO g a b (Ser.rstep l x) :: R) := by
  cases hx : Ser.right x with
  | true =>
    rw [if_pos hx] at hq hn
    refine (ref06_Put g a b l x hx hl w0 w L R I hA).mono ?_
    rintro _ w1 ⟨rfl, S⟩
    refine ⟨by rw [hq, hn], ?_⟩
    unfold Ser.rstep
    rw [if_pos hx]
    exact S
  | false =>
    rw [if_neg (by simp [hx])] at hq hn
    refine (ref06_Put_no g x w hx).mono ?_
    rintro _ w1 ⟨rfl, hf⟩
    refine ⟨by rw [← hq, ← hn], ?_⟩
    unfold Ser.rstep
    rw [if_neg (by simp [hx])]
    exact (I.take hA).still hf
theorem put_lit (g : Nat) (a b : Int) (l : List Rd) (hl : l.length ≤ 10000) (hr : ∀ y ∈ l, Ser.right y = true) (w0 w : World) (L R : List Asr) (I : St w0 w L) (hA : At (SerO g a b l) L R) :
    Calls Try.prog 14 #[.pointer (some ⟨g, 0, none⟩), .agg #[.int .i64 7, .int .i64 65535, .int .i64 1099511627776]] w fun e w' => ∃ (q : Bool) (n : Int), e = .returned (.tuple #[.bool q, .int .i64 n]) ∧ St w0 w' (SerO g a b (Ser.step l Ser.lit) :: R) := by
  refine (series_PutAny g a b l Ser.lit hl hr w0 w L R I hA).mono ?_
  rintro _ w1 ⟨q', n', rfl, _, _, S⟩
  exact ⟨q', n', rfl, S⟩
theorem put_none (w : World) : Calls Try.prog 14 #[.pointer none, .agg #[.int .i64 0, .int .i64 0, .int .i64 0]] w fun e w' => e = .returned (.tuple #[.bool false, .int .i64 1]) ∧ Fr w w' := series_Put_nil Ser.zero w
theorem at_val (g : Nat) (a b : Int) (l : List Rd) (m air : Int) (hair : Ser.air l a b m = air) (hsr : Ser.Sorted l) (hsm : ∀ y ∈ l, Ser.right y = true) (hm : -9223372036854775808 ≤ m ∧ m ≤ 9223372036854775807) (hl : l.length ≤ 10000) (w0 : World) (hs : SerIs w0 g a b l) :
    Calls Try.prog 20 #[.pointer (some ⟨g, 0, none⟩), .int .i64 m] w0 fun e w' => e = .returned (.int .i64 air) ∧ Fr w0 w' := by
  rw [← hair]; exact series_At g a b l m hsr (fun y hy => Ser.right_small (hsm y hy)) hm hl w0 hs
theorem next_val (g : Nat) (a b : Int) (l : List Rd) (m nx : Int) (hnx : Ser.next l b m = nx) (hsr : Ser.Sorted l) (hsm : ∀ y ∈ l, Ser.right y = true) (hb : 0 ≤ b ∧ b < 1048576) (hm : -9223372036854775808 ≤ m ∧ m ≤ 9223372036854775807) (hl : l.length ≤ 10000) (w0 : World) (hs : SerIs w0 g a b l) :
    Calls Try.prog 22 #[.pointer (some ⟨g, 0, none⟩), .int .i64 m] w0 fun e w' => e = .returned (.int .i64 nx) ∧ Fr w0 w' := by
  rw [← hnx]; exact series_Next g a b l m hsr (fun y hy => Ser.right_small (hsm y hy)) hb hm hl w0 hs
theorem rat_val (g : Nat) (a b : Int) (l s : List Rd) (m air : Int) (hair : Ser.air s a b m = air) (hsr : Ser.Sorted s) (hmem : ∀ x, x ∈ l ↔ x ∈ s) (hsm : ∀ y ∈ s, Ser.right y = true) (hm : -9223372036854775808 ≤ m ∧ m ≤ 9223372036854775807) (hl : l.length ≤ 10000) (w0 : World) (hs : SerIs w0 g a b l) :
    Calls Try.prog 21 #[.pointer (some ⟨g, 0, none⟩), .int .i64 m] w0 fun e w' => e = .returned (.int .i64 air) ∧ Fr w0 w' := by
  rw [← hair]; exact ref06_At g a b l s m hsr hmem (fun y hy => Ser.right_small (hsm y ((hmem y).1 hy))) hm hl w0 hs
theorem rnext_val (g : Nat) (a b : Int) (l s : List Rd) (m nx : Int) (hnx : Ser.next s b m = nx) (hsr : Ser.Sorted s) (hmem : ∀ x, x ∈ l ↔ x ∈ s) (hsm : ∀ y ∈ s, Ser.right y = true) (hb : 0 ≤ b ∧ b < 1048576) (hm : -9223372036854775808 ≤ m ∧ m ≤ 9223372036854775807) (hl : l.length ≤ 10000) (w0 : World) (hs : SerIs w0 g a b l) :
    Calls Try.prog 23 #[.pointer (some ⟨g, 0, none⟩), .int .i64 m] w0 fun e w' => e = .returned (.int .i64 nx) ∧ Fr w0 w' := by
  rw [← hnx]; exact ref06_Next g a b l s m hsr hmem (fun y hy => Ser.right_small (hsm y ((hmem y).1 hy))) hb hm hl w0 hs
end Go.Proofs.Ytggeloihnbjogaa
