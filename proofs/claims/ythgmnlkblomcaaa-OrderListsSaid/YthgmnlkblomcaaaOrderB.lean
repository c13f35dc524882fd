/- Contracts of package order and of its reference, more. -/
import Derived.Test.YthgmnlkblomcaaaOrder
namespace Go.Proofs.Ythgmnlkblomcaaa
open Go.RowKit Go.Hf

/-! ### Lists that may be a book's -/
namespace Order
def okAt (i : Nat) (o : Ord) : Prop := o.id = (i : Int) + 1 ∧ wanted o.product o.units = true ∧ 0 ≤ o.state ∧ o.state ≤ 2
def Upto (l : List Ord) (k : Nat) : Prop := ∀ i o, i < k → l[i]? = some o → okAt i o
def Right (l : List Ord) : Prop := l.length ≤ 64 ∧ Upto l l.length
noncomputable instance (l : List Ord) : Decidable (Right l) := Classical.propDecidable _
theorem upto_step (l : List Ord) (k : Nat) (hk : k < l.length) (h : Upto l k) (ho : okAt k l[k]) : Upto l (k + 1) := by
  intro i o hi hl
  by_cases e : i = k
  · subst e
    rw [List.getElem?_eq_getElem hk] at hl
    obtain rfl := Option.some.inj hl
    exact ho
  · exact h i o (by omega) hl
theorem not_right (l : List Ord) (k : Nat) (hk : k < l.length) (ho : ¬ okAt k l[k]) : ¬ Right l := fun h => ho (h.2 k _ hk (List.getElem?_eq_getElem hk))
theorem not_ok (i : Nat) (o : Ord) : okAt i o ∨ (o.id ≠ (i : Int) + 1) ∨ (o.id = (i : Int) + 1 ∧ wanted o.product o.units = false) ∨ (o.id = (i : Int) + 1 ∧ wanted o.product o.units = true ∧ o.state < 0) ∨ (o.id = (i : Int) + 1 ∧ wanted o.product o.units = true ∧ 0 ≤ o.state ∧ 2 < o.state) := by
  unfold okAt
  cases wanted o.product o.units <;> simp <;> omega
theorem ref_ok (i : Nat) (x : Ord) : okAt i x ↔ (x.id = (i : Int) + 1 ∧ 1 ≤ x.product ∧ x.product ≤ 16 ∧ 1 ≤ x.units ∧ x.units ≤ 1048576 ∧ 0 ≤ x.state ∧ x.state ≤ 2) := by
  unfold okAt wanted; simp; omega
end Order
theorem atO {w : World} {A : Option Addr} {l : List Ord} (h : SlA 4 (flat encO) w A l) (k : Nat) (hk : k < l.length) : ∃ b o, A = some ⟨b, o, none⟩ ∧ b < w.heap.size ∧ w.cell? ⟨b, o + k * 4, none⟩ = some (.int .i64 l[k].id) ∧ w.cell? ⟨b, o + k * 4 + 1, none⟩ = some (.int .i64 l[k].product) ∧ w.cell? ⟨b, o + k * 4 + 2, none⟩ = some (.int .i64 l[k].units) ∧ w.cell? ⟨b, o + k * 4 + 3, none⟩ = some (.int .i64 l[k].state) := by
  obtain ⟨b, o, rfl, cs, _, rfl, hcs⟩ := h.at_ k hk
  exact ⟨b, o, rfl, World.block_lt_of_cell? w _ (hcs 0 _ rfl), hcs 0 _ rfl, hcs 1 _ rfl, hcs 2 _ rfl, hcs 3 _ rfl⟩

set_option maxRecDepth 100000 in
set_option maxHeartbeats 2000000 in
theorem order_Right (v : Value) (l : List Ord) (w : World) (h : Orders w v l) :
    Calls Try.prog 46 #[v] w fun e w' => e = .returned (.bool (decide (Order.Right l))) ∧ Fr w w' := by
  have hm := h.len_le
  unfold maxLen at hm
  obtain ⟨A, _, c, rfl, rfl, _, _, _, hs⟩ := h
  have HS := Lib.hid hs
  clear hs
  go_enter Try.func46, Try.ntmps46
  go_wp2_with fail
  go_loopw [7] (fun i wr => ∃ k : Nat, i = .int .i64 k ∧ k ≤ l.length ∧ Hid (Order.Upto l k) ∧ Fr w wr) (fun i _ => l.length - (intOf i).toNat)
  case atStart => exact ⟨0, rfl, by omega, fun i o h => by omega, Fr.refl _⟩
  case round =>
    obtain ⟨k, rfl, hk, hu, hf⟩ := hrel
    by_cases hlt : k < l.length
    · obtain ⟨b, o, rfl, hbl, hc0, hc1, hc2, hc3⟩ := atO (HS.out.fr (flat_stays _) hf) k hlt
      have HN := Lib.hid (fun h => decide_eq_false (Order.not_right l k hlt h))
      have HY := Lib.hid (Order.upto_step l k hlt hu.out)
      rcases Order.not_ok k l[k] with ho | ho
      · replace HY := Lib.hid (HY.out ho)
        obtain ⟨o1, o2, o3, o4⟩ := ho
        generalize l[k] = x at *
        have o1' : (x.id != (k : Int) + 1) = false := by simp [o1]
        have o3' : ¬ x.state < 0 := by omega
        have o4' : ¬ 2 < x.state := by omega
        have HW := Lib.hid o2
        clear o1 o2
        go_wp2_with (go_at_call 98; go_must (refine (order_wanted _ _ _).mono ?_; rintro _ w1 ⟨rfl, rfl⟩; rw [HW.out]))
        go_roundw
        case rel => exact ⟨k + 1, by go_num, by omega, HY, hf.alloc _⟩
        case measure => simp [intOf]; omega
      · have hno : ¬ Order.okAt k l[k] := by
          unfold Order.okAt
          rcases ho with h | h | h | h
          · exact fun e => h e.1
          · exact fun e => by rw [h.2] at e; cases e.2.1
          · exact fun e => by have := e.2.2.1; omega
          · exact fun e => by have := e.2.2.2; omega
        replace HN := Lib.hid (HN.out hno)
        clear HY hno
        generalize l[k] = x at *
        rcases ho with h | ⟨h1, h2⟩ | ⟨h1, h2, h3⟩ | ⟨h1, h2, h3, h4⟩
        · have h' : (x.id != (k : Int) + 1) = true := by simpa using h
          clear h
          go_wp2_with (go_at_call 98; go_must (refine (order_wanted _ _ _).mono ?_; rintro _ w1 ⟨rfl, rfl⟩))
          go_ret
          exact ⟨by rw [HN.out]; rfl, hf.alloc _⟩
        · have h' : (x.id != (k : Int) + 1) = false := by simp [h1]
          have HW := Lib.hid h2
          clear h1 h2
          go_wp2_with (go_at_call 98; go_must (refine (order_wanted _ _ _).mono ?_; rintro _ w1 ⟨rfl, rfl⟩; rw [HW.out]))
          go_ret
          exact ⟨by rw [HN.out]; rfl, hf.alloc _⟩
        · have h' : (x.id != (k : Int) + 1) = false := by simp [h1]
          have HW := Lib.hid h2
          clear h1 h2
          go_wp2_with (go_at_call 98; go_must (refine (order_wanted _ _ _).mono ?_; rintro _ w1 ⟨rfl, rfl⟩; rw [HW.out]))
          go_ret
          exact ⟨by rw [HN.out]; rfl, hf.alloc _⟩
        · have h' : (x.id != (k : Int) + 1) = false := by simp [h1]
          have HW := Lib.hid h2
          clear h1 h2
          go_wp2_with (go_at_call 98; go_must (refine (order_wanted _ _ _).mono ?_; rintro _ w1 ⟨rfl, rfl⟩; rw [HW.out]))
          go_ret
          exact ⟨by rw [HN.out]; rfl, hf.alloc _⟩
    · obtain rfl : k = l.length := by omega
      have HE : Hid (decide (Order.Right l) = decide ((l.length : Int) ≤ 64)) := by
        unfold Hid; rw [decide_eq_decide]
        exact ⟨fun h => by have := h.1; omega, fun h => ⟨by omega, hu.out⟩⟩
      go_wp2_with fail
      go_ret
      exact ⟨by rw [HE.out]; rfl, hf⟩

set_option maxRecDepth 100000 in
theorem order_Of (v : Value) (l : List Ord) (w : World) (h : Orders w v l) (hl : l.length ≤ 1000) :
    Calls Try.prog 45 #[v] w fun e w' => (Order.Right l → ∃ g, e = .returned (.tuple #[.pointer (some ⟨g, 0, none⟩), .int .i64 0]) ∧ ∃ F, BookO w.heap.size w' g l F) ∧ (¬ Order.Right l → e = .returned (.tuple #[.pointer none, .int .i64 1])) ∧ Fr w w' := by
  have HV := Lib.hid h
  clear h
  by_cases hr : Order.Right l
  · have HR := Lib.hid (decide_eq_true hr)
    go_enter Try.func45, Try.ntmps45
    go_wp2_with (first | (go_at_call 46; go_must (refine (order_Right _ l _ HV.out).mono ?_; rintro _ w1 ⟨rfl, hf⟩; rw [HR.out])) | (go_at_call 99; go_must (refine (clone_orders _ l _ (HV.out.frF hf) (by omega)).mono ?_; rintro _ w1 ⟨v', rfl, hv, hf2, _⟩; (obtain ⟨A2, m2, c2, rfl, _⟩ := hv.slv encO_len))))
    go_ret2
    refine ⟨fun _ => ⟨_, rfl, _, ⟨.slice A2 m2 c2, heap_alloc_new _ _, (hv.lower hf.size).fr ((Fr.refl _).alloc _), (hf.trans hf2).size, fun e => ?_, fun k => Iff.rfl⟩⟩, fun h => absurd hr h, (hf.trans hf2).alloc _⟩
    have := (hv.lt _ e).2
    omega
  · have HR := Lib.hid (decide_eq_false hr)
    go_enter Try.func45, Try.ntmps45
    go_wp2_with (go_at_call 46; go_must (refine (order_Right _ l _ HV.out).mono ?_; rintro _ w1 ⟨rfl, hf⟩; rw [HR.out]))
    go_ret2
    exact ⟨fun h => absurd h hr, fun _ => rfl, hf⟩

/-! ### The reference -/
set_option maxRecDepth 100000 in
set_option maxHeartbeats 2000000 in
theorem ref16_Right (v : Value) (l : List Ord) (w : World) (h : Orders w v l) :
    Calls Try.prog 44 #[v] w fun e w' => e = .returned (.bool (decide (Order.Right l))) ∧ Fr w w' := by
  have hm := h.len_le
  unfold maxLen at hm
  obtain ⟨A, _, c, rfl, rfl, _, _, _, hs⟩ := h
  have HS := Lib.hid hs
  clear hs
  by_cases h64 : 64 < l.length
  · have HE := Lib.hid (decide_eq_false (show ¬ Order.Right l from fun h => by have := h.1; omega))
    rw [HE.out]
    go_enter Try.func44, Try.ntmps44
    go_wp2_with fail
    go_ret
    exact ⟨rfl, Fr.refl _⟩
  go_enter Try.func44, Try.ntmps44
  go_wp2_with fail
  go_loopw [3] (fun i wr => ∃ k : Nat, i = .int .i64 k ∧ k ≤ l.length ∧ Hid (Order.Upto l k) ∧ Fr w wr) (fun i _ => l.length - (intOf i).toNat)
  case atStart => exact ⟨0, rfl, by omega, fun i o h => by omega, Fr.refl _⟩
  case round =>
    obtain ⟨k, rfl, hk, hu, hf⟩ := hrel
    by_cases hlt : k < l.length
    · obtain ⟨b, o, rfl, hbl, hc0, hc1, hc2, hc3⟩ := atO (HS.out.fr (flat_stays _) hf) k hlt
      have HN := Lib.hid (fun h => decide_eq_false (Order.not_right l k hlt h))
      have HY := Lib.hid (Order.upto_step l k hlt hu.out)
      have HC := Lib.hid (Order.ref_ok k l[k])
      generalize l[k] = x at *
      by_cases h1 : x.id = (k : Int) + 1 ∧ 1 ≤ x.product ∧ x.product ≤ 16 ∧ 1 ≤ x.units ∧ x.units ≤ 1048576 ∧ 0 ≤ x.state ∧ x.state ≤ 2
      · replace HY := Lib.hid (HY.out (HC.out.2 h1))
        obtain ⟨o1, o2, o3, o4, o5, o6, o7⟩ := h1
        have o1' : (x.id != (k : Int) + 1) = false := by simp [o1]
        clear o1
        go_wp2_with fail
        go_roundw
        case rel => exact ⟨k + 1, by go_num, by omega, HY, hf.alloc _⟩
        case measure => simp [intOf]; omega
      · replace HN := Lib.hid (HN.out (fun h => h1 (HC.out.1 h)))
        clear HY
        by_cases o1 : x.id = (k : Int) + 1
        · have o1' : (x.id != (k : Int) + 1) = false := by simp [o1]
          have hno : x.product < 1 ∨ ¬ x.product < 1 ∧ 16 < x.product ∨ ¬ x.product < 1 ∧ ¬ 16 < x.product ∧ x.units < 1 ∨ ¬ x.product < 1 ∧ ¬ 16 < x.product ∧ ¬ x.units < 1 ∧ 1048576 < x.units ∨ ¬ x.product < 1 ∧ ¬ 16 < x.product ∧ ¬ x.units < 1 ∧ ¬ 1048576 < x.units ∧ x.state < 0 ∨ ¬ x.product < 1 ∧ ¬ 16 < x.product ∧ ¬ x.units < 1 ∧ ¬ 1048576 < x.units ∧ ¬ x.state < 0 ∧ 2 < x.state := by omega
          clear h1 o1
          rcases hno with h | ⟨h1, h⟩ | ⟨h1, h2, h⟩ | ⟨h1, h2, h3, h⟩ | ⟨h1, h2, h3, h4, h⟩ | ⟨h1, h2, h3, h4, h5, h⟩
          all_goals
            go_wp2_with fail
            go_ret
            exact ⟨by rw [HN.out]; rfl, hf.alloc _⟩
        · have o1' : (x.id != (k : Int) + 1) = true := by simpa using o1
          clear h1 o1
          go_wp2_with fail
          go_ret
          exact ⟨by rw [HN.out]; rfl, hf.alloc _⟩
    · obtain rfl : k = l.length := by omega
      have HE := Lib.hid (decide_eq_true (show Order.Right l from ⟨by omega, hu.out⟩))
      go_wp2_with fail
      go_ret
      exact ⟨by rw [HE.out]; rfl, hf⟩
end Go.Proofs.Ythgmnlkblomcaaa
