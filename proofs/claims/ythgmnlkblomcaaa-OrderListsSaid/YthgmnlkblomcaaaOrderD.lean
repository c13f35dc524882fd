/- The live question of layer 16; lists whose IDs rise by one. -/
import Derived.Test.YthgmnlkblomcaaaOrderC
namespace Go.Proofs.Ythgmnlkblomcaaa
open Go.RowKit Go.Hf

set_option maxRecDepth 100000 in
set_option maxHeartbeats 2000000 in
theorem law16_alive (w : World) : Calls Try.prog 32 #[] w fun e w' => e = .returned (.bool true) ∧ Fr w w' := by
  have f1 : Order.want [] 3 10 = ([⟨1, 3, 10, 0⟩], 1, 0) := by decide
  have f2 : Order.change [⟨1, 3, 10, 0⟩] 1 1 2 = ([⟨1, 3, 10, 0⟩], 8) := by decide
  have f3 : Order.change [⟨1, 3, 10, 0⟩] 1 0 1 = ([⟨1, 3, 10, 1⟩], 0) := by decide
  have f4 : Order.change [⟨1, 3, 10, 1⟩] 1 1 0 = ([⟨1, 3, 10, 0⟩], 0) := by decide
  have f5 : Order.change [⟨1, 3, 10, 1⟩] 1 1 2 = ([⟨1, 3, 10, 2⟩], 0) := by decide
  have f6 : Order.change [⟨1, 3, 10, 2⟩] 1 1 0 = ([⟨1, 3, 10, 2⟩], 8) := by decide
  have f7 : Order.want [⟨1, 3, 10, 2⟩] 0 1 = ([⟨1, 3, 10, 2⟩], 0, 1) := by decide
  have f8 : Order.get [⟨1, 3, 10, 2⟩] 1 = (⟨1, 3, 10, 2⟩, 0) := by decide
  have f9 : Order.change [⟨1, 3, 10, 2⟩] 2 1 2 = ([⟨1, 3, 10, 2⟩], 5) := by decide
  have he := eq_ord ⟨1, 3, 10, 2⟩ ⟨1, 3, 10, 2⟩
  go_enter Try.func32, Try.ntmps32
  go_wp2_with (first | (go_at_call 33; go_must (refine (order_New _).mono ?_; rintro _ w1 ⟨rfl, hb, hf⟩)) | (go_at_call 38; go_must (refine (order_Want _ _ _ _ _ _ _ hb).mono ?_; rintro _ w1 ⟨rfl, F, hb2, hc, _⟩; replace hf := hc.fr hf (fun k hk => (hb.lt k hk).1); replace hb := hb2; simp only [f1, f7] at hb ⊢; clear hc hb2)) | (go_at_call 37; go_must (refine (order_ship _ _ _ _ _ _ hb).mono ?_; rintro _ w1 ⟨rfl, F, hb2, hc, _⟩; replace hf := hc.fr hf (fun k hk => (hb.lt k hk).1); replace hb := hb2; simp only [f2, f5, f9] at hb ⊢; clear hc hb2)) | (go_at_call 34; go_must (refine (order_allocate _ _ _ _ _ _ hb).mono ?_; rintro _ w1 ⟨rfl, F, hb2, hc, _⟩; replace hf := hc.fr hf (fun k hk => (hb.lt k hk).1); replace hb := hb2; simp only [f3] at hb ⊢; clear hc hb2)) | (go_at_call 36; go_must (refine (order_free _ _ _ _ _ _ hb).mono ?_; rintro _ w1 ⟨rfl, F, hb2, hc, _⟩; replace hf := hc.fr hf (fun k hk => (hb.lt k hk).1); replace hb := hb2; simp only [f4, f6] at hb ⊢; clear hc hb2)) | (go_at_call 42; go_must (refine (order_Order _ _ _ _ _ _ hb).mono ?_; rintro _ w1 ⟨rfl, hf2⟩; replace hf := (hf.trans hf2).alloc (.cells #[.int .i64 1, .int .i64 3, .int .i64 10, .int .i64 2] 61); replace hb := hb.fr (hf2.alloc (.cells #[.int .i64 1, .int .i64 3, .int .i64 10, .int .i64 2] 61)); simp only [f8, aggO]; clear hf2)) | (go_at_call 41; go_must (refine (order_Orders _ _ _ _ _ hb (by decide)).mono ?_; rintro _ w1 ⟨v2, rfl, hv, hf2⟩; replace hf := hf.trans hf2; replace hb := hb.fr hf2; (obtain ⟨A2, m2, c2, rfl, hm2, _⟩ := hv.slv encO_len); (obtain rfl : m2 = 1 := hm2.symm); clear hf2 hv hm2)))
  go_ret
  exact ⟨rfl, hf⟩

set_option maxRecDepth 100000 in
theorem order_Want_nil (p u : Int) (w : World) :
    Calls Try.prog 38 #[.pointer none, .int .i64 p, .int .i64 u] w fun e w' => e = .returned (.tuple #[.int .i64 0, .int .i64 1]) ∧ w = w' := by
  go_enter Try.func38, Try.ntmps38
  go_wp2_with (go_at_call 98; go_must (refine (order_wanted _ _ _).mono ?_; rintro _ w1 ⟨rfl, rfl⟩))
  go_ret2
  exact ⟨rfl, rfl⟩

namespace Order
/-- IDs rise by one. -/
def WF (l : List Ord) : Prop := ∀ (i : Nat) (o : Ord), l[i]? = some o → o.id = (i : Int) + 1
theorem wf_nil : WF [] := fun i o h => by simp at h
theorem wf_want {l : List Ord} (h : WF l) (p u : Int) : WF (want l p u).1 := by
  unfold want
  split
  · exact h
  · split
    · exact h
    · intro i o ho
      rw [List.getElem?_append] at ho
      split at ho
      · exact h i o ho
      · rename_i hi
        have : i - l.length = 0 := by
          have := (List.getElem?_eq_some_iff.1 ho).1
          simp at this; omega
        rw [this] at ho
        simp at ho
        subst ho
        simp; omega
theorem get_eq {l : List Ord} (h : WF l) (id : Int) : refGet l id = get l id := by
  by_cases hid : id < 1 ∨ (l.length : Int) < id
  · unfold get
    rw [if_pos hid]
    apply find_none
    intro i o hi ho
    have := h i o ho
    simp; omega
  · obtain ⟨k, rfl⟩ : ∃ k : Nat, id = (k : Int) + 1 := ⟨id.toNat - 1, by omega⟩
    have hk : k < l.length := by omega
    rw [get_in l k hk]
    apply find_at l _ k hk
    · intro i o hi ho
      have := h i o ho
      simp; omega
    · have := h k _ (List.getElem?_eq_getElem hk)
      simp; omega
theorem change_eq {l : List Ord} (h : WF l) (id frm to_ : Int) : refChange l id frm to_ = change l id frm to_ := by
  unfold refChange change
  rw [get_eq h]
  split
  · rfl
  · rename_i h1
    split
    · rfl
    · rename_i h2
      have hid : ¬ (id < 1 ∨ (l.length : Int) < id) := fun e => h1 (by unfold get; rw [if_pos e]; simp)
      obtain ⟨k, rfl⟩ : ∃ k : Nat, id = (k : Int) + 1 := ⟨id.toNat - 1, by omega⟩
      have hk : k < l.length := by omega
      congr 1
      unfold setAt
      rw [show ((k : Int) + 1).toNat - 1 = k from by omega, List.getD_eq_getElem?_getD, List.getElem?_eq_getElem hk, Option.getD_some]
      apply List.ext_getElem?
      intro i
      rw [List.getElem?_map, List.getElem?_set]
      by_cases e : k = i
      · subst e
        have := h k _ (List.getElem?_eq_getElem hk)
        rw [if_pos rfl, if_pos hk, List.getElem?_eq_getElem hk, Option.map_some, if_pos this]
      · rw [if_neg e]
        cases ho : l[i]? with
        | none => rfl
        | some o =>
          have := h i o ho
          rw [Option.map_some, if_neg (by omega)]
theorem wf_change {l : List Ord} (h : WF l) (id frm to_ : Int) : WF (change l id frm to_).1 := by
  rw [← change_eq h]
  unfold refChange
  split
  · exact h
  · split
    · exact h
    · intro i o ho
      rw [List.getElem?_map] at ho
      cases hl : l[i]? with
      | none => rw [hl] at ho; simp at ho
      | some x =>
        rw [hl] at ho
        simp at ho
        have := h i x hl
        subst ho
        split <;> exact this
theorem len_change (l : List Ord) (id frm to_ : Int) : (change l id frm to_).1.length = l.length := by
  unfold change setAt
  split
  · rfl
  · split <;> simp
theorem len_want {l : List Ord} (h : l.length ≤ 64) (p u : Int) : (want l p u).1.length ≤ 64 := by
  unfold want
  split
  · exact h
  · split
    · exact h
    · simp; omega
end Order
end Go.Proofs.Ythgmnlkblomcaaa
