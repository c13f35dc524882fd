/- Contracts of package order and of its reference. -/
import Derived.Test.YthgmnlkblomcaaaRows
import Derived.Test.YthgmnlkblomcaaaLib
namespace Go.Proofs.Ythgmnlkblomcaaa
open Go.RowKit Go.Hf

/-- An order. -/
structure Ord where
  id : Int
  product : Int
  units : Int
  state : Int
  deriving DecidableEq
def encO (o : Ord) : List Value := [.int .i64 o.id, .int .i64 o.product, .int .i64 o.units, .int .i64 o.state]
theorem encO_len (o : Ord) : (encO o).length = 4 := rfl
theorem encO_one (o : Ord) : ∀ u ∈ encO o, u.oneCell' = true := by intro u hu; simp [encO] at hu; rcases hu with rfl | rfl | rfl | rfl <;> rfl
abbrev aggO (o : Ord) : Value := .agg #[.int .i64 o.id, .int .i64 o.product, .int .i64 o.units, .int .i64 o.state]
abbrev BookO (B : Nat) (w : World) (g : Nat) (l : List Ord) (F : Nat → Prop) : Prop := Box1 121 B 61 4 encO w g l F
abbrev Orders (w : World) (v : Value) (l : List Ord) : Prop := SlV 4 (flat encO) w v l

namespace Order
def wanted (p u : Int) : Bool := decide (1 ≤ p ∧ p ≤ 16 ∧ 1 ≤ u ∧ u ≤ 1048576)
def zero : Ord := ⟨0, 0, 0, 0⟩
/-- Orders with one more; its ID; the error. -/
def want (l : List Ord) (p u : Int) : List Ord × Int × Int :=
  if wanted p u = false then (l, 0, 1) else if 64 ≤ l.length then (l, 0, 4) else (l ++ [⟨(l.length : Int) + 1, p, u, 0⟩], (l.length : Int) + 1, 0)
/-- The one at a place. -/
def get (l : List Ord) (id : Int) : Ord × Int := if id < 1 ∨ (l.length : Int) < id then (zero, 5) else (l.getD (id.toNat - 1) zero, 0)
def setAt (l : List Ord) (id to_ : Int) : List Ord := l.set (id.toNat - 1) { (l.getD (id.toNat - 1) zero) with state := to_ }
def change (l : List Ord) (id frm to_ : Int) : List Ord × Int :=
  if (get l id).2 ≠ 0 then (l, (get l id).2) else if (get l id).1.state ≠ frm then (l, 8) else (setAt l id to_, 0)
end Order

set_option maxRecDepth 100000 in
set_option maxHeartbeats 400000 in
theorem clone_orders (v : Value) (l : List Ord) (w : World) (h : SlV 4 (flat encO) w v l) (hm : l.length * 32 ≤ 140737488355328) :
    Calls Try.prog 99 #[v] w fun e w' => ∃ v', e = .returned v' ∧ Own w.heap.size 61 4 encO w' v' l ∧ Fr w w' ∧ (v' = .slice none 0 0 ↔ v = .slice none 0 0) := by
  obtain ⟨A, _, c, rfl, rfl, hl, _, hA, h⟩ := h
  have HS := Lib.hid h
  have HC := Lib.hid hl
  have HAc := Lib.hid hA
  have HM := Lib.hid hm
  clear h hl hA hm
  cases A with
  | none =>
    obtain rfl : l = [] := HS.out.1 rfl
    obtain rfl : c = 0 := HAc.out rfl
    have hq := fun wx => Lib.run_eql_slice_nil (P := Try.prog) wx 48 61 none 0 0 0 0 Try.underlying48
    go_enter Try.func99, Try.ntmps99
    go_wp2
    go_ret
    exact ⟨_, rfl, Own.nil _ _ _ _ _, Fr.refl _, by simp⟩
  | some a =>
    have hq := fun wx => Lib.run_eql_slice_nil (P := Try.prog) wx 48 61 (some a) l.length c 0 0 Try.underlying48
    go_enter Try.func99, Try.ntmps99
    go_wp2_with ((with_reducible refine gate (.call { callee := .builtin .append, args := #[.tmp 5, .tmp 6], argTypes := #[48, 48] }) rfl ?_); refine wpList_app rfl (.tmp 5) (.tmp 6) 48 rfl w.heap.size 61 (.agg #[.int .i64 0, .int .i64 0, .int .i64 0, .int .i64 0]) 4 32 Try.underlying48 (by kernel_rfl) rfl (by decide) encO_len encO_one (l := []) rfl (Own.lit _ _ _ _ w #[] [] (Nat.le_refl _) (Nat.zero_le _) encO_len rfl) rfl HC.out ((HS.out.fr (flat_stays _) ((Fr.refl w).alloc _)).raw encO_len (by decide)) (fun h => (by cases h)) ?_ ?_ ?_ ?_)
    · have := HM.out; simp; omega
    · have := HM.out; simp [maxLen]; omega
    · simp
    · intro v' w1 h1 h2 h3 _
      have H3 := Lib.hid h3
      clear h3
      go_wp2
      go_ret
      refine ⟨_, rfl, h1, Fr.grown ((Fr.refl w).alloc _) h2 (fun k hk => ?_), ?_⟩
      · simp [Value.ownBlock] at hk; omega
      · simpa using H3.out

theorem order_wanted (p u : Int) (w : World) :
    Calls Try.prog 98 #[.int .i64 p, .int .i64 u] w fun e w' => e = .returned (.bool (Order.wanted p u)) ∧ w = w' := by
  unfold Order.wanted
  go_enter Try.func98, Try.ntmps98
  go_wp2
  all_goals (go_ret; refine ⟨?_, rfl⟩)
  all_goals first | (simp [*]; done) | (simp; omega) | (rw [Bool.eq_iff_iff]; simp; omega)

theorem order_New (w : World) :
    Calls Try.prog 33 #[] w fun e w' => e = .returned (.pointer (some ⟨w.heap.size, 0, none⟩)) ∧ BookO w.heap.size w' w.heap.size [] (fun k => k = w.heap.size) ∧ Fr w w' := by
  go_enter Try.func33, Try.ntmps33
  go_wp2
  go_ret
  exact ⟨rfl, ⟨.slice none 0 0, heap_alloc_new w _, Own.nil _ _ _ _ _, Nat.le_refl _, by simp [Value.ownBlock], fun k => by simp [Value.ownBlock]⟩, (Fr.refl _).alloc _⟩

set_option maxRecDepth 100000 in
set_option maxHeartbeats 1000000 in
theorem order_Want (B g : Nat) (l : List Ord) (F : Nat → Prop) (p u : Int) (w : World) (h : BookO B w g l F) :
    Calls Try.prog 38 #[.pointer (some ⟨g, 0, none⟩), .int .i64 p, .int .i64 u] w fun e w' => e = .returned (.tuple #[.int .i64 (Order.want l p u).2.1, .int .i64 (Order.want l p u).2.2]) ∧
      ∃ F', BookO B w' g (Order.want l p u).1 F' ∧ Chg F w w' ∧ ∀ k, F' k → F k ∨ w.heap.size ≤ k := by
  have hB := Lib.hid h
  unfold Order.want
  by_cases hw : Order.wanted p u = false
  · rw [if_pos hw]
    go_enter Try.func38, Try.ntmps38
    go_wp2_with (go_at_call 98; go_must (refine (order_wanted _ _ _).mono ?_; rintro _ w1 ⟨rfl, rfl⟩))
    go_ret2
    exact ⟨rfl, F, hB.out, Chg.refl _ _, fun k hk => .inl hk⟩
  · rw [if_neg hw]
    replace hw : Order.wanted p u = true := by simpa using hw
    obtain ⟨v, h1, h2, h3, h4, h5⟩ := h
    obtain ⟨A, c, rfl, hc, hcm, hs⟩ := h2.reads encO_len
    have hcell : w.cell? ⟨g, 0, none⟩ = some (.slice A l.length c) := cell_blk h1 0 _ rfl
    have hgl : g < w.heap.size := (Array.getElem?_eq_some_iff.1 h1).1
    have hm : l.length ≤ 9223372036854775807 := by unfold maxLen at hcm; omega
    by_cases h64 : 64 ≤ l.length
    · rw [if_pos h64]
      clear h1 h2 h4 h5 hs
      go_enter Try.func38, Try.ntmps38
      go_wp2_with (go_at_call 98; go_must (refine (order_wanted _ _ _).mono ?_; rintro _ w1 ⟨rfl, rfl⟩))
      go_ret2
      exact ⟨rfl, F, hB.out, Chg.refl _ _, fun k hk => .inl hk⟩
    · rw [if_neg h64]
      have H1 := Lib.hid h1
      have H2 := Lib.hid h2
      have H4 := Lib.hid h4
      have H5 := Lib.hid h5
      clear h1 h2 h4 h5 hs hcm
      go_enter Try.func38, Try.ntmps38
      go_wp2_with (first | (go_at_call 98; go_must (refine (order_wanted _ _ _).mono ?_; rintro _ w1 ⟨rfl, rfl⟩)) | ((with_reducible refine gate (.call { callee := .builtin .append, args := #[.tmp 35, .tmp 40], argTypes := #[48, 48] }) rfl ?_); go_must (refine wpList_app rfl (.tmp 35) (.tmp 40) 48 rfl (B) 61 (.agg #[.int .i64 0, .int .i64 0, .int .i64 0, .int .i64 0]) 4 32 Try.underlying48 (by kernel_rfl) rfl (by decide) encO_len encO_one (l2 := [⟨(l.length : Int) + 1, p, u, 0⟩]) rfl (H2.out.fr ((Fr.refl _).alloc _)) rfl (Nat.le_refl _) (Raw.lit _ _ _ _ rfl) (fun h => (by cases h)) ?_ ?_ ?_ ?_)))
      · have : l.length < 64 := by omega
        simp; omega
      · have : l.length < 64 := by omega
        simp [maxLen]; omega
      · simp; omega
      · intro v' w1 g1 g2 _ g3
        have H3 := Lib.hid g3
        clear g3
        obtain ⟨A', m', c', rfl, _⟩ := g1.slv encO_len
        have HG := Lib.hid g1
        have hblk : w1.heap[g]? = some (.cells #[.slice A l.length c] 121 (0, 0)) := by
          rw [g2.block g (by simp; omega) (fun e => H4.out e.symm)]
          exact (Below.heap_alloc w _ g hgl).trans H1.out
        have HBK := Lib.hid hblk
        have hcell1 : w1.cell? ⟨g, 0, none⟩ = some (.slice A l.length c) := cell_blk hblk 0 _ rfl
        have hfz1 := frozen_blk hblk 0
        have HG2 := Lib.hid g2
        clear g1 g2 hblk
        go_wp2_with fail
        go_ret2
        have hsz : w.heap.size ≤ w1.heap.size := Nat.le_trans (by simp) HG2.out.size
        have hne : (Value.slice A' m' c').ownBlock ≠ some g := by
          intro e
          rcases H3.out with h | h
          · exact H4.out (h ▸ e)
          · rw [h] at e; simp at e; omega
        refine ⟨rfl, _, Box1.put HBK.out HG.out h3 hne, ?_, ?_⟩
        · refine ((Chg.of_fr ((Fr.refl w).alloc _)).trans (Chg.grown (F := F) HG2.out (fun k hk => .inl ((H5.out k).2 (.inr hk)))) (fun b hb => .inl hb)).trans (Chg.set _ (F := fun k => k = g) rfl _) (fun b hb => .inl ((H5.out b).2 (.inl hb)))
        · intro k hk
          rcases hk with rfl | hk
          · exact .inl ((H5.out k).2 (.inl rfl))
          · rcases H3.out with h | h
            · exact .inl ((H5.out k).2 (.inr (h ▸ hk)))
            · right; rw [h] at hk; simp at hk; omega

theorem Order.get_in (l : List Ord) (k : Nat) (hk : k < l.length) : Order.get l ((k : Int) + 1) = (l[k], 0) := by
  unfold Order.get
  rw [if_neg (by omega), show ((k : Int) + 1).toNat - 1 = k from by omega, List.getD_eq_getElem?_getD, List.getElem?_eq_getElem hk, Option.getD_some]

set_option maxRecDepth 100000 in
set_option maxHeartbeats 1000000 in
theorem order_Order (B g : Nat) (l : List Ord) (F : Nat → Prop) (id : Int) (w : World) (h : BookO B w g l F) :
    Calls Try.prog 42 #[.pointer (some ⟨g, 0, none⟩), .int .i64 id] w fun e w' => e = .returned (.tuple #[aggO (Order.get l id).1, .int .i64 (Order.get l id).2]) ∧ Fr w w' := by
  obtain ⟨v, h1, h2, h3, h4, h5⟩ := h
  obtain ⟨A, c, rfl, hc, hcm, hs⟩ := h2.reads encO_len
  have hcell : w.cell? ⟨g, 0, none⟩ = some (.slice A l.length c) := cell_blk h1 0 _ rfl
  have hgl : g < w.heap.size := (Array.getElem?_eq_some_iff.1 h1).1
  have hm : l.length ≤ 9223372036854775807 := by unfold maxLen at hcm; omega
  have HS := Lib.hid hs
  clear h1 h2 h4 h5 hs hcm
  by_cases hid : id < 1 ∨ (l.length : Int) < id
  · have HG := Lib.hid (show Order.get l id = (Order.zero, 5) from if_pos hid)
    rw [HG.out]
    rcases hid with hid | hid
    · go_enter Try.func42, Try.ntmps42
      go_wp2_with fail
      exact bodyPost_ret (v := .tuple #[aggO Order.zero, .int .i64 5]) (by simp [results, Try.results42, go_sem, aggO, Order.zero]) rfl ⟨rfl, (Fr.refl _).alloc _⟩
    · have h1 : ¬ id < 1 := by omega
      go_enter Try.func42, Try.ntmps42
      go_wp2_with fail
      exact bodyPost_ret (v := .tuple #[aggO Order.zero, .int .i64 5]) (by simp [results, Try.results42, go_sem, aggO, Order.zero]) rfl ⟨rfl, (Fr.refl _).alloc _⟩
  · obtain ⟨k, rfl⟩ : ∃ k : Nat, id = (k : Int) + 1 := ⟨id.toNat - 1, by omega⟩
    have hk : k < l.length := by omega
    have HG := Lib.hid (Order.get_in l k hk)
    rw [HG.out]
    obtain ⟨b, o, rfl, cs, _, rfl, hcs⟩ := HS.out.at_ k hk
    have hc0 : w.cell? ⟨b, o + k * 4, none⟩ = _ := hcs 0 _ rfl
    have hc1 := hcs 1 _ rfl
    have hc2 := hcs 2 _ rfl
    have hc3 := hcs 3 _ rfl
    have hbl : b < w.heap.size := World.block_lt_of_cell? w _ hc0
    clear hcs hid
    generalize l[k] = x at hc0 hc1 hc2 hc3 ⊢
    go_enter Try.func42, Try.ntmps42
    go_wp2_with fail
    exact bodyPost_ret (v := .tuple #[aggO x, .int .i64 0]) (by simp [results, Try.results42, go_sem, aggO]) rfl ⟨rfl, (Fr.refl _).alloc _⟩

set_option maxRecDepth 100000 in
theorem order_Order_nil (id : Int) (w : World) :
    Calls Try.prog 42 #[.pointer none, .int .i64 id] w fun e w' => e = .returned (.tuple #[aggO Order.zero, .int .i64 1]) ∧ Fr w w' := by
  go_enter Try.func42, Try.ntmps42
  go_wp2_with fail
  exact bodyPost_ret (v := .tuple #[aggO Order.zero, .int .i64 1]) (by simp [results, Try.results42, go_sem, aggO, Order.zero]) rfl ⟨rfl, (Fr.refl _).alloc _⟩

set_option maxRecDepth 100000 in
theorem order_Orders (B g : Nat) (l : List Ord) (F : Nat → Prop) (w : World) (h : BookO B w g l F) (hl : l.length ≤ 1000) :
    Calls Try.prog 41 #[.pointer (some ⟨g, 0, none⟩)] w fun e w' => ∃ v', e = .returned v' ∧ Own w.heap.size 61 4 encO w' v' l ∧ Fr w w' := by
  obtain ⟨v, h1, h2, h3, h4, h5⟩ := h
  have HV := Lib.hid (h2.slv encO_len)
  obtain ⟨A, c, rfl, hc, hcm, hs⟩ := h2.reads encO_len
  have hcell : w.cell? ⟨g, 0, none⟩ = some (.slice A l.length c) := cell_blk h1 0 _ rfl
  have hgl : g < w.heap.size := (Array.getElem?_eq_some_iff.1 h1).1
  clear h1 h2 h4 h5 hs hcm
  go_enter Try.func41, Try.ntmps41
  go_wp2_with (go_at_call 99; go_must (refine (clone_orders _ l _ HV.out (by omega)).mono ?_; rintro _ w1 ⟨v', rfl, hv, hf, _⟩))
  go_ret
  exact ⟨v', rfl, hv, hf⟩
theorem order_Orders_nil (w : World) :
    Calls Try.prog 41 #[.pointer none] w fun e w' => e = .returned (.slice none 0 0) ∧ w = w' := by
  go_enter Try.func41, Try.ntmps41
  go_wp2_with fail
  go_ret
  exact ⟨rfl, rfl⟩

/-- What a closure does to an order. -/
def Does (P : Program) (fc : FuncId) (to_ : Int) : Prop := ∀ (b o : Nat) (x : Int) (w : World), w.cell? ⟨b, o + 3, none⟩ = some (.int .i64 x) → w.frozen? ⟨b, o + 3, none⟩ = false →
  Calls P fc #[.pointer (some ⟨b, o, none⟩)] w fun e w' => e = .returned (.tuple #[]) ∧ w.setCell ⟨b, o + 3, none⟩ (.int .i64 to_) = w'
theorem does_allocate : Does Try.prog 95 1 := by
  intro b o x w hc hf
  go_enter Try.func95, Try.ntmps95
  go_wp2
  go_end0
  exact ⟨rfl, rfl⟩

set_option maxRecDepth 100000 in
set_option maxHeartbeats 1000000 in
theorem order_change_allocate (B g : Nat) (l : List Ord) (F : Nat → Prop) (id frm : Int) (w : World) (h : BookO B w g l F) :
    Calls Try.prog 94 #[.pointer (some ⟨g, 0, none⟩), .int .i64 id, .int .i64 frm, .func (.func 95) #[] #[]] w fun e w' => e = .returned (.int .i64 (Order.change l id frm (1)).2) ∧
      ∃ F', BookO B w' g (Order.change l id frm (1)).1 F' ∧ Chg F w w' ∧ ∀ k, F' k → F k ∨ w.heap.size ≤ k := by
  have HB := Lib.hid h
  by_cases hid : id < 1 ∨ (l.length : Int) < id
  · have hG : Order.get l id = (Order.zero, 5) := if_pos hid
    have HG := Lib.hid hG
    have HC : Hid (Order.change l id frm (1) = (l, 5)) := by unfold Hid Order.change; rw [hG]; simp
    rw [HC.out]
    clear h hid hG
    go_enter Try.func94, Try.ntmps94
    go_wp2_with (go_at_call 42; go_must (refine (order_Order B g l F _ _ HB.out).mono ?_; rintro _ w1 ⟨rfl, hf⟩; rw [HG.out]; simp only [aggO, Order.zero]))
    go_ret
    exact ⟨rfl, F, HB.out.fr (hf.alloc _), Chg.of_fr (hf.alloc _), fun k hk => .inl hk⟩
  · obtain ⟨k, rfl⟩ : ∃ k : Nat, id = (k : Int) + 1 := ⟨id.toNat - 1, by omega⟩
    have hk : k < l.length := by omega
    have hG := Order.get_in l k hk
    have HG := Lib.hid hG
    by_cases hs : l[k].state = frm
    · have HC : Hid (Order.change l ((k : Int) + 1) frm (1) = (l.set k { l[k] with state := (1) }, 0)) := by
        unfold Hid Order.change; rw [hG]
        rw [if_neg (by simp), if_neg (by simp [hs])]
        unfold Order.setAt
        rw [show ((k : Int) + 1).toNat - 1 = k from by omega, List.getD_eq_getElem?_getD, List.getElem?_eq_getElem hk, Option.getD_some]
      rw [HC.out]
      obtain ⟨v, h1, h2, h3, h4, h5⟩ := h
      obtain ⟨gb, c, rfl, hb0, hb1, hb2⟩ := h2.base_of (by rintro rfl; simp at hk)
      have H1 := Lib.hid h1
      have H2 := Lib.hid h2
      have H4 := Lib.hid h4
      have H5 := Lib.hid h5
      have hcell : w.cell? ⟨g, 0, none⟩ = some (.slice (some ⟨gb, 0, none⟩) l.length c) := cell_blk h1 0 _ rfl
      have hgl : g < w.heap.size := (Array.getElem?_eq_some_iff.1 h1).1
      have hm : l.length ≤ 9223372036854775807 := by have := (h2.slv encO_len).len_le; unfold maxLen at this; omega
      have hc3 : w.cell? ⟨gb, k * 4 + 3, none⟩ = some (.int .i64 l[k].state) := h2.cell encO_len k hk 3 _ rfl
      have hf3 := h2.frozen (k * 4 + 3)
      have HX := Lib.hid (List.getElem?_eq_getElem hk)
      generalize l[k] = x at *
      clear h1 h2 h4 h5 hid hG
      subst hs
      go_enter Try.func94, Try.ntmps94
      go_wp2_with (first | (go_at_call 42; go_must (refine (order_Order B g l F _ _ HB.out).mono ?_; rintro _ w1 ⟨rfl, hf⟩; rw [HG.out]; simp only [aggO]; replace hcell := hf.cell hcell; replace hc3 := hf.cell hc3; replace hf3 := (Below.frozen hf hb1).trans hf3; replace hgl := Nat.lt_of_lt_of_le hgl hf.size; replace hb1 := Nat.lt_of_lt_of_le hb1 hf.size; replace hf := hf.alloc (.cells #[.int .i64 x.id, .int .i64 x.product, .int .i64 x.units, .int .i64 x.state] 61))) | (go_at_call 95; go_must (refine (does_allocate _ _ x.state _ (by go_simp) (by go_simp)).mono ?_; rintro _ w1 ⟨rfl, rfl⟩)))
      go_ret
      have HO := (H2.out.fr hf).set encO_len k x { x with state := (1) } 3 (.int .i64 (1)) HX.out (by decide) rfl
      have hne : gb ≠ g := by have := H4.out; simpa [Value.ownBlock] using this
      have hsw : Chg F w _ := (Chg.of_fr (F := F) hf).trans (Chg.set _ (F := fun b => b = gb) (p := ⟨gb, k * 4 + 3, none⟩) rfl (.int .i64 (1))) (fun b hb => .inl ((H5.out b).2 (.inr (by simp [Value.ownBlock, hb]))))
      rw [← World.setCell_alloc_past _ _ _ _ (by assumption)]
      refine ⟨rfl, F, ⟨_, ?_, HO, h3, H4.out, H5.out⟩, hsw, fun k hk => .inl hk⟩
      rw [Below.heap_setCell _ _ _ _ (by simpa using Ne.symm hne)]
      exact (hf.block (by have := hf.size; have := (Array.getElem?_eq_some_iff.1 H1.out).1; exact this)).trans H1.out
    · have HC : Hid (Order.change l ((k : Int) + 1) frm (1) = (l, 8)) := by
        unfold Hid Order.change; rw [hG]
        rw [if_neg (by simp), if_pos (by simpa using hs)]
      rw [HC.out]
      generalize l[k] = x at *
      have hs' : (x.state != frm) = true := by simpa using hs
      clear h hid hG hs
      go_enter Try.func94, Try.ntmps94
      go_wp2_with (go_at_call 42; go_must (refine (order_Order B g l F _ _ HB.out).mono ?_; rintro _ w1 ⟨rfl, hf⟩; rw [HG.out]; simp only [aggO]))
      go_ret
      exact ⟨rfl, F, HB.out.fr (hf.alloc _), Chg.of_fr (hf.alloc _), fun k hk => .inl hk⟩

set_option maxRecDepth 100000 in
theorem order_change_nil_allocate (id frm : Int) (w : World) :
    Calls Try.prog 94 #[.pointer none, .int .i64 id, .int .i64 frm, .func (.func 95) #[] #[]] w fun e w' => e = .returned (.int .i64 1) ∧ Fr w w' := by
  go_enter Try.func94, Try.ntmps94
  go_wp2_with (go_at_call 42; go_must (refine (order_Order_nil _ _).mono ?_; rintro _ w1 ⟨rfl, hf⟩; simp only [aggO, Order.zero]))
  go_ret
  exact ⟨rfl, hf.alloc _⟩

theorem order_allocate (B g : Nat) (l : List Ord) (F : Nat → Prop) (id : Int) (w : World) (h : BookO B w g l F) :
    Calls Try.prog 34 #[.pointer (some ⟨g, 0, none⟩), .int .i64 id] w fun e w' => e = .returned (.int .i64 (Order.change l id 0 1).2) ∧
      ∃ F', BookO B w' g (Order.change l id 0 1).1 F' ∧ Chg F w w' ∧ ∀ k, F' k → F k ∨ w.heap.size ≤ k := by
  have HB := Lib.hid h
  clear h
  go_enter Try.func34, Try.ntmps34
  go_wp2_with (go_at_call 94; go_must (refine (order_change_allocate B g l F _ _ _ HB.out).mono ?_; rintro _ w1 ⟨rfl, h2⟩))
  go_ret
  exact ⟨rfl, h2⟩
theorem order_allocate_nil (id : Int) (w : World) :
    Calls Try.prog 34 #[.pointer none, .int .i64 id] w fun e w' => e = .returned (.int .i64 1) ∧ Fr w w' := by
  go_enter Try.func34, Try.ntmps34
  go_wp2_with (go_at_call 94; go_must (refine (order_change_nil_allocate _ _ _).mono ?_; rintro _ w1 ⟨rfl, hf⟩))
  go_ret
  exact ⟨rfl, hf⟩
theorem does_free : Does Try.prog 96 0 := by
  intro b o x w hc hf
  go_enter Try.func96, Try.ntmps96
  go_wp2
  go_end0
  exact ⟨rfl, rfl⟩

set_option maxRecDepth 100000 in
set_option maxHeartbeats 1000000 in
theorem order_change_free (B g : Nat) (l : List Ord) (F : Nat → Prop) (id frm : Int) (w : World) (h : BookO B w g l F) :
    Calls Try.prog 94 #[.pointer (some ⟨g, 0, none⟩), .int .i64 id, .int .i64 frm, .func (.func 96) #[] #[]] w fun e w' => e = .returned (.int .i64 (Order.change l id frm (0)).2) ∧
      ∃ F', BookO B w' g (Order.change l id frm (0)).1 F' ∧ Chg F w w' ∧ ∀ k, F' k → F k ∨ w.heap.size ≤ k := by
  have HB := Lib.hid h
  by_cases hid : id < 1 ∨ (l.length : Int) < id
  · have hG : Order.get l id = (Order.zero, 5) := if_pos hid
    have HG := Lib.hid hG
    have HC : Hid (Order.change l id frm (0) = (l, 5)) := by unfold Hid Order.change; rw [hG]; simp
    rw [HC.out]
    clear h hid hG
    go_enter Try.func94, Try.ntmps94
    go_wp2_with (go_at_call 42; go_must (refine (order_Order B g l F _ _ HB.out).mono ?_; rintro _ w1 ⟨rfl, hf⟩; rw [HG.out]; simp only [aggO, Order.zero]))
    go_ret
    exact ⟨rfl, F, HB.out.fr (hf.alloc _), Chg.of_fr (hf.alloc _), fun k hk => .inl hk⟩
  · obtain ⟨k, rfl⟩ : ∃ k : Nat, id = (k : Int) + 1 := ⟨id.toNat - 1, by omega⟩
    have hk : k < l.length := by omega
    have hG := Order.get_in l k hk
    have HG := Lib.hid hG
    by_cases hs : l[k].state = frm
    · have HC : Hid (Order.change l ((k : Int) + 1) frm (0) = (l.set k { l[k] with state := (0) }, 0)) := by
        unfold Hid Order.change; rw [hG]
        rw [if_neg (by simp), if_neg (by simp [hs])]
        unfold Order.setAt
        rw [show ((k : Int) + 1).toNat - 1 = k from by omega, List.getD_eq_getElem?_getD, List.getElem?_eq_getElem hk, Option.getD_some]
      rw [HC.out]
      obtain ⟨v, h1, h2, h3, h4, h5⟩ := h
      obtain ⟨gb, c, rfl, hb0, hb1, hb2⟩ := h2.base_of (by rintro rfl; simp at hk)
      have H1 := Lib.hid h1
      have H2 := Lib.hid h2
      have H4 := Lib.hid h4
      have H5 := Lib.hid h5
      have hcell : w.cell? ⟨g, 0, none⟩ = some (.slice (some ⟨gb, 0, none⟩) l.length c) := cell_blk h1 0 _ rfl
      have hgl : g < w.heap.size := (Array.getElem?_eq_some_iff.1 h1).1
      have hm : l.length ≤ 9223372036854775807 := by have := (h2.slv encO_len).len_le; unfold maxLen at this; omega
      have hc3 : w.cell? ⟨gb, k * 4 + 3, none⟩ = some (.int .i64 l[k].state) := h2.cell encO_len k hk 3 _ rfl
      have hf3 := h2.frozen (k * 4 + 3)
      have HX := Lib.hid (List.getElem?_eq_getElem hk)
      generalize l[k] = x at *
      clear h1 h2 h4 h5 hid hG
      subst hs
      go_enter Try.func94, Try.ntmps94
      go_wp2_with (first | (go_at_call 42; go_must (refine (order_Order B g l F _ _ HB.out).mono ?_; rintro _ w1 ⟨rfl, hf⟩; rw [HG.out]; simp only [aggO]; replace hcell := hf.cell hcell; replace hc3 := hf.cell hc3; replace hf3 := (Below.frozen hf hb1).trans hf3; replace hgl := Nat.lt_of_lt_of_le hgl hf.size; replace hb1 := Nat.lt_of_lt_of_le hb1 hf.size; replace hf := hf.alloc (.cells #[.int .i64 x.id, .int .i64 x.product, .int .i64 x.units, .int .i64 x.state] 61))) | (go_at_call 96; go_must (refine (does_free _ _ x.state _ (by go_simp) (by go_simp)).mono ?_; rintro _ w1 ⟨rfl, rfl⟩)))
      go_ret
      have HO := (H2.out.fr hf).set encO_len k x { x with state := (0) } 3 (.int .i64 (0)) HX.out (by decide) rfl
      have hne : gb ≠ g := by have := H4.out; simpa [Value.ownBlock] using this
      have hsw : Chg F w _ := (Chg.of_fr (F := F) hf).trans (Chg.set _ (F := fun b => b = gb) (p := ⟨gb, k * 4 + 3, none⟩) rfl (.int .i64 (0))) (fun b hb => .inl ((H5.out b).2 (.inr (by simp [Value.ownBlock, hb]))))
      rw [← World.setCell_alloc_past _ _ _ _ (by assumption)]
      refine ⟨rfl, F, ⟨_, ?_, HO, h3, H4.out, H5.out⟩, hsw, fun k hk => .inl hk⟩
      rw [Below.heap_setCell _ _ _ _ (by simpa using Ne.symm hne)]
      exact (hf.block (by have := hf.size; have := (Array.getElem?_eq_some_iff.1 H1.out).1; exact this)).trans H1.out
    · have HC : Hid (Order.change l ((k : Int) + 1) frm (0) = (l, 8)) := by
        unfold Hid Order.change; rw [hG]
        rw [if_neg (by simp), if_pos (by simpa using hs)]
      rw [HC.out]
      generalize l[k] = x at *
      have hs' : (x.state != frm) = true := by simpa using hs
      clear h hid hG hs
      go_enter Try.func94, Try.ntmps94
      go_wp2_with (go_at_call 42; go_must (refine (order_Order B g l F _ _ HB.out).mono ?_; rintro _ w1 ⟨rfl, hf⟩; rw [HG.out]; simp only [aggO]))
      go_ret
      exact ⟨rfl, F, HB.out.fr (hf.alloc _), Chg.of_fr (hf.alloc _), fun k hk => .inl hk⟩

set_option maxRecDepth 100000 in
theorem order_change_nil_free (id frm : Int) (w : World) :
    Calls Try.prog 94 #[.pointer none, .int .i64 id, .int .i64 frm, .func (.func 96) #[] #[]] w fun e w' => e = .returned (.int .i64 1) ∧ Fr w w' := by
  go_enter Try.func94, Try.ntmps94
  go_wp2_with (go_at_call 42; go_must (refine (order_Order_nil _ _).mono ?_; rintro _ w1 ⟨rfl, hf⟩; simp only [aggO, Order.zero]))
  go_ret
  exact ⟨rfl, hf.alloc _⟩

theorem order_free (B g : Nat) (l : List Ord) (F : Nat → Prop) (id : Int) (w : World) (h : BookO B w g l F) :
    Calls Try.prog 36 #[.pointer (some ⟨g, 0, none⟩), .int .i64 id] w fun e w' => e = .returned (.int .i64 (Order.change l id 1 0).2) ∧
      ∃ F', BookO B w' g (Order.change l id 1 0).1 F' ∧ Chg F w w' ∧ ∀ k, F' k → F k ∨ w.heap.size ≤ k := by
  have HB := Lib.hid h
  clear h
  go_enter Try.func36, Try.ntmps36
  go_wp2_with (go_at_call 94; go_must (refine (order_change_free B g l F _ _ _ HB.out).mono ?_; rintro _ w1 ⟨rfl, h2⟩))
  go_ret
  exact ⟨rfl, h2⟩
theorem order_free_nil (id : Int) (w : World) :
    Calls Try.prog 36 #[.pointer none, .int .i64 id] w fun e w' => e = .returned (.int .i64 1) ∧ Fr w w' := by
  go_enter Try.func36, Try.ntmps36
  go_wp2_with (go_at_call 94; go_must (refine (order_change_nil_free _ _ _).mono ?_; rintro _ w1 ⟨rfl, hf⟩))
  go_ret
  exact ⟨rfl, hf⟩
theorem does_ship : Does Try.prog 97 2 := by
  intro b o x w hc hf
  go_enter Try.func97, Try.ntmps97
  go_wp2
  go_end0
  exact ⟨rfl, rfl⟩

set_option maxRecDepth 100000 in
set_option maxHeartbeats 1000000 in
theorem order_change_ship (B g : Nat) (l : List Ord) (F : Nat → Prop) (id frm : Int) (w : World) (h : BookO B w g l F) :
    Calls Try.prog 94 #[.pointer (some ⟨g, 0, none⟩), .int .i64 id, .int .i64 frm, .func (.func 97) #[] #[]] w fun e w' => e = .returned (.int .i64 (Order.change l id frm (2)).2) ∧
      ∃ F', BookO B w' g (Order.change l id frm (2)).1 F' ∧ Chg F w w' ∧ ∀ k, F' k → F k ∨ w.heap.size ≤ k := by
  have HB := Lib.hid h
  by_cases hid : id < 1 ∨ (l.length : Int) < id
  · have hG : Order.get l id = (Order.zero, 5) := if_pos hid
    have HG := Lib.hid hG
    have HC : Hid (Order.change l id frm (2) = (l, 5)) := by unfold Hid Order.change; rw [hG]; simp
    rw [HC.out]
    clear h hid hG
    go_enter Try.func94, Try.ntmps94
    go_wp2_with (go_at_call 42; go_must (refine (order_Order B g l F _ _ HB.out).mono ?_; rintro _ w1 ⟨rfl, hf⟩; rw [HG.out]; simp only [aggO, Order.zero]))
    go_ret
    exact ⟨rfl, F, HB.out.fr (hf.alloc _), Chg.of_fr (hf.alloc _), fun k hk => .inl hk⟩
  · obtain ⟨k, rfl⟩ : ∃ k : Nat, id = (k : Int) + 1 := ⟨id.toNat - 1, by omega⟩
    have hk : k < l.length := by omega
    have hG := Order.get_in l k hk
    have HG := Lib.hid hG
    by_cases hs : l[k].state = frm
    · have HC : Hid (Order.change l ((k : Int) + 1) frm (2) = (l.set k { l[k] with state := (2) }, 0)) := by
        unfold Hid Order.change; rw [hG]
        rw [if_neg (by simp), if_neg (by simp [hs])]
        unfold Order.setAt
        rw [show ((k : Int) + 1).toNat - 1 = k from by omega, List.getD_eq_getElem?_getD, List.getElem?_eq_getElem hk, Option.getD_some]
      rw [HC.out]
      obtain ⟨v, h1, h2, h3, h4, h5⟩ := h
      obtain ⟨gb, c, rfl, hb0, hb1, hb2⟩ := h2.base_of (by rintro rfl; simp at hk)
      have H1 := Lib.hid h1
      have H2 := Lib.hid h2
      have H4 := Lib.hid h4
      have H5 := Lib.hid h5
      have hcell : w.cell? ⟨g, 0, none⟩ = some (.slice (some ⟨gb, 0, none⟩) l.length c) := cell_blk h1 0 _ rfl
      have hgl : g < w.heap.size := (Array.getElem?_eq_some_iff.1 h1).1
      have hm : l.length ≤ 9223372036854775807 := by have := (h2.slv encO_len).len_le; unfold maxLen at this; omega
      have hc3 : w.cell? ⟨gb, k * 4 + 3, none⟩ = some (.int .i64 l[k].state) := h2.cell encO_len k hk 3 _ rfl
      have hf3 := h2.frozen (k * 4 + 3)
      have HX := Lib.hid (List.getElem?_eq_getElem hk)
      generalize l[k] = x at *
      clear h1 h2 h4 h5 hid hG
      subst hs
      go_enter Try.func94, Try.ntmps94
      go_wp2_with (first | (go_at_call 42; go_must (refine (order_Order B g l F _ _ HB.out).mono ?_; rintro _ w1 ⟨rfl, hf⟩; rw [HG.out]; simp only [aggO]; replace hcell := hf.cell hcell; replace hc3 := hf.cell hc3; replace hf3 := (Below.frozen hf hb1).trans hf3; replace hgl := Nat.lt_of_lt_of_le hgl hf.size; replace hb1 := Nat.lt_of_lt_of_le hb1 hf.size; replace hf := hf.alloc (.cells #[.int .i64 x.id, .int .i64 x.product, .int .i64 x.units, .int .i64 x.state] 61))) | (go_at_call 97; go_must (refine (does_ship _ _ x.state _ (by go_simp) (by go_simp)).mono ?_; rintro _ w1 ⟨rfl, rfl⟩)))
      go_ret
      have HO := (H2.out.fr hf).set encO_len k x { x with state := (2) } 3 (.int .i64 (2)) HX.out (by decide) rfl
      have hne : gb ≠ g := by have := H4.out; simpa [Value.ownBlock] using this
      have hsw : Chg F w _ := (Chg.of_fr (F := F) hf).trans (Chg.set _ (F := fun b => b = gb) (p := ⟨gb, k * 4 + 3, none⟩) rfl (.int .i64 (2))) (fun b hb => .inl ((H5.out b).2 (.inr (by simp [Value.ownBlock, hb]))))
      rw [← World.setCell_alloc_past _ _ _ _ (by assumption)]
      refine ⟨rfl, F, ⟨_, ?_, HO, h3, H4.out, H5.out⟩, hsw, fun k hk => .inl hk⟩
      rw [Below.heap_setCell _ _ _ _ (by simpa using Ne.symm hne)]
      exact (hf.block (by have := hf.size; have := (Array.getElem?_eq_some_iff.1 H1.out).1; exact this)).trans H1.out
    · have HC : Hid (Order.change l ((k : Int) + 1) frm (2) = (l, 8)) := by
        unfold Hid Order.change; rw [hG]
        rw [if_neg (by simp), if_pos (by simpa using hs)]
      rw [HC.out]
      generalize l[k] = x at *
      have hs' : (x.state != frm) = true := by simpa using hs
      clear h hid hG hs
      go_enter Try.func94, Try.ntmps94
      go_wp2_with (go_at_call 42; go_must (refine (order_Order B g l F _ _ HB.out).mono ?_; rintro _ w1 ⟨rfl, hf⟩; rw [HG.out]; simp only [aggO]))
      go_ret
      exact ⟨rfl, F, HB.out.fr (hf.alloc _), Chg.of_fr (hf.alloc _), fun k hk => .inl hk⟩

set_option maxRecDepth 100000 in
theorem order_change_nil_ship (id frm : Int) (w : World) :
    Calls Try.prog 94 #[.pointer none, .int .i64 id, .int .i64 frm, .func (.func 97) #[] #[]] w fun e w' => e = .returned (.int .i64 1) ∧ Fr w w' := by
  go_enter Try.func94, Try.ntmps94
  go_wp2_with (go_at_call 42; go_must (refine (order_Order_nil _ _).mono ?_; rintro _ w1 ⟨rfl, hf⟩; simp only [aggO, Order.zero]))
  go_ret
  exact ⟨rfl, hf.alloc _⟩

theorem order_ship (B g : Nat) (l : List Ord) (F : Nat → Prop) (id : Int) (w : World) (h : BookO B w g l F) :
    Calls Try.prog 37 #[.pointer (some ⟨g, 0, none⟩), .int .i64 id] w fun e w' => e = .returned (.int .i64 (Order.change l id 1 2).2) ∧
      ∃ F', BookO B w' g (Order.change l id 1 2).1 F' ∧ Chg F w w' ∧ ∀ k, F' k → F k ∨ w.heap.size ≤ k := by
  have HB := Lib.hid h
  clear h
  go_enter Try.func37, Try.ntmps37
  go_wp2_with (go_at_call 94; go_must (refine (order_change_ship B g l F _ _ _ HB.out).mono ?_; rintro _ w1 ⟨rfl, h2⟩))
  go_ret
  exact ⟨rfl, h2⟩
theorem order_ship_nil (id : Int) (w : World) :
    Calls Try.prog 37 #[.pointer none, .int .i64 id] w fun e w' => e = .returned (.int .i64 1) ∧ Fr w w' := by
  go_enter Try.func37, Try.ntmps37
  go_wp2_with (go_at_call 94; go_must (refine (order_change_nil_ship _ _ _).mono ?_; rintro _ w1 ⟨rfl, hf⟩))
  go_ret
  exact ⟨rfl, hf⟩

end Go.Proofs.Ythgmnlkblomcaaa
