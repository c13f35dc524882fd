/- OrderPlays: any acts on a book, at most 200: each one's answer, or its error, and behind it all orders, and the one that it names, are as the reference's; no book: ErrArg, nothing. -/
import Derived.Test.YthgmnlkblomcaaaOrderA
namespace Go.Proofs.Ythgmnlkblomcaaa.orderPlays
open Go.ChangeShapes Go.WideShapes Go.ChangeAt Go.RowKit Go.Hf
open Go.ChangeMaps (open_string shut_string)

/-- What holds at each round's head, and in between. -/
structure Inv (w0 : World) (g : Nat) (m : Value) (wr : World) (lb lm : List Ord) (F : Nat → Prop) : Prop where
  book : BookO w0.heap.size wr g lb F
  own : Own w0.heap.size 61 4 encO wr m lm
  sep : ∀ k, m.ownBlock = some k → ¬ F k
  fr : Fr w0 wr
  wf : Order.WF lb
  len : lb.length ≤ 64
theorem Inv.stepB {w0 wr w1 : World} {g : Nat} {m : Value} {lb lm lb' : List Ord} {F F' : Nat → Prop} (h : Inv w0 g m wr lb lm F) (hb : BookO w0.heap.size w1 g lb' F') (hc : Chg F wr w1) (hF : ∀ k, F' k → F k ∨ wr.heap.size ≤ k) (hw : Order.WF lb') (hl : lb'.length ≤ 64) : Inv w0 g m w1 lb' lm F' :=
  ⟨hb, hc.own h.own h.sep, fun k hk hf => by rcases hF k hf with h1 | h1; exact h.sep k hk h1; have := (h.own.lt k hk).2; omega, hc.fr h.fr (fun k hk => (h.book.lt k hk).1), hw, hl⟩
theorem Inv.stepM {w0 wr w1 : World} {g : Nat} {m m' : Value} {lb lm lm' : List Ord} {F : Nat → Prop} (h : Inv w0 g m wr lb lm F) (ho : Own w0.heap.size 61 4 encO w1 m' lm') (hf : Fr wr w1) (hm : m' = m ∨ ∀ k, m'.ownBlock = some k → wr.heap.size ≤ k) : Inv w0 g m' w1 lb lm' F :=
  ⟨h.book.fr hf, ho, fun k hk hF => by rcases hm with rfl | h1; exact h.sep k hk hF; have := h1 k hk; have := (h.book.lt k hF).2; omega, h.fr.trans hf, h.wf, h.len⟩
theorem Inv.stepF {w0 wr w1 : World} {g : Nat} {m : Value} {lb lm : List Ord} {F : Nat → Prop} (h : Inv w0 g m wr lb lm F) (hf : Fr wr w1) : Inv w0 g m w1 lb lm F :=
  ⟨h.book.fr hf, h.own.fr hf, h.sep, h.fr.trans hf, h.wf, h.len⟩
theorem Inv.size {w0 wr : World} {g : Nat} {m : Value} {lb lm : List Ord} {F : Nat → Prop} (h : Inv w0 g m wr lb lm F) : w0.heap.size ≤ wr.heap.size := h.fr.size

set_option maxRecDepth 100000 in
set_option maxHeartbeats 4000000 in
theorem law (v : Value) (l : List Act) (w : World) (h : SlV 3 (flat encA) w v l) :
    Calls Try.prog 7 #[v] w fun en w' => en = .returned (.bool true) ∧ Fr w w' := by
  have hm := h.len_le
  unfold maxLen at hm
  have HB := Fr.refl w
  obtain ⟨A, _, c, rfl, rfl, hl, hcm, hA, hs⟩ := h
  have HS := Lib.hid hs
  clear hcm hA hs
  by_cases hl3 : 200 < l.length
  · go_enter Try.func7, Try.ntmps7
    go_wp2_with (go_at_call 32; go_must (refine (law16_alive _).mono ?_; rintro _ w1 ⟨rfl, hb⟩; replace HB := HB.trans hb; clear hb))
    go_ret
    exact ⟨rfl, HB⟩
  · go_enter Try.func7, Try.ntmps7
    go_wp2_with (go_at_call 33; go_must (refine (order_New _).mono ?_; rintro _ w1 ⟨rfl, hb, hf⟩))
    have hI : Inv w w.heap.size (.slice none 0 0) w1 [] [] (fun k => k = w.heap.size) := ⟨hb, Own.nil _ _ _ _ _, fun k hk => (by cases hk), hf, Order.wf_nil, Nat.zero_le _⟩
    generalize hgg : w.heap.size = g at hI ⊢
    go_loopw [5, 6] (fun m i wr => ∃ (k : Nat) (lo : List Ord) (F : Nat → Prop), i = .int .i64 k ∧ k ≤ l.length ∧ Inv w g m wr lo lo F) (fun _ i _ => l.length - (intOf i).toNat)
    case atStart => exact ⟨0, [], _, rfl, by omega, hI⟩
    case round =>
      clear hb hf hI HB
      obtain ⟨k, lo, F, rfl, hk, hI⟩ := hrel
      by_cases hlt : k < l.length
      · obtain ⟨b, o, rfl, cs, _, rfl, hcs⟩ := HS.out.at_ k hlt
        have HC0 : Hid (w.cell? ⟨b, o + k * 3, none⟩ = _) := hcs 0 _ rfl
        have HC1 := Lib.hid (hcs 1 _ rfl)
        have HC2 := Lib.hid (hcs 2 _ rfl)
        clear hcs
        generalize l[k] = x at *
        have HI := Lib.hid hI
        have HL := Lib.hid hI.len
        have he := eq_ord_self
        have HBL := Lib.hid (World.block_lt_of_cell? w _ HC0.out)
        have hc0 := hI.fr.cell HC0.out
        have hc1 := hI.fr.cell HC1.out
        have hc2 := hI.fr.cell HC2.out
        have h5 : (x.kind.toNat : Int) % 5 = 0 ∨ (x.kind.toNat : Int) % 5 = 1 ∨ (x.kind.toNat : Int) % 5 = 2 ∨ (x.kind.toNat : Int) % 5 = 3 ∨ (x.kind.toNat : Int) % 5 = 4 := by omega
        have hx := x.kind.toNat_lt
        have hkl : (k : Int) < (l.length : Int) := by omega
        have HCE := Lib.hid (fun frm to_ => Order.change_eq hI.wf x.a frm to_)
        have HWC := Lib.hid (fun frm to_ => Order.wf_change hI.wf x.a frm to_)
        have HLC := Lib.hid (fun frm to_ => (Nat.le_trans (Nat.le_of_eq (Order.len_change lo x.a frm to_)) hI.len : (Order.change lo x.a frm to_).1.length ≤ 64))
        have HWW := Lib.hid (Order.wf_want hI.wf x.a x.b)
        have HLW := Lib.hid (Order.len_want hI.len x.a x.b)
        clear hI
        rcases h5 with h5 | h5 | h5 | h5 | h5
        · go_wp2_with fail
          go_region_held3 (fun w' => w'.cell? ⟨b, o + k * 3 + 1, none⟩ = some (.int .i64 x.a) ∧ w'.cell? ⟨b, o + k * 3 + 2, none⟩ = some (.int .i64 x.b)) (go_keep) ((go_at_call 38; go_must (refine (order_Want _ _ _ _ _ _ _ (HI.out.stepF (Fr.refl _).drew).book).mono ?_; rintro _ w1 ⟨rfl, F', hb2, hc, hF'⟩; replace HI := Lib.hid ((HI.out.stepF (Fr.refl _).drew).stepB hb2 hc hF' HWW.out HLW.out); replace hc0 := HI.out.fr.cell HC0.out; replace hc1 := HI.out.fr.cell HC1.out; replace hc2 := HI.out.fr.cell HC2.out; clear hb2 hc hF')))
          go_wp2_with fail
          go_region_held3 (fun w' => w'.cell? ⟨b, o + k * 3 + 1, none⟩ = some (.int .i64 x.a) ∧ w'.cell? ⟨b, o + k * 3 + 2, none⟩ = some (.int .i64 x.b)) (go_keep) ((go_at_call 39; go_must (refine (ref16_Want _ _ lo _ _ _ (HI.out.stepF (Fr.refl _).drew).own (HI.out.stepF (Fr.refl _).drew).size (Nat.le_trans HL.out (by decide))).mono ?_; rintro _ w1 ⟨v', rfl, ho, hf, hv'⟩; replace HI := Lib.hid ((HI.out.stepF (Fr.refl _).drew).stepM ho hf hv'); replace hc0 := HI.out.fr.cell HC0.out; replace hc1 := HI.out.fr.cell HC1.out; replace hc2 := HI.out.fr.cell HC2.out; clear ho hf hv')))
          go_wp2_with (first | (go_at_call 41; go_must (refine (order_Orders _ _ _ _ _ HI.out.book (Nat.le_trans HI.out.len (by decide))).mono ?_; rintro _ w1 ⟨v2, rfl, hv2, hf⟩; replace HI := Lib.hid (HI.out.stepF hf); replace hc0 := HI.out.fr.cell HC0.out; replace hc1 := HI.out.fr.cell HC1.out; replace hc2 := HI.out.fr.cell HC2.out; clear hf)) | (go_at_call 40; go_must (refine (ref16_Same _ _ _ _ _ (hv2.slv encO_len) (HI.out.own.slv encO_len)).mono ?_; rintro _ w1 ⟨rfl, hf⟩; simp only [beq_self_eq_true]; replace HI := Lib.hid (HI.out.stepF hf.fr); replace hc0 := HI.out.fr.cell HC0.out; replace hc1 := HI.out.fr.cell HC1.out; replace hc2 := HI.out.fr.cell HC2.out; clear hf hv2)) | (go_at_call 42; go_must (refine (order_Order _ _ _ _ _ _ HI.out.book).mono ?_; rintro _ w1 ⟨rfl, hf⟩; replace HI := Lib.hid (HI.out.stepF hf); replace hc1 := HI.out.fr.cell HC1.out; have hbl := lt_of_fr HI.out.fr HBL.out; have HV := Lib.hid (new_cells w1 (aggO (Order.get (Order.want lo x.a x.b).1 x.a).1).cells 61); replace HI := Lib.hid (HI.out.stepF ((Fr.refl _).alloc (.cells (aggO (Order.get (Order.want lo x.a x.b).1 x.a).1).cells 61))); clear hf)) | (go_at_call 43; go_must (refine (ref16_Order _ _ _ _ (HI.out.own.slv encO_len)).mono ?_; rintro _ w1 ⟨rfl, hf⟩; rw [Order.get_eq HI.out.wf]; have hv0 := hf.cell (HV.out 0 _ rfl); have hv1 := hf.cell (HV.out 1 _ rfl); have hv2 := hf.cell (HV.out 2 _ rfl); have hv3 := hf.cell (HV.out 3 _ rfl); have hvl := World.block_lt_of_cell? _ _ hv0; replace HI := Lib.hid (HI.out.stepF (hf.alloc (.cells (aggO (Order.get (Order.want lo x.a x.b).1 x.a).1).cells 61))); clear hf)))
          go_roundw
          case rel => exact ⟨k + 1, _, _, by go_num, by omega, HI.out⟩
          case measure => simp [intOf]; omega
        · go_wp2_with fail
          go_region_held3 (fun w' => w'.cell? ⟨b, o + k * 3 + 1, none⟩ = some (.int .i64 x.a) ∧ w'.cell? ⟨b, o + k * 3 + 2, none⟩ = some (.int .i64 x.b)) (go_keep) ((go_at_call 38; go_must (refine (order_Want _ _ _ _ _ _ _ (HI.out.stepF (Fr.refl _).drew).book).mono ?_; rintro _ w1 ⟨rfl, F', hb2, hc, hF'⟩; replace HI := Lib.hid ((HI.out.stepF (Fr.refl _).drew).stepB hb2 hc hF' HWW.out HLW.out); replace hc0 := HI.out.fr.cell HC0.out; replace hc1 := HI.out.fr.cell HC1.out; replace hc2 := HI.out.fr.cell HC2.out; clear hb2 hc hF')))
          go_wp2_with fail
          go_region_held3 (fun w' => w'.cell? ⟨b, o + k * 3 + 1, none⟩ = some (.int .i64 x.a) ∧ w'.cell? ⟨b, o + k * 3 + 2, none⟩ = some (.int .i64 x.b)) (go_keep) ((go_at_call 39; go_must (refine (ref16_Want _ _ lo _ _ _ (HI.out.stepF (Fr.refl _).drew).own (HI.out.stepF (Fr.refl _).drew).size (Nat.le_trans HL.out (by decide))).mono ?_; rintro _ w1 ⟨v', rfl, ho, hf, hv'⟩; replace HI := Lib.hid ((HI.out.stepF (Fr.refl _).drew).stepM ho hf hv'); replace hc0 := HI.out.fr.cell HC0.out; replace hc1 := HI.out.fr.cell HC1.out; replace hc2 := HI.out.fr.cell HC2.out; clear ho hf hv')))
          go_wp2_with (first | (go_at_call 41; go_must (refine (order_Orders _ _ _ _ _ HI.out.book (Nat.le_trans HI.out.len (by decide))).mono ?_; rintro _ w1 ⟨v2, rfl, hv2, hf⟩; replace HI := Lib.hid (HI.out.stepF hf); replace hc0 := HI.out.fr.cell HC0.out; replace hc1 := HI.out.fr.cell HC1.out; replace hc2 := HI.out.fr.cell HC2.out; clear hf)) | (go_at_call 40; go_must (refine (ref16_Same _ _ _ _ _ (hv2.slv encO_len) (HI.out.own.slv encO_len)).mono ?_; rintro _ w1 ⟨rfl, hf⟩; simp only [beq_self_eq_true]; replace HI := Lib.hid (HI.out.stepF hf.fr); replace hc0 := HI.out.fr.cell HC0.out; replace hc1 := HI.out.fr.cell HC1.out; replace hc2 := HI.out.fr.cell HC2.out; clear hf hv2)) | (go_at_call 42; go_must (refine (order_Order _ _ _ _ _ _ HI.out.book).mono ?_; rintro _ w1 ⟨rfl, hf⟩; replace HI := Lib.hid (HI.out.stepF hf); replace hc1 := HI.out.fr.cell HC1.out; have hbl := lt_of_fr HI.out.fr HBL.out; have HV := Lib.hid (new_cells w1 (aggO (Order.get (Order.want lo x.a x.b).1 x.a).1).cells 61); replace HI := Lib.hid (HI.out.stepF ((Fr.refl _).alloc (.cells (aggO (Order.get (Order.want lo x.a x.b).1 x.a).1).cells 61))); clear hf)) | (go_at_call 43; go_must (refine (ref16_Order _ _ _ _ (HI.out.own.slv encO_len)).mono ?_; rintro _ w1 ⟨rfl, hf⟩; rw [Order.get_eq HI.out.wf]; have hv0 := hf.cell (HV.out 0 _ rfl); have hv1 := hf.cell (HV.out 1 _ rfl); have hv2 := hf.cell (HV.out 2 _ rfl); have hv3 := hf.cell (HV.out 3 _ rfl); have hvl := World.block_lt_of_cell? _ _ hv0; replace HI := Lib.hid (HI.out.stepF (hf.alloc (.cells (aggO (Order.get (Order.want lo x.a x.b).1 x.a).1).cells 61))); clear hf)))
          go_roundw
          case rel => exact ⟨k + 1, _, _, by go_num, by omega, HI.out⟩
          case measure => simp [intOf]; omega
        · go_wp2_with (first | (go_at_call 34; go_must (refine (order_allocate _ _ _ _ _ _ HI.out.book).mono ?_; rintro _ w1 ⟨rfl, F', hb2, hc, hF'⟩; replace HI := Lib.hid (HI.out.stepB hb2 hc hF' (HWC.out 0 1) (HLC.out 0 1)); replace hc0 := HI.out.fr.cell HC0.out; replace hc1 := HI.out.fr.cell HC1.out; replace hc2 := HI.out.fr.cell HC2.out; clear hb2 hc hF')) | (go_at_call 35; go_must (refine (ref16_Change _ _ lo _ _ _ _ HI.out.own HI.out.size (Nat.le_trans HL.out (by decide))).mono ?_; rintro _ w1 ⟨v', rfl, ho, hf, hv'⟩; rw [HCE.out] at ho ⊢; replace HI := Lib.hid (HI.out.stepM ho hf hv'); replace hc0 := HI.out.fr.cell HC0.out; replace hc1 := HI.out.fr.cell HC1.out; replace hc2 := HI.out.fr.cell HC2.out; clear ho hf hv')) | (go_at_call 41; go_must (refine (order_Orders _ _ _ _ _ HI.out.book (Nat.le_trans HI.out.len (by decide))).mono ?_; rintro _ w1 ⟨v2, rfl, hv2, hf⟩; replace HI := Lib.hid (HI.out.stepF hf); replace hc0 := HI.out.fr.cell HC0.out; replace hc1 := HI.out.fr.cell HC1.out; replace hc2 := HI.out.fr.cell HC2.out; clear hf)) | (go_at_call 40; go_must (refine (ref16_Same _ _ _ _ _ (hv2.slv encO_len) (HI.out.own.slv encO_len)).mono ?_; rintro _ w1 ⟨rfl, hf⟩; simp only [beq_self_eq_true]; replace HI := Lib.hid (HI.out.stepF hf.fr); replace hc0 := HI.out.fr.cell HC0.out; replace hc1 := HI.out.fr.cell HC1.out; replace hc2 := HI.out.fr.cell HC2.out; clear hf hv2)) | (go_at_call 42; go_must (refine (order_Order _ _ _ _ _ _ HI.out.book).mono ?_; rintro _ w1 ⟨rfl, hf⟩; replace HI := Lib.hid (HI.out.stepF hf); replace hc1 := HI.out.fr.cell HC1.out; have hbl := lt_of_fr HI.out.fr HBL.out; have HV := Lib.hid (new_cells w1 (aggO (Order.get (Order.change lo x.a 0 1).1 x.a).1).cells 61); replace HI := Lib.hid (HI.out.stepF ((Fr.refl _).alloc (.cells (aggO (Order.get (Order.change lo x.a 0 1).1 x.a).1).cells 61))); clear hf)) | (go_at_call 43; go_must (refine (ref16_Order _ _ _ _ (HI.out.own.slv encO_len)).mono ?_; rintro _ w1 ⟨rfl, hf⟩; rw [Order.get_eq HI.out.wf]; have hv0 := hf.cell (HV.out 0 _ rfl); have hv1 := hf.cell (HV.out 1 _ rfl); have hv2 := hf.cell (HV.out 2 _ rfl); have hv3 := hf.cell (HV.out 3 _ rfl); have hvl := World.block_lt_of_cell? _ _ hv0; replace HI := Lib.hid (HI.out.stepF (hf.alloc (.cells (aggO (Order.get (Order.change lo x.a 0 1).1 x.a).1).cells 61))); clear hf)))
          go_roundw
          case rel => exact ⟨k + 1, _, _, by go_num, by omega, HI.out⟩
          case measure => simp [intOf]; omega
        · go_wp2_with (first | (go_at_call 36; go_must (refine (order_free _ _ _ _ _ _ HI.out.book).mono ?_; rintro _ w1 ⟨rfl, F', hb2, hc, hF'⟩; replace HI := Lib.hid (HI.out.stepB hb2 hc hF' (HWC.out 1 0) (HLC.out 1 0)); replace hc0 := HI.out.fr.cell HC0.out; replace hc1 := HI.out.fr.cell HC1.out; replace hc2 := HI.out.fr.cell HC2.out; clear hb2 hc hF')) | (go_at_call 35; go_must (refine (ref16_Change _ _ lo _ _ _ _ HI.out.own HI.out.size (Nat.le_trans HL.out (by decide))).mono ?_; rintro _ w1 ⟨v', rfl, ho, hf, hv'⟩; rw [HCE.out] at ho ⊢; replace HI := Lib.hid (HI.out.stepM ho hf hv'); replace hc0 := HI.out.fr.cell HC0.out; replace hc1 := HI.out.fr.cell HC1.out; replace hc2 := HI.out.fr.cell HC2.out; clear ho hf hv')) | (go_at_call 41; go_must (refine (order_Orders _ _ _ _ _ HI.out.book (Nat.le_trans HI.out.len (by decide))).mono ?_; rintro _ w1 ⟨v2, rfl, hv2, hf⟩; replace HI := Lib.hid (HI.out.stepF hf); replace hc0 := HI.out.fr.cell HC0.out; replace hc1 := HI.out.fr.cell HC1.out; replace hc2 := HI.out.fr.cell HC2.out; clear hf)) | (go_at_call 40; go_must (refine (ref16_Same _ _ _ _ _ (hv2.slv encO_len) (HI.out.own.slv encO_len)).mono ?_; rintro _ w1 ⟨rfl, hf⟩; simp only [beq_self_eq_true]; replace HI := Lib.hid (HI.out.stepF hf.fr); replace hc0 := HI.out.fr.cell HC0.out; replace hc1 := HI.out.fr.cell HC1.out; replace hc2 := HI.out.fr.cell HC2.out; clear hf hv2)) | (go_at_call 42; go_must (refine (order_Order _ _ _ _ _ _ HI.out.book).mono ?_; rintro _ w1 ⟨rfl, hf⟩; replace HI := Lib.hid (HI.out.stepF hf); replace hc1 := HI.out.fr.cell HC1.out; have hbl := lt_of_fr HI.out.fr HBL.out; have HV := Lib.hid (new_cells w1 (aggO (Order.get (Order.change lo x.a 1 0).1 x.a).1).cells 61); replace HI := Lib.hid (HI.out.stepF ((Fr.refl _).alloc (.cells (aggO (Order.get (Order.change lo x.a 1 0).1 x.a).1).cells 61))); clear hf)) | (go_at_call 43; go_must (refine (ref16_Order _ _ _ _ (HI.out.own.slv encO_len)).mono ?_; rintro _ w1 ⟨rfl, hf⟩; rw [Order.get_eq HI.out.wf]; have hv0 := hf.cell (HV.out 0 _ rfl); have hv1 := hf.cell (HV.out 1 _ rfl); have hv2 := hf.cell (HV.out 2 _ rfl); have hv3 := hf.cell (HV.out 3 _ rfl); have hvl := World.block_lt_of_cell? _ _ hv0; replace HI := Lib.hid (HI.out.stepF (hf.alloc (.cells (aggO (Order.get (Order.change lo x.a 1 0).1 x.a).1).cells 61))); clear hf)))
          go_roundw
          case rel => exact ⟨k + 1, _, _, by go_num, by omega, HI.out⟩
          case measure => simp [intOf]; omega
        · go_wp2_with (first | (go_at_call 37; go_must (refine (order_ship _ _ _ _ _ _ HI.out.book).mono ?_; rintro _ w1 ⟨rfl, F', hb2, hc, hF'⟩; replace HI := Lib.hid (HI.out.stepB hb2 hc hF' (HWC.out 1 2) (HLC.out 1 2)); replace hc0 := HI.out.fr.cell HC0.out; replace hc1 := HI.out.fr.cell HC1.out; replace hc2 := HI.out.fr.cell HC2.out; clear hb2 hc hF')) | (go_at_call 35; go_must (refine (ref16_Change _ _ lo _ _ _ _ HI.out.own HI.out.size (Nat.le_trans HL.out (by decide))).mono ?_; rintro _ w1 ⟨v', rfl, ho, hf, hv'⟩; rw [HCE.out] at ho ⊢; replace HI := Lib.hid (HI.out.stepM ho hf hv'); replace hc0 := HI.out.fr.cell HC0.out; replace hc1 := HI.out.fr.cell HC1.out; replace hc2 := HI.out.fr.cell HC2.out; clear ho hf hv')) | (go_at_call 41; go_must (refine (order_Orders _ _ _ _ _ HI.out.book (Nat.le_trans HI.out.len (by decide))).mono ?_; rintro _ w1 ⟨v2, rfl, hv2, hf⟩; replace HI := Lib.hid (HI.out.stepF hf); replace hc0 := HI.out.fr.cell HC0.out; replace hc1 := HI.out.fr.cell HC1.out; replace hc2 := HI.out.fr.cell HC2.out; clear hf)) | (go_at_call 40; go_must (refine (ref16_Same _ _ _ _ _ (hv2.slv encO_len) (HI.out.own.slv encO_len)).mono ?_; rintro _ w1 ⟨rfl, hf⟩; simp only [beq_self_eq_true]; replace HI := Lib.hid (HI.out.stepF hf.fr); replace hc0 := HI.out.fr.cell HC0.out; replace hc1 := HI.out.fr.cell HC1.out; replace hc2 := HI.out.fr.cell HC2.out; clear hf hv2)) | (go_at_call 42; go_must (refine (order_Order _ _ _ _ _ _ HI.out.book).mono ?_; rintro _ w1 ⟨rfl, hf⟩; replace HI := Lib.hid (HI.out.stepF hf); replace hc1 := HI.out.fr.cell HC1.out; have hbl := lt_of_fr HI.out.fr HBL.out; have HV := Lib.hid (new_cells w1 (aggO (Order.get (Order.change lo x.a 1 2).1 x.a).1).cells 61); replace HI := Lib.hid (HI.out.stepF ((Fr.refl _).alloc (.cells (aggO (Order.get (Order.change lo x.a 1 2).1 x.a).1).cells 61))); clear hf)) | (go_at_call 43; go_must (refine (ref16_Order _ _ _ _ (HI.out.own.slv encO_len)).mono ?_; rintro _ w1 ⟨rfl, hf⟩; rw [Order.get_eq HI.out.wf]; have hv0 := hf.cell (HV.out 0 _ rfl); have hv1 := hf.cell (HV.out 1 _ rfl); have hv2 := hf.cell (HV.out 2 _ rfl); have hv3 := hf.cell (HV.out 3 _ rfl); have hvl := World.block_lt_of_cell? _ _ hv0; replace HI := Lib.hid (HI.out.stepF (hf.alloc (.cells (aggO (Order.get (Order.change lo x.a 1 2).1 x.a).1).cells 61))); clear hf)))
          go_roundw
          case rel => exact ⟨k + 1, _, _, by go_num, by omega, HI.out⟩
          case measure => simp [intOf]; omega
      · have HB := hI.fr
        have hkl : ¬ (k : Int) < (l.length : Int) := by omega
        clear hI
        go_wp2_with (first | (go_at_call 38; go_must (refine (order_Want_nil _ _ _).mono ?_; rintro _ w1 ⟨rfl, rfl⟩)) | (go_at_call 42; go_must (refine (order_Order_nil _ _).mono ?_; rintro _ w1 ⟨rfl, hb⟩; replace HB := (HB.trans hb).alloc (.cells (aggO Order.zero).cells 61); clear hb)) | (go_at_call 32; go_must (refine (law16_alive _).mono ?_; rintro _ w1 ⟨rfl, hb⟩; replace HB := HB.trans hb; clear hb)) | (go_at_call 34; go_must (refine (order_allocate_nil _ _).mono ?_; rintro _ w1 ⟨rfl, hb⟩; replace HB := HB.trans hb; clear hb)) | (go_at_call 36; go_must (refine (order_free_nil _ _).mono ?_; rintro _ w1 ⟨rfl, hb⟩; replace HB := HB.trans hb; clear hb)) | (go_at_call 37; go_must (refine (order_ship_nil _ _).mono ?_; rintro _ w1 ⟨rfl, hb⟩; replace HB := HB.trans hb; clear hb)) | (go_at_call 41; go_must (refine (order_Orders_nil _).mono ?_; rintro _ w1 ⟨rfl, rfl⟩)))
        go_ret
        exact ⟨rfl, HB⟩

set_option maxRecDepth 100000 in
theorem walk {H : Type} {enc : TypeId × Value → H} (W : World) (base : Nat) (args : Array Value) (ds : List (DataW H)) (ps : List MemPlace) (hval : ∀ (j : Nat) t v, Try.f7.params[j]? = some t → args[j]? = some v → Value.okWide Try.prog W .any base t v)
    (hA : DataW.TrodAll enc Try.prog W 0 (fun _ => true) true Try.f7.params.toList args.toList ds ps) : Calls Try.prog 7 args W fun e W' => e = .returned (.bool true) ∧ Fr W W' := by
  rw [Try.params7] at hA
  obtain ⟨v0, vs0, d0, ds0, p0, q0, hargs, rfl, rfl, h0, r0⟩ := trodAll_cons hA
  obtain ⟨rfl, rfl, rfl⟩ := trodAll_nil r0
  obtain rfl : args = #[v0] := by cases args; simp_all
  rw [Try.params7] at hval
  obtain ⟨l, h⟩ := open_slv_arg Try.underlying45 (hval 0 _ v0 rfl rfl) h0 opens_acts
  exact law v0 l W h

theorem own : ownKnob Try.prog.godebug = none := by kernel_rfl

set_option maxRecDepth 100000 in
theorem lifted (os : Os) (started : os.Started) (H : Type) (enc : TypeId × Value → H) :
    ReturnsInHanded {} Try.checked os 7 .any (Rows.orderPlaysSpec.pre6 enc Try.prog Try.f7 Rows.orderPlaysRow.domain false) (Rows.orderPlaysSpec.post enc Try.prog Try.f7 false true false false) :=
  Hf.law_lifted (C := Try.checked) own started (by kernel_rfl) Try.func7
    (ChangeSpec.witness6 (enc := enc) (C := Try.checked) false ⟨#[], #[.slice none 0 0], []⟩ 8 (by kernel_rfl) (by kernel_rfl) (by kernel_rfl) (by kernel_rfl))
    rfl (by kernel_rfl) Try.underlying4 (by kernel_rfl) (by kernel_rfl)
    (by intro ds h; rw [Try.params7] at h; match ds, h with | [_], _ => rfl) walk

theorem over : Rows.orderPlaysRow.holds Try.pinned (OpenSpec.ofChange Rows.orderPlaysSpec) :=
  OpenClaim.holds_of_wide 7 Try.f7 rfl rfl rfl rfl rfl rfl rfl ⟨rfl, rfl, rfl, rfl, rfl⟩ rfl rfl rfl rfl rfl (by kernel_rfl) Try.func7 (by kernel_rfl)
    (of_decide_eq_true (by kernel_rfl)) (by unfold Func.isWrapper; first | (rw [if_pos (by decide +kernel)]; kernel_rfl) | (rw [if_neg (by decide +kernel)]; exact ⟨rfl, rfl⟩))
    (fun os started H enc _ => lifted os started H enc)

/-- The statement. -/
theorem proved : Rows.OrderPlaysSaid := over
#print axioms proved
end Go.Proofs.Ythgmnlkblomcaaa.orderPlays
