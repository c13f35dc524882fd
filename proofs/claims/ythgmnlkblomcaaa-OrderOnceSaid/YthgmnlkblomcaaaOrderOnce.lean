/- OrderOnce: any acts on a book, at most 200: behind each an order's product, and units, are as they were; what is shipped stays so; IDs rise by one; states are from 0 to 2. -/
import Derived.Test.YthgmnlkblomcaaaOrderE
import Derived.Deep.CutBlock
import Derived.Deep.CutRange
namespace Go.Proofs.Ythgmnlkblomcaaa.orderOnce
open Go.ChangeShapes Go.WideShapes Go.ChangeAt Go.RowKit Go.Hf
open Go.ChangeMaps (open_string shut_string)

/-- What holds at each round's head, and in between. -/
structure Inv (w0 : World) (g : Nat) (m : Value) (wr : World) (lb lm : List Ord) (F : Nat → Prop) : Prop where
  book : BookO w0.heap.size wr g lb F
  own : Own w0.heap.size 61 4 encO wr m lm
  sep : ∀ k, m.ownBlock = some k → ¬ F k
  fr : Fr w0 wr
  wf : Order.WF lb
  len : lb.length ≤ 64
theorem Inv.stepB {w0 wr w1 : World} {g : Nat} {m : Value} {lb lm lb' : List Ord} {F F' : Nat → Prop} (h : Inv w0 g m wr lb lm F) (hb : BookO w0.heap.size w1 g lb' F') (hc : Chg F wr w1) (hF : ∀ k, F' k → F k ∨ wr.heap.size ≤ k) (hw : Order.WF lb') (hl : lb'.length ≤ 64) : Inv w0 g m w1 lb' lm F' :=
  ⟨hb, hc.own h.own h.sep, fun k hk hf => by rcases hF k hf with h1 | h1; exact h.sep k hk h1; have := (h.own.lt k hk).2; omega, hc.fr h.fr (fun k hk => (h.book.lt k hk).1), hw, hl⟩
theorem Inv.stepF {w0 wr w1 : World} {g : Nat} {m : Value} {lb lm : List Ord} {F : Nat → Prop} (h : Inv w0 g m wr lb lm F) (hf : Fr wr w1) : Inv w0 g m w1 lb lm F :=
  ⟨h.book.fr hf, h.own.fr hf, h.sep, h.fr.trans hf, h.wf, h.len⟩
theorem Inv.size {w0 wr : World} {g : Nat} {m : Value} {lb lm : List Ord} {F : Nat → Prop} (h : Inv w0 g m wr lb lm F) : w0.heap.size ≤ wr.heap.size := h.fr.size

theorem Inv.stepO {w0 wr w1 : World} {g : Nat} {m v : Value} {lb lm : List Ord} {F : Nat → Prop} (h : Inv w0 g m wr lb lm F) (hv : Own wr.heap.size 61 4 encO w1 v lb) (hf : Fr wr w1) : Inv w0 g v w1 lb lb F :=
  ⟨h.book.fr hf, hv.lower h.size, fun k hk hF => by have := (hv.lt k hk).1; have := (h.book.lt k hF).2; omega, h.fr.trans hf, h.wf, h.len⟩
set_option maxRecDepth 100000 in
set_option maxHeartbeats 4000000 in
theorem law (v : Value) (l : List Act) (w : World) (h : SlV 3 (flat encA) w v l) :
    Calls Try.prog 8 #[v] w fun en w' => en = .returned (.bool true) ∧ Fr w w' := by
  have hm := h.len_le
  unfold maxLen at hm
  have HB := Fr.refl w
  obtain ⟨A, _, c, rfl, rfl, hl, hcm, hA, hs⟩ := h
  have HS := Lib.hid hs
  clear hcm hA hs
  by_cases hl3 : 200 < l.length
  · go_enter Try.func8, Try.ntmps8
    go_wp2_with (go_at_call 32; go_must (refine (law16_alive _).mono ?_; rintro _ w1 ⟨rfl, hb⟩; replace HB := HB.trans hb; clear hb))
    go_ret
    exact ⟨rfl, HB⟩
  · go_enter Try.func8, Try.ntmps8
    go_wp2_with (go_at_call 33; go_must (refine (order_New _).mono ?_; rintro _ w1 ⟨rfl, hb, hf⟩))
    have hI : Inv w w.heap.size (.slice none 0 0) w1 [] [] (fun k => k = w.heap.size) := ⟨hb, Own.nil _ _ _ _ _, fun k hk => (by cases hk), hf, Order.wf_nil, Nat.zero_le _⟩
    generalize hgg : w.heap.size = g at hI ⊢
    go_loopw [4, 5] (fun m i wr => ∃ (k : Nat) (lo : List Ord) (F : Nat → Prop), i = .int .i64 k ∧ k ≤ l.length ∧ Inv w g m wr lo lo F ∧ Order.ST lo) (fun _ i _ => l.length - (intOf i).toNat)
    case atStart => exact ⟨0, [], _, rfl, by omega, hI, Order.st_nil⟩
    case round =>
      clear hb hf hI HB
      obtain ⟨k, lo, F, rfl, hk, hI, hS0⟩ := hrel
      have HS0 := Lib.hid hS0
      clear hS0
      by_cases hlt : k < l.length
      · obtain ⟨b, o, rfl, cs, _, rfl, hcs⟩ := HS.out.at_ k hlt
        have hc0 : wr.cell? ⟨b, o + k * 3, none⟩ = _ := hI.fr.cell (hcs 0 _ rfl)
        have HC1 : Hid (w.cell? ⟨b, o + k * 3 + 1, none⟩ = _) := Lib.hid (hcs 1 _ rfl)
        have HC2 : Hid (w.cell? ⟨b, o + k * 3 + 2, none⟩ = _) := Lib.hid (hcs 2 _ rfl)
        have hc1 := hI.fr.cell HC1.out
        have hc2 := hI.fr.cell HC2.out
        clear hcs
        generalize l[k] = x at *
        obtain ⟨Am, cm, rfl, hmc, hmm, _⟩ := hI.own.reads encO_len
        have HI := Lib.hid hI
        have hlo := hI.len
        clear hI
        have h5 : (x.kind.toNat : Int) % 5 = 0 ∨ (x.kind.toNat : Int) % 5 = 1 ∨ (x.kind.toNat : Int) % 5 = 2 ∨ (x.kind.toNat : Int) % 5 = 3 ∨ (x.kind.toNat : Int) % 5 = 4 := by omega
        have hx := x.kind.toNat_lt
        have hkl : (k : Int) < (l.length : Int) := by omega
        go_upto_block 2 with fail
        go_cut [] from 13 to 180 (fun wx => ∃ (ln : List Ord) (F' : Nat → Prop), Inv w g (.slice Am lo.length cm) wx ln lo F' ∧ Order.ST ln ∧ Order.Next lo ln)
        case first =>
          rcases h5 with h5 | h5 | h5 | h5 | h5
          · go_wp2_with fail
            go_region_held3 (fun w' => w'.cell? ⟨b, o + k * 3 + 1, none⟩ = some (.int .i64 x.a) ∧ w'.cell? ⟨b, o + k * 3 + 2, none⟩ = some (.int .i64 x.b)) (go_keep) ((go_at_call 38; go_must (refine (order_Want _ _ _ _ _ _ _ (HI.out.stepF (Fr.refl _).drew).book).mono ?_; rintro _ w1 ⟨rfl, F', hb2, hc, hF'⟩; replace HI := Lib.hid ((HI.out.stepF (Fr.refl _).drew).stepB hb2 hc hF' (Order.wf_want HI.out.wf x.a x.b) (Order.len_want HI.out.len x.a x.b)); replace hc1 := HI.out.fr.cell HC1.out; replace hc2 := HI.out.fr.cell HC2.out; clear hb2 hc hF')))
            go_wp2_with fail
            go_meet
            case rel => exact ⟨_, _, HI.out, Order.st_want HS0.out x.a x.b, Order.next_want lo x.a x.b⟩
          · go_wp2_with fail
            go_region_held3 (fun w' => w'.cell? ⟨b, o + k * 3 + 1, none⟩ = some (.int .i64 x.a) ∧ w'.cell? ⟨b, o + k * 3 + 2, none⟩ = some (.int .i64 x.b)) (go_keep) ((go_at_call 38; go_must (refine (order_Want _ _ _ _ _ _ _ (HI.out.stepF (Fr.refl _).drew).book).mono ?_; rintro _ w1 ⟨rfl, F', hb2, hc, hF'⟩; replace HI := Lib.hid ((HI.out.stepF (Fr.refl _).drew).stepB hb2 hc hF' (Order.wf_want HI.out.wf x.a x.b) (Order.len_want HI.out.len x.a x.b)); replace hc1 := HI.out.fr.cell HC1.out; replace hc2 := HI.out.fr.cell HC2.out; clear hb2 hc hF')))
            go_wp2_with fail
            go_meet
            case rel => exact ⟨_, _, HI.out, Order.st_want HS0.out x.a x.b, Order.next_want lo x.a x.b⟩
          · go_wp2_with ((go_at_call 34; go_must (refine (order_allocate _ _ _ _ _ _ HI.out.book).mono ?_; rintro _ w1 ⟨rfl, F', hb2, hc, hF'⟩; replace HI := Lib.hid (HI.out.stepB hb2 hc hF' (Order.wf_change HI.out.wf x.a 0 1) (Nat.le_trans (Nat.le_of_eq (Order.len_change lo x.a 0 1)) HI.out.len)); clear hb2 hc hF')))
            go_meet
            case rel => exact ⟨_, _, HI.out, Order.st_change HS0.out x.a 0 1 (by decide) (by decide), Order.next_change lo x.a 0 1 (by decide) (by decide)⟩
          · go_wp2_with ((go_at_call 36; go_must (refine (order_free _ _ _ _ _ _ HI.out.book).mono ?_; rintro _ w1 ⟨rfl, F', hb2, hc, hF'⟩; replace HI := Lib.hid (HI.out.stepB hb2 hc hF' (Order.wf_change HI.out.wf x.a 1 0) (Nat.le_trans (Nat.le_of_eq (Order.len_change lo x.a 1 0)) HI.out.len)); clear hb2 hc hF')))
            go_meet
            case rel => exact ⟨_, _, HI.out, Order.st_change HS0.out x.a 1 0 (by decide) (by decide), Order.next_change lo x.a 1 0 (by decide) (by decide)⟩
          · go_wp2_with ((go_at_call 37; go_must (refine (order_ship _ _ _ _ _ _ HI.out.book).mono ?_; rintro _ w1 ⟨rfl, F', hb2, hc, hF'⟩; replace HI := Lib.hid (HI.out.stepB hb2 hc hF' (Order.wf_change HI.out.wf x.a 1 2) (Nat.le_trans (Nat.le_of_eq (Order.len_change lo x.a 1 2)) HI.out.len)); clear hb2 hc hF')))
            go_meet
            case rel => exact ⟨_, _, HI.out, Order.st_change HS0.out x.a 1 2 (by decide) (by decide), Order.next_change lo x.a 1 2 (by decide) (by decide)⟩
        case rest =>
          clear h5 hx hc0 hc1 hc2 HI
          obtain ⟨ln, F', hI, hT, hN⟩ := hcut
          have HW := Lib.hid hI.wf
          have HL := Lib.hid hI.len
          have HT := Lib.hid hT
          have HN := Lib.hid hN
          have HI := Lib.hid hI
          clear hI hT hN
          have hn1 : (lo.length : Int) ≤ (ln.length : Int) := by have := HN.out.1; omega
          have hn2 : ¬ (lo.length : Int) + 1 < (ln.length : Int) := by have := HN.out.2.1; omega
          have hn3 : ¬ 64 < (ln.length : Int) := by have := HL.out; omega
          have hb1 : decide (ln.length < lo.length) = false := decide_eq_false (by omega)
          have hb2 : decide ((lo.length : Int) + 1 < (ln.length : Int)) = false := decide_eq_false hn2
          have hb3 : decide (64 < (ln.length : Int)) = false := decide_eq_false hn3
          go_wp2_with (go_at_call 41; go_must (refine (order_Orders _ _ _ _ _ HI.out.book (Nat.le_trans HI.out.len (by decide))).mono ?_; rintro _ w1 ⟨v2, rfl, hv2, hf⟩; obtain ⟨A2, c2, rfl, hc2l, hc2m, _⟩ := hv2.reads encO_len; have HJ := Lib.hid (HI.out.stepO hv2 hf); replace HI := Lib.hid (HI.out.stepF hf); clear hf hv2))
          go_loopw [7] (fun j wx => ∃ q : Nat, j = .int .i64 q ∧ q ≤ ln.length ∧ Fr w1 wx) (fun j _ => ln.length - (intOf j).toNat)
          case atStart => exact ⟨0, rfl, by omega, Fr.refl _⟩
          case round =>
            obtain ⟨q, rfl, hq, hfx⟩ := hrel
            by_cases hql : q < ln.length
            · obtain ⟨b2, o2, rfl, _, e0, e1, e2, e3⟩ := atO (HJ.out.own.slv encO_len).sla q hql
              replace e0 := hfx.cell e0
              replace e1 := hfx.cell e1
              replace e2 := hfx.cell e2
              replace e3 := hfx.cell e3
              have hid_ := HW.out q _ (List.getElem?_eq_getElem hql)
              obtain ⟨hs0, hs2⟩ := HT.out q hql
              obtain ⟨hN0, hN1⟩ := HN.out.2.2 q hql
              have hqI : (q : Int) < (ln.length : Int) := by omega
              generalize ln[q] = y at *
              have hid1 : (y.id != (q : Int) + 1) = false := by simp [hid_]
              have hs0' : ¬ y.state < 0 := by omega
              have hs2' : ¬ 2 < y.state := by omega
              clear hid_ hs0 hs2
              by_cases hqw : q < lo.length
              · obtain ⟨b3, o3, rfl, _, d0, d1, d2, d3⟩ := atO (HI.out.own.slv encO_len).sla q hqw
                replace d1 := hfx.cell d1
                replace d2 := hfx.cell d2
                replace d3 := hfx.cell d3
                obtain ⟨hp, hu, ht1, ht2⟩ := hN1 hqw
                have hqI2 : (q : Int) < (lo.length : Int) := by omega
                generalize lo[q] = z at *
                have hp1 : (y.product != z.product) = false := by simp [hp]
                have hu1 : (y.units != z.units) = false := by simp [hu]
                clear hN0 hN1 hp hu d0
                go_upto_region 27 with fail
                go_cut [179] from 84 to 179 (fun c wx => c = .bool false ∧ Fr w1 wx)
                case first =>
                  by_cases hz2 : z.state = 2
                  · have g1 : (z.state == 2) = true := by simp [hz2]
                    have g2 : (y.state != 2) = false := by simp [ht1 hz2]
                    have g3 : (y.state == 2) = true := by simp [ht1 hz2]
                    have g4 : (z.state == 0) = false := by simp [hz2]
                    clear hz2 ht1 ht2
                    go_quiet (fail)
                    go_wp2_with fail
                    go_meet
                    case rel => exact ⟨rfl, hfx.drewN _⟩
                  · have g1 : (z.state == 2) = false := by simp [hz2]
                    by_cases hy2 : y.state = 2
                    · have g3 : (y.state == 2) = true := by simp [hy2]
                      have g4 : (z.state == 0) = false := by simp [ht2 hy2]
                      clear hz2 hy2 ht1 ht2
                      go_quiet (fail)
                      go_wp2_with fail
                      go_meet
                      case rel => exact ⟨rfl, hfx.drewN _⟩
                    · have g3 : (y.state == 2) = false := by simp [hy2]
                      clear hz2 hy2 ht1 ht2
                      go_quiet (fail)
                      go_wp2_with fail
                      go_meet
                      case rel => exact ⟨rfl, hfx.drewN _⟩
                case rest =>
                  clear hfx ht1 ht2
                  obtain ⟨rfl, hfx⟩ := hcut
                  go_wp2_with fail
                  go_roundw
                  case rel => exact ⟨q + 1, by go_num, by omega, hfx⟩
                  case measure => simp [intOf]; omega
              · have hy0 : (y.state != 0) = false := by simp [hN0 (by omega)]
                have hqI2 : ¬ (q : Int) < (lo.length : Int) := by omega
                clear hN0 hN1
                go_wp2_with fail
                go_roundw
                case rel => exact ⟨q + 1, by go_num, by omega, hfx⟩
                case measure => simp [intOf]; omega
            · obtain rfl : q = ln.length := by omega
              go_wp2_with fail
              go_roundw
              case rel => exact ⟨k + 1, ln, _, by go_num, by omega, HJ.out.stepF hfx, HT.out⟩
              case measure => simp [intOf]; omega
      · have HB := hI.fr
        have hkl : ¬ (k : Int) < (l.length : Int) := by omega
        clear hI
        go_wp2_with (go_at_call 32; go_must (refine (law16_alive _).mono ?_; rintro _ w1 ⟨rfl, hb⟩; replace HB := HB.trans hb; clear hb))
        go_ret
        exact ⟨rfl, HB⟩

set_option maxRecDepth 100000 in
theorem walk {H : Type} {enc : TypeId × Value → H} (W : World) (base : Nat) (args : Array Value) (ds : List (DataW H)) (ps : List MemPlace) (hval : ∀ (j : Nat) t v, Try.f8.params[j]? = some t → args[j]? = some v → Value.okWide Try.prog W .any base t v)
    (hA : DataW.TrodAll enc Try.prog W 0 (fun _ => true) true Try.f8.params.toList args.toList ds ps) : Calls Try.prog 8 args W fun e W' => e = .returned (.bool true) ∧ Fr W W' := by
  rw [Try.params8] at hA
  obtain ⟨v0, vs0, d0, ds0, p0, q0, hargs, rfl, rfl, h0, r0⟩ := trodAll_cons hA
  obtain ⟨rfl, rfl, rfl⟩ := trodAll_nil r0
  obtain rfl : args = #[v0] := by cases args; simp_all
  rw [Try.params8] at hval
  obtain ⟨l, h⟩ := open_slv_arg Try.underlying45 (hval 0 _ v0 rfl rfl) h0 opens_acts
  exact law v0 l W h

theorem own : ownKnob Try.prog.godebug = none := by kernel_rfl

set_option maxRecDepth 100000 in
theorem lifted (os : Os) (started : os.Started) (H : Type) (enc : TypeId × Value → H) :
    ReturnsInHanded {} Try.checked os 8 .any (Rows.orderOnceSpec.pre6 enc Try.prog Try.f8 Rows.orderOnceRow.domain false) (Rows.orderOnceSpec.post enc Try.prog Try.f8 false true false false) :=
  Hf.law_lifted (C := Try.checked) own started (by kernel_rfl) Try.func8
    (ChangeSpec.witness6 (enc := enc) (C := Try.checked) false ⟨#[], #[.slice none 0 0], []⟩ 8 (by kernel_rfl) (by kernel_rfl) (by kernel_rfl) (by kernel_rfl))
    rfl (by kernel_rfl) Try.underlying4 (by kernel_rfl) (by kernel_rfl)
    (by intro ds h; rw [Try.params8] at h; match ds, h with | [_], _ => rfl) walk

theorem over : Rows.orderOnceRow.holds Try.pinned (OpenSpec.ofChange Rows.orderOnceSpec) :=
  OpenClaim.holds_of_wide 8 Try.f8 rfl rfl rfl rfl rfl rfl rfl ⟨rfl, rfl, rfl, rfl, rfl⟩ rfl rfl rfl rfl rfl (by kernel_rfl) Try.func8 (by kernel_rfl)
    (of_decide_eq_true (by kernel_rfl)) (by unfold Func.isWrapper; first | (rw [if_pos (by decide +kernel)]; kernel_rfl) | (rw [if_neg (by decide +kernel)]; exact ⟨rfl, rfl⟩))
    (fun os started H enc _ => lifted os started H enc)

/-- The statement. -/
theorem proved : Rows.OrderOnceSaid := over
#print axioms proved
end Go.Proofs.Ythgmnlkblomcaaa.orderOnce
