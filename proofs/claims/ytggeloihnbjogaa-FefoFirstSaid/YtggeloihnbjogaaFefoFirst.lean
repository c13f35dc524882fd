
/- FefoFirst: first out: of any lots, no two of one ID, of from 1 to 2^20 units: what is picked has just so many units, and none twice; each one of the product that goes ahead of one that is picked is picked whole; just the last one may be picked in part; if it is ErrShort, all have less together; at most 60 lots. -/
import Derived.Test.YtggeloihnbjogaaRows
import Derived.Test.YtggeloihnbjogaaFefG
import Derived.Test.YtggeloihnbjogaaFrame
import Derived.Deep.RegionHeld3
import Derived.Deep.DeepCutAuto
namespace Go.Proofs.Ytggeloihnbjogaa.fefoFirst
open Go.ChangeShapes Go.WideShapes Go.ChangeAt Go.RowKit Go.Hf
open Go.ChangeMaps (open_string shut_string)

theorem takes_at {e : TypeId} {w0 w : World} {L R : List Asr} {A : Option Addr} {n c : Nat} {K : List (Int × Int)} (I : St w0 w L) (h : At (OwnS e 2 encK (.slice A n c) K) L R) {i : Nat} {t : Int × Int} (ht : K[i]? = some t) : ∃ g, A = some ⟨g, 0, none⟩ ∧ w.cell? ⟨g, i * 2, none⟩ = some (.int .i64 t.1) ∧ w.cell? ⟨g, i * 2 + 1, none⟩ = some (.int .i64 t.2) := by
  obtain ⟨hi, rfl⟩ := List.getElem?_eq_some_iff.1 ht
  clear ht
  obtain ⟨g, c', e, -, -, -⟩ := (I.own h).base_of (by intro e; rw [e] at hi; simp at hi)
  injection e with e1 e2 e3
  subst e1 e2 e3
  exact ⟨g, rfl, (I.own h).cell encK_len i hi 0 _ rfl, (I.own h).cell encK_len i hi 1 _ rfl⟩
theorem place_is (v : Value) (l : List Lt) (e : Nat) (y : Lt) (hl : l.length ≤ 1000) (he : l[e]? = some y) (hd : ∀ k z, k < e → l[k]? = some z → z.id ≠ y.id) (w : World) (h : Lots w v l) :
    Calls Try.prog 30 #[v, .int .i64 y.id] w fun en w' => en = .returned (.int .i64 e) ∧ Fr w w' := by
  obtain ⟨A, _, c, rfl, rfl, -, -, -, hsl⟩ := h
  have HS := Lib.hid hsl
  have HE := Lib.hid he
  have HD := Lib.hid hd
  have hel := (List.getElem?_eq_some_iff.1 he).1
  have I := St.refl w
  clear hsl he hd
  go_enter Try.func30, Try.ntmps30
  go_wp2_with fail
  go_loopw [5] (fun iv wr => ∃ i : Nat, iv = .int .i64 i ∧ i ≤ e ∧ St w wr []) (fun iv _ => l.length - (intOf iv).toNat)
  case atStart => exact ⟨0, rfl, by omega, I⟩
  case round =>
    clear I
    obtain ⟨i, rfl, hi, I⟩ := hrel
    rename World => wr
    have hil : i < l.length := by omega
    have hil2 : (i : Int) < (l.length : Int) := by omega
    obtain ⟨x, hx⟩ : ∃ x, l[i]? = some x := ⟨_, List.getElem?_eq_getElem hil⟩
    obtain ⟨ba, oa, rfl, h0, -, -, -⟩ := lot_cells HS.out hx
    replace h0 := I.fr.cell h0
    by_cases hie : i = e
    · subst hie
      rw [HE.out] at hx
      obtain rfl := Option.some.inj hx
      have hb : (y.id == y.id) = true := by simp
      clear hx
      go_wp2_with fail
      go_ret
      exact ⟨rfl, I.fr⟩
    · have hb : (x.id == y.id) = false := by simpa using HD.out i x (by omega) hx
      have hi2 : i < e := by omega
      clear hx hie
      go_wp2_with fail
      go_roundw
      case rel => exact ⟨i + 1, by go_num, by omega, I⟩
      case measure => simp [intOf]; omega
set_option maxRecDepth 100000 in
set_option maxHeartbeats 16000000 in
theorem law (v : Value) (l : List Lt) (p u : Int) (hu : -9223372036854775808 ≤ u ∧ u ≤ 9223372036854775807) (hg : Fef.Tagged l) (w0 : World) (h : Lots w0 v l) :
    Calls Try.prog 5 #[v, .int .i64 p, .int .i64 u] w0 fun en w' => en = .returned (.bool true) ∧ Fr w0 w' := by
  have HV := Lib.hid h
  obtain ⟨A, _, cp, rfl, rfl, hl, hcm, hA, hsl⟩ := h
  have HS := Lib.hid hsl
  clear hA hsl
  unfold maxLen at hcm
  have I := St.refl w0
  by_cases hl3 : 60 < l.length
  · have d1 : decide ((60 : Int) < (l.length : Int)) = true := decide_eq_true (by omega)
    go_enter Try.func5, Try.ntmps5
    try dsimp only [List.append]
    go_wp2_with (first | (first | ((with_reducible refine gguard ?_); (first | refine w_guardT (by rfl) (fun hb => ?_) (fun hb => ?_) | refine w_guardF (by rfl) (fun hb => ?_) (fun hb => ?_)) <;> first | (cases hb; done) | cases hb | ((try rw [hb]) <;> (try simp at hb) <;> go_prune <;> (try (with_reducible replace hb := eqPair hb)))) | (((with_reducible refine gbox ?_); first | refine w_boxA I (by rfl) ?_ | refine w_box1 I (by (conv => lhs; whnf) <;> rfl) (by rfl) ?_); clear I; intro g w I) | ((with_reducible refine galloc ?_); refine w_alloc I ?_; clear I; intro g w I) | ((with_reducible refine gload ?_); first | refine w_loadB I (by rfl) (by first | (with_reducible repeat (first | exact .here | apply At.there)); done | repeat (first | exact .here | apply At.there)) (by rfl) ?_ | refine w_loadBR I (by rfl) (by first | (with_reducible repeat (first | exact .here | apply At.there)); done | repeat (first | exact .here | apply At.there)) (by rfl) ?_ | refine w_load0 I (by rfl) (by assumption) ?_) | ((with_reducible refine gstore ?_); (first | refine w_storeB I (by rfl) (by (conv => lhs; whnf) <;> rfl) (by first | (with_reducible repeat (first | exact .here | apply Upd.there)); done | repeat (first | exact .here | apply Upd.there)) (by rfl) (by rfl) (by simp only [List.set_cons_zero, List.set_cons_succ] <;> rfl) ?_ | refine w_storeBR I (by rfl) (by rfl) (by first | (with_reducible repeat (first | exact .here | apply Upd.there)); done | repeat (first | exact .here | apply Upd.there)) (by rfl) (by rfl) (by rfl) ?_); clear I; intro w I)) | (go_at_call 24; go_must (refine (law15_alive _).mono ?_; rintro _ w1 ⟨rfl, hf⟩; replace I := I.still hf; clear hf)))
    all_goals try omega
    go_ret
    exact ⟨rfl, I.fr⟩
  · have d1 : decide ((60 : Int) < (l.length : Int)) = false := decide_eq_false (by omega)
    have hl9 : l.length ≤ 1000 := by omega
    go_enter Try.func5, Try.ntmps5
    try dsimp only [List.append]
    go_wp2_with fail
    all_goals try omega
    go_loopw [7, 8] (fun sv iv wr => ∃ (i : Nat) (s : Int), iv = .int .i64 i ∧ sv = .int .i64 s ∧ i ≤ l.length ∧ 0 ≤ s ∧ s ≤ 1048576 * (i : Int) ∧ Hid (Fef.Dist l i ∧ (∀ a x, a < i → l[a]? = some x → 1 ≤ x.units ∧ x.units ≤ 1048576)) ∧ Hid (Fef.sumU ((l.take i).filter fun x => !Fef.other p x) = s) ∧ St w0 wr []) (fun _ iv _ => l.length - (intOf iv).toNat)
    case atStart => exact ⟨0, 0, rfl, rfl, by omega, by omega, by omega, Lib.hid ⟨fun a b x y _ h => by omega, fun a x h => by omega⟩, Lib.hid rfl, I⟩
    case round =>
      clear I
      obtain ⟨i, s, rfl, rfl, hi, hs0, hs1, HD, HSu, I⟩ := hrel
      rename World => wr
      by_cases hlt : i < l.length
      · have hlt2 : (i : Int) < (l.length : Int) := by omega
        obtain ⟨x, hx⟩ : ∃ x, l[i]? = some x := ⟨_, List.getElem?_eq_getElem hlt⟩
        have HX := Lib.hid hx
        obtain ⟨ba, oa, rfl, c0, c1, c2, -⟩ := lot_cells HS.out hx
        have C0 := Lib.hid c0
        have C1 := Lib.hid c1
        have C2 := Lib.hid c2
        clear hx c0 c1 c2
        go_wp2_with fail
        go_loopw [9] (fun kv wi => ∃ k : Nat, kv = .int .i64 k ∧ k ≤ i ∧ Hid (∀ b z, b < k → l[b]? = some z → x.id ≠ z.id) ∧ St w0 wi []) (fun kv _ => i - (intOf kv).toNat)
        case atStart => exact ⟨0, rfl, by omega, Lib.hid (fun b z h => by omega), I⟩
        case round =>
          clear I
          obtain ⟨k, rfl, hk, HK, I⟩ := hrel
          rename World => wi
          by_cases hki : k < i
          · have hki2 : (k : Int) < (i : Int) := by omega
            have hkl : k < l.length := by omega
            have hkl2 : (k : Int) < (l.length : Int) := by omega
            obtain ⟨y, hy⟩ : ∃ y, l[k]? = some y := ⟨_, List.getElem?_eq_getElem hkl⟩
            have HY := Lib.hid hy
            obtain ⟨ba2, oa2, hab, y0, -, -, -⟩ := lot_cells HS.out hy
            injection hab with hab
            injection hab with e1 e2 e3
            subst e1 e2
            clear e3 hy
            go_upto_region 10 with fail
            have q0 := I.fr.cell C0.out
            have q1 := I.fr.cell y0
            by_cases hid : y.id = x.id
            · have hb : (y.id == x.id) = true := by simpa using hid
              clear hid
              go_quiet (fail)
              replace I := I.drewN nq
              clear q0 q1
              go_wp2_with (first | (first | ((with_reducible refine gguard ?_); (first | refine w_guardT (by rfl) (fun hb => ?_) (fun hb => ?_) | refine w_guardF (by rfl) (fun hb => ?_) (fun hb => ?_)) <;> first | (cases hb; done) | cases hb | ((try rw [hb]) <;> (try simp at hb) <;> go_prune <;> (try (with_reducible replace hb := eqPair hb)))) | (((with_reducible refine gbox ?_); first | refine w_boxA I (by rfl) ?_ | refine w_box1 I (by (conv => lhs; whnf) <;> rfl) (by rfl) ?_); clear I; intro g w I) | ((with_reducible refine galloc ?_); refine w_alloc I ?_; clear I; intro g w I) | ((with_reducible refine gload ?_); first | refine w_loadB I (by rfl) (by first | (with_reducible repeat (first | exact .here | apply At.there)); done | repeat (first | exact .here | apply At.there)) (by rfl) ?_ | refine w_loadBR I (by rfl) (by first | (with_reducible repeat (first | exact .here | apply At.there)); done | repeat (first | exact .here | apply At.there)) (by rfl) ?_ | refine w_load0 I (by rfl) (by assumption) ?_) | ((with_reducible refine gstore ?_); (first | refine w_storeB I (by rfl) (by (conv => lhs; whnf) <;> rfl) (by first | (with_reducible repeat (first | exact .here | apply Upd.there)); done | repeat (first | exact .here | apply Upd.there)) (by rfl) (by rfl) (by simp only [List.set_cons_zero, List.set_cons_succ] <;> rfl) ?_ | refine w_storeBR I (by rfl) (by rfl) (by first | (with_reducible repeat (first | exact .here | apply Upd.there)); done | repeat (first | exact .here | apply Upd.there)) (by rfl) (by rfl) (by rfl) ?_); clear I; intro w I)) | (go_at_call 24; go_must (refine (law15_alive _).mono ?_; rintro _ w1 ⟨rfl, hf⟩; replace I := I.still hf; clear hf)))
              go_ret
              exact ⟨rfl, I.fr⟩
            · have hb : (y.id == x.id) = false := by simpa using hid
              have HK2 : Hid (∀ b z, b < k + 1 → l[b]? = some z → x.id ≠ z.id) := Lib.hid (fun b z hb hz => by
                by_cases e : b = k
                · subst e; rw [HY.out] at hz; obtain rfl := Option.some.inj hz; exact fun e => hid e.symm
                · exact HK.out b z (by omega) hz)
              clear hid
              go_quiet (fail)
              replace I := I.drewN nq
              clear q0 q1
              go_wp2_with fail
              go_roundw
              case rel => exact ⟨k + 1, by go_num, by omega, HK2, I⟩
              case measure => simp [intOf]; omega
          · obtain rfl : k = i := by omega
            have hki2 : ¬ (k : Int) < (k : Int) := by omega
            have q1 := I.fr.cell C1.out
            have q2 := I.fr.cell C2.out
            by_cases u1 : x.units < 1
            · have f1 : decide (x.units < 1) = true := decide_eq_true u1
              go_wp2_with (first | (first | ((with_reducible refine gguard ?_); (first | refine w_guardT (by rfl) (fun hb => ?_) (fun hb => ?_) | refine w_guardF (by rfl) (fun hb => ?_) (fun hb => ?_)) <;> first | (cases hb; done) | cases hb | ((try rw [hb]) <;> (try simp at hb) <;> go_prune <;> (try (with_reducible replace hb := eqPair hb)))) | (((with_reducible refine gbox ?_); first | refine w_boxA I (by rfl) ?_ | refine w_box1 I (by (conv => lhs; whnf) <;> rfl) (by rfl) ?_); clear I; intro g w I) | ((with_reducible refine galloc ?_); refine w_alloc I ?_; clear I; intro g w I) | ((with_reducible refine gload ?_); first | refine w_loadB I (by rfl) (by first | (with_reducible repeat (first | exact .here | apply At.there)); done | repeat (first | exact .here | apply At.there)) (by rfl) ?_ | refine w_loadBR I (by rfl) (by first | (with_reducible repeat (first | exact .here | apply At.there)); done | repeat (first | exact .here | apply At.there)) (by rfl) ?_ | refine w_load0 I (by rfl) (by assumption) ?_) | ((with_reducible refine gstore ?_); (first | refine w_storeB I (by rfl) (by (conv => lhs; whnf) <;> rfl) (by first | (with_reducible repeat (first | exact .here | apply Upd.there)); done | repeat (first | exact .here | apply Upd.there)) (by rfl) (by rfl) (by simp only [List.set_cons_zero, List.set_cons_succ] <;> rfl) ?_ | refine w_storeBR I (by rfl) (by rfl) (by first | (with_reducible repeat (first | exact .here | apply Upd.there)); done | repeat (first | exact .here | apply Upd.there)) (by rfl) (by rfl) (by rfl) ?_); clear I; intro w I)) | (go_at_call 24; go_must (refine (law15_alive _).mono ?_; rintro _ w1 ⟨rfl, hf⟩; replace I := I.still hf; clear hf)))
              go_ret
              exact ⟨rfl, I.fr⟩
            · have f1 : decide (x.units < 1) = false := decide_eq_false u1
              by_cases u2 : 1048576 < x.units
              · have f2 : decide (1048576 < x.units) = true := decide_eq_true u2
                go_wp2_with (first | (first | ((with_reducible refine gguard ?_); (first | refine w_guardT (by rfl) (fun hb => ?_) (fun hb => ?_) | refine w_guardF (by rfl) (fun hb => ?_) (fun hb => ?_)) <;> first | (cases hb; done) | cases hb | ((try rw [hb]) <;> (try simp at hb) <;> go_prune <;> (try (with_reducible replace hb := eqPair hb)))) | (((with_reducible refine gbox ?_); first | refine w_boxA I (by rfl) ?_ | refine w_box1 I (by (conv => lhs; whnf) <;> rfl) (by rfl) ?_); clear I; intro g w I) | ((with_reducible refine galloc ?_); refine w_alloc I ?_; clear I; intro g w I) | ((with_reducible refine gload ?_); first | refine w_loadB I (by rfl) (by first | (with_reducible repeat (first | exact .here | apply At.there)); done | repeat (first | exact .here | apply At.there)) (by rfl) ?_ | refine w_loadBR I (by rfl) (by first | (with_reducible repeat (first | exact .here | apply At.there)); done | repeat (first | exact .here | apply At.there)) (by rfl) ?_ | refine w_load0 I (by rfl) (by assumption) ?_) | ((with_reducible refine gstore ?_); (first | refine w_storeB I (by rfl) (by (conv => lhs; whnf) <;> rfl) (by first | (with_reducible repeat (first | exact .here | apply Upd.there)); done | repeat (first | exact .here | apply Upd.there)) (by rfl) (by rfl) (by simp only [List.set_cons_zero, List.set_cons_succ] <;> rfl) ?_ | refine w_storeBR I (by rfl) (by rfl) (by first | (with_reducible repeat (first | exact .here | apply Upd.there)); done | repeat (first | exact .here | apply Upd.there)) (by rfl) (by rfl) (by rfl) ?_); clear I; intro w I)) | (go_at_call 24; go_must (refine (law15_alive _).mono ?_; rintro _ w1 ⟨rfl, hf⟩; replace I := I.still hf; clear hf)))
                go_ret
                exact ⟨rfl, I.fr⟩
              · have f2 : decide (1048576 < x.units) = false := decide_eq_false u2
                have HD2 : Hid (Fef.Dist l (k + 1) ∧ (∀ a x, a < k + 1 → l[a]? = some x → 1 ≤ x.units ∧ x.units ≤ 1048576)) := Lib.hid ⟨fun a b z1 z2 hab ha h1 h2 => by
                  by_cases e : a = k
                  · subst e; rw [HX.out] at h1; obtain rfl := Option.some.inj h1; exact HK.out b z2 hab h2
                  · exact HD.out.1 a b z1 z2 hab (by omega) h1 h2, fun a z ha hz => by
                  by_cases e : a = k
                  · subst e; rw [HX.out] at hz; obtain rfl := Option.some.inj hz; omega
                  · exact HD.out.2 a z (by omega) hz⟩
                have HF : Hid (Fef.sumU ((l.take (k + 1)).filter fun x => !Fef.other p x) = if x.prod = p then s + x.units else s) := Lib.hid (by
                  obtain ⟨hkl, hxe⟩ := List.getElem?_eq_some_iff.1 HX.out
                  rw [List.take_succ_eq_append_getElem hkl, hxe, List.filter_append, Fef.sumU_append, HSu.out]
                  by_cases e : x.prod = p
                  · rw [if_pos e, List.filter_cons_of_pos (by unfold Fef.other; simp [e])]; simp [Fef.sumU]
                  · rw [if_neg e, List.filter_cons_of_neg (by unfold Fef.other; simpa using e)]; simp [Fef.sumU])
                by_cases hp : x.prod = p
                · have f3 : (x.prod == p) = true := by simpa using hp
                  obtain ⟨s2, hs2⟩ : ∃ s2, s + x.units = s2 := ⟨_, rfl⟩
                  have hw : IntKind.i64.wrap (s + x.units) = s2 := by rw [IntKind.wrap_i64]; omega
                  have HF2 : Hid (Fef.sumU ((l.take (k + 1)).filter fun x => !Fef.other p x) = s2) := Lib.hid (by rw [HF.out, if_pos hp, hs2])
                  have hs3 : 0 ≤ s2 ∧ s2 ≤ 1048576 * ((k + 1 : Nat) : Int) := by omega
                  have HS3 := Lib.hid hs3
                  clear hp hs2 hs3
                  go_wp2_with fail
                  all_goals try omega
                  exact ⟨⟨k + 1, s2, by go_num, rfl, by omega, HS3.out.1, HS3.out.2, HD2, HF2, I⟩, by simp [intOf]; omega⟩
                · have f3 : (x.prod == p) = false := by simpa using hp
                  have HF2 : Hid (Fef.sumU ((l.take (k + 1)).filter fun x => !Fef.other p x) = s) := Lib.hid (by rw [HF.out, if_neg hp])
                  clear hp
                  go_wp2_with fail
                  all_goals try omega
                  exact ⟨⟨k + 1, s, by go_num, rfl, by omega, by omega, by omega, HD2, HF2, I⟩, by simp [intOf]; omega⟩
      · obtain rfl : i = l.length := by omega
        have hlt2 : ¬ (l.length : Int) < (l.length : Int) := by omega
        rw [List.take_length] at HSu
        have HU : Hid (∀ x ∈ l, 1 ≤ x.units ∧ x.units ≤ 1048576) := Lib.hid (fun x hx => by
          obtain ⟨a, ha, hae⟩ := List.mem_iff_getElem.1 hx
          exact HD.out.2 a x ha (by rw [List.getElem?_eq_getElem ha, hae]))
        go_upto_region 17 with (first | (first | ((with_reducible refine gguard ?_); (first | refine w_guardT (by rfl) (fun hb => ?_) (fun hb => ?_) | refine w_guardF (by rfl) (fun hb => ?_) (fun hb => ?_)) <;> first | (cases hb; done) | cases hb | ((try rw [hb]) <;> (try simp at hb) <;> go_prune <;> (try (with_reducible replace hb := eqPair hb)))) | (((with_reducible refine gbox ?_); first | refine w_boxA I (by rfl) ?_ | refine w_box1 I (by (conv => lhs; whnf) <;> rfl) (by rfl) ?_); clear I; intro g w I) | ((with_reducible refine galloc ?_); refine w_alloc I ?_; clear I; intro g w I) | ((with_reducible refine gload ?_); first | refine w_loadB I (by rfl) (by first | (with_reducible repeat (first | exact .here | apply At.there)); done | repeat (first | exact .here | apply At.there)) (by rfl) ?_ | refine w_loadBR I (by rfl) (by first | (with_reducible repeat (first | exact .here | apply At.there)); done | repeat (first | exact .here | apply At.there)) (by rfl) ?_ | refine w_load0 I (by rfl) (by assumption) ?_) | ((with_reducible refine gstore ?_); (first | refine w_storeB I (by rfl) (by (conv => lhs; whnf) <;> rfl) (by first | (with_reducible repeat (first | exact .here | apply Upd.there)); done | repeat (first | exact .here | apply Upd.there)) (by rfl) (by rfl) (by simp only [List.set_cons_zero, List.set_cons_succ] <;> rfl) ?_ | refine w_storeBR I (by rfl) (by rfl) (by first | (with_reducible repeat (first | exact .here | apply Upd.there)); done | repeat (first | exact .here | apply Upd.there)) (by rfl) (by rfl) (by rfl) ?_); clear I; intro w I)) | (go_at_call 27; go_must (refine (fefo_Pick _ l p u hu hl9 hg _ (HV.out.frF I.fr)).mono ?_; rintro _ w1 ⟨M, vt, n1, HM, rfl, Hn1, S⟩; replace I := I.then1 S; clear S)))
        all_goals try omega
        have HMs : Hid (Fef.sumU M = s) := Lib.hid (by rw [← HSu.out]; exact Fef.sumU_perm HM.out.1)
        have HMu : Hid (∀ x ∈ M, 1 ≤ x.units ∧ x.units ≤ 1048576) := Lib.hid (fun x hx => HU.out x (Fef.in_l HM.out.1 hx).1)
        have HMl : Hid (M.length ≤ l.length) := Lib.hid (by rw [HM.out.1.length_eq]; exact List.length_filter_le _ _)
        have hbad : M.any Fef.bad = false := List.any_eq_false.2 (fun x hx => by have := HMu.out x hx; unfold Fef.bad; simp; omega)
        by_cases hu1 : u < 1
        · have hR : Fef.res M u = ([], 1) := if_pos (.inl hu1)
          have hn1 : n1 = 1 := by rw [Hn1.out, hR]
          rw [hR] at I
          have f1 : decide (u < 1) = true := decide_eq_true hu1
          subst hn1
          clear hR Hn1 hbad
          obtain ⟨A3, c3, rfl, -, -, -, -⟩ := (I.own .here).reads encK_len
          dsimp only [List.length_nil] at *
          go_wp2_with (first | (first | ((with_reducible refine gguard ?_); (first | refine w_guardT (by rfl) (fun hb => ?_) (fun hb => ?_) | refine w_guardF (by rfl) (fun hb => ?_) (fun hb => ?_)) <;> first | (cases hb; done) | cases hb | ((try rw [hb]) <;> (try simp at hb) <;> go_prune <;> (try (with_reducible replace hb := eqPair hb)))) | (((with_reducible refine gbox ?_); first | refine w_boxA I (by rfl) ?_ | refine w_box1 I (by (conv => lhs; whnf) <;> rfl) (by rfl) ?_); clear I; intro g w I) | ((with_reducible refine galloc ?_); refine w_alloc I ?_; clear I; intro g w I) | ((with_reducible refine gload ?_); first | refine w_loadB I (by rfl) (by first | (with_reducible repeat (first | exact .here | apply At.there)); done | repeat (first | exact .here | apply At.there)) (by rfl) ?_ | refine w_loadBR I (by rfl) (by first | (with_reducible repeat (first | exact .here | apply At.there)); done | repeat (first | exact .here | apply At.there)) (by rfl) ?_ | refine w_load0 I (by rfl) (by assumption) ?_) | ((with_reducible refine gstore ?_); (first | refine w_storeB I (by rfl) (by (conv => lhs; whnf) <;> rfl) (by first | (with_reducible repeat (first | exact .here | apply Upd.there)); done | repeat (first | exact .here | apply Upd.there)) (by rfl) (by rfl) (by simp only [List.set_cons_zero, List.set_cons_succ] <;> rfl) ?_ | refine w_storeBR I (by rfl) (by rfl) (by first | (with_reducible repeat (first | exact .here | apply Upd.there)); done | repeat (first | exact .here | apply Upd.there)) (by rfl) (by rfl) (by rfl) ?_); clear I; intro w I)) | (go_at_call 24; go_must (refine (law15_alive _).mono ?_; rintro _ w1 ⟨rfl, hf⟩; replace I := I.still hf; clear hf)))
          all_goals try omega
          go_ret
          exact ⟨rfl, I.fr⟩
        · have f1 : decide (u < 1) = false := decide_eq_false hu1
          have hrs := Fef.run_spec M u (fun x hx => (HMu.out x hx).1) (by omega)
          rw [HMs.out] at hrs
          have hR0 : Fef.res M u = if 0 < (Fef.run M u).2 then ([], 11) else ((Fef.run M u).1, 0) := if_neg (by rw [hbad]; simp; omega)
          by_cases hsu : s < u
          · have f2 : decide (s < u) = true := decide_eq_true hsu
            have hR : Fef.res M u = ([], 11) := by rw [hR0, if_pos (hrs.1 hsu)]
            have hn1 : n1 = 11 := by rw [Hn1.out, hR]
            rw [hR] at I
            subst hn1
            clear hR Hn1 hbad hR0 hrs
            obtain ⟨A3, c3, rfl, -, -, -, -⟩ := (I.own .here).reads encK_len
            dsimp only [List.length_nil] at *
            go_wp2_with (first | (first | ((with_reducible refine gguard ?_); (first | refine w_guardT (by rfl) (fun hb => ?_) (fun hb => ?_) | refine w_guardF (by rfl) (fun hb => ?_) (fun hb => ?_)) <;> first | (cases hb; done) | cases hb | ((try rw [hb]) <;> (try simp at hb) <;> go_prune <;> (try (with_reducible replace hb := eqPair hb)))) | (((with_reducible refine gbox ?_); first | refine w_boxA I (by rfl) ?_ | refine w_box1 I (by (conv => lhs; whnf) <;> rfl) (by rfl) ?_); clear I; intro g w I) | ((with_reducible refine galloc ?_); refine w_alloc I ?_; clear I; intro g w I) | ((with_reducible refine gload ?_); first | refine w_loadB I (by rfl) (by first | (with_reducible repeat (first | exact .here | apply At.there)); done | repeat (first | exact .here | apply At.there)) (by rfl) ?_ | refine w_loadBR I (by rfl) (by first | (with_reducible repeat (first | exact .here | apply At.there)); done | repeat (first | exact .here | apply At.there)) (by rfl) ?_ | refine w_load0 I (by rfl) (by assumption) ?_) | ((with_reducible refine gstore ?_); (first | refine w_storeB I (by rfl) (by (conv => lhs; whnf) <;> rfl) (by first | (with_reducible repeat (first | exact .here | apply Upd.there)); done | repeat (first | exact .here | apply Upd.there)) (by rfl) (by rfl) (by simp only [List.set_cons_zero, List.set_cons_succ] <;> rfl) ?_ | refine w_storeBR I (by rfl) (by rfl) (by first | (with_reducible repeat (first | exact .here | apply Upd.there)); done | repeat (first | exact .here | apply Upd.there)) (by rfl) (by rfl) (by rfl) ?_); clear I; intro w I)) | (go_at_call 24; go_must (refine (law15_alive _).mono ?_; rintro _ w1 ⟨rfl, hf⟩; replace I := I.still hf; clear hf)))
            all_goals try omega
            go_ret
            exact ⟨rfl, I.fr⟩
          · have f2 : decide (s < u) = false := decide_eq_false hsu
            obtain ⟨hr2, n, y, w, hy, hT, hw1, hw2, hsum⟩ := hrs.2 (by omega)
            have hR : Fef.res M u = ((Fef.run M u).1, 0) := by rw [hR0, if_neg (by omega)]
            have hn1 : n1 = 0 := by rw [Hn1.out, hR]
            rw [hR] at I
            subst hn1
            dsimp only at I
            obtain ⟨T, hTe⟩ : ∃ T, (Fef.run M u).1 = T := ⟨_, rfl⟩
            rw [hTe] at hT I
            have hnM := (List.getElem?_eq_some_iff.1 hy).1
            have hTl : T.length = n + 1 := by rw [hT, List.length_append, List.length_map, List.length_take]; simp; omega
            obtain ⟨nT, hnT⟩ : ∃ nT, n + 1 = nT := ⟨_, rfl⟩
            have HTl : Hid (T.length = nT) := Lib.hid (by rw [hTl, hnT])
            have HTn : Hid (T[n]? = some (y.id, w)) := Lib.hid (by
              rw [hT, List.getElem?_append_right (by rw [List.length_map, List.length_take]; omega), List.length_map, List.length_take, show n - min n M.length = 0 by omega]; rfl)
            have HTot : Hid (Fef.tot T = u) := Lib.hid (by
              have h1 : (T.map Prod.snd).sum = u := by
                rw [hT, List.map_append, List.sum_append, Fef.sum_full]; simp; omega
              have h2 := Fef.tot_of T 0 (Int.le_refl _) (fun t ht => by
                rw [hT] at ht
                rcases List.mem_append.1 ht with ht | ht
                · obtain ⟨z, hz, rfl⟩ := List.mem_map.1 ht
                  have := (HMu.out z (List.mem_of_mem_take hz)).1
                  show 0 ≤ z.units; omega
                · rw [List.mem_singleton.1 ht]; show 0 ≤ w; omega) (by rw [h1]; omega)
              unfold Fef.tot
              rw [h2, h1]; omega)
            have hyl := (Fef.in_l HM.out.1 (List.mem_of_getElem? hy)).1
            obtain ⟨e, hel, hee⟩ := List.mem_iff_getElem.1 hyl
            have he : l[e]? = some y := by rw [List.getElem?_eq_getElem hel, hee]
            have HE := Lib.hid he
            have HPl := Lib.hid (fun wx hx => place_is (.slice A l.length cp) l e y hl9 he (fun k z hk hz hid => by have := Fef.Dist.inj HD.out.1 hz he hid; omega) wx hx)
            have HFO := Lib.hid (fun (i : Nat) (x : Lt) (hx : l[i]? = some x) => Fef.first_out HD.out.1 hg HM.out.1 HM.out.2 HU.out hy ⟨hw1, hw2⟩ hT hx he)
            have hnTl : nT ≤ l.length := by have := HMl.out; omega
            have hwn : IntKind.i64.wrap ((nT : Int) - 1) = (n : Int) := by rw [IntKind.wrap_i64]; omega
            have hn2 : n < nT := by omega
            have hn3 : (n : Int) < (nT : Int) := by omega
            have b1 : ((nT : Int) == 0) = false := by simp; omega
            have b2 : (nT == 0) = false := by simp; omega
            have b3 : ¬ nT = 0 := by omega
            have b4 : decide ((l.length : Int) < (nT : Int)) = false := decide_eq_false (by omega)
            have b5 : decide (l.length < nT) = false := decide_eq_false (by omega)
            have b6 : ¬ l.length < nT := by omega
            have b7 : (u != u) = false := by simp
            have b8 : decide ((e : Int) < (0 : Int)) = false := decide_eq_false (by omega)
            have b9 : ¬ (e : Int) < 0 := by omega
            have hel2 : (e : Int) < (l.length : Int) := by omega
            obtain ⟨A3, c3, hvt, -, -, -, -⟩ := (I.own .here).reads encK_len
            rw [HTl.out] at hvt
            subst hvt
            obtain ⟨g3, hg3, t0, -⟩ := takes_at I .here HTn.out
            subst hg3
            dsimp only at t0
            obtain ⟨bb, oo, hab, y0, -, -, y3⟩ := lot_cells HS.out he
            subst hab
            have Y0 := Lib.hid y0
            have Y3 := Lib.hid y3
            clear hR Hn1 hbad hR0 hrs hr2 hT hTl hsum hy hTe hyl hee he hnT hnM hg y0 y3 hu1 hsu
            have hTotl : T.length ≤ 100000 := by rw [HTl.out]; omega
            go_upto_region 25 with (first | (first | ((with_reducible refine gguard ?_); (first | refine w_guardT (by rfl) (fun hb => ?_) (fun hb => ?_) | refine w_guardF (by rfl) (fun hb => ?_) (fun hb => ?_)) <;> first | (cases hb; done) | cases hb | ((try rw [hb]) <;> (try simp at hb) <;> go_prune <;> (try (with_reducible replace hb := eqPair hb)))) | (((with_reducible refine gbox ?_); first | refine w_boxA I (by rfl) ?_ | refine w_box1 I (by (conv => lhs; whnf) <;> rfl) (by rfl) ?_); clear I; intro g w I) | ((with_reducible refine galloc ?_); refine w_alloc I ?_; clear I; intro g w I) | ((with_reducible refine gload ?_); first | refine w_loadB I (by rfl) (by first | (with_reducible repeat (first | exact .here | apply At.there)); done | repeat (first | exact .here | apply At.there)) (by rfl) ?_ | refine w_loadBR I (by rfl) (by first | (with_reducible repeat (first | exact .here | apply At.there)); done | repeat (first | exact .here | apply At.there)) (by rfl) ?_ | refine w_load0 I (by rfl) (by assumption) ?_) | ((with_reducible refine gstore ?_); (first | refine w_storeB I (by rfl) (by (conv => lhs; whnf) <;> rfl) (by first | (with_reducible repeat (first | exact .here | apply Upd.there)); done | repeat (first | exact .here | apply Upd.there)) (by rfl) (by rfl) (by simp only [List.set_cons_zero, List.set_cons_succ] <;> rfl) ?_ | refine w_storeBR I (by rfl) (by rfl) (by first | (with_reducible repeat (first | exact .here | apply Upd.there)); done | repeat (first | exact .here | apply Upd.there)) (by rfl) (by rfl) (by rfl) ?_); clear I; intro w I)) | (go_at_call 29; go_must (refine (total_is _ T u HTot.out hTotl _ (I.slv .here encK_len)).mono ?_; rintro _ w1 ⟨rfl, hf⟩; replace I := I.still hf; replace t0 := hf.cell t0; clear hf)) | (go_at_call 30; go_must (refine (HPl.out _ (HV.out.frF I.fr)).mono ?_; rintro _ w1 ⟨rfl, hf⟩; replace I := I.still hf; clear hf)))
            all_goals try omega
            clear t0 hTotl
            go_wp2_with fail
            go_loopw [14] (fun iv wr => ∃ i : Nat, iv = .int .i64 i ∧ i ≤ l.length ∧ St w0 wr [OwnS 52 2 encK (.slice (some ⟨g3, 0, none⟩) nT c3) T]) (fun iv _ => l.length - (intOf iv).toNat)
            case atStart => exact ⟨0, rfl, by omega, I⟩
            case round =>
              clear I
              obtain ⟨i, rfl, hi, I⟩ := hrel
              rename World => wr
              by_cases hlt : i < l.length
              · have hli : (i : Int) < (l.length : Int) := by omega
                obtain ⟨x, hx⟩ : ∃ x, l[i]? = some x := ⟨_, List.getElem?_eq_getElem hlt⟩
                have HF := Lib.hid (HFO.out i x hx)
                obtain ⟨bb2, oo2, hab, c0, c1, c2, c3'⟩ := lot_cells HS.out hx
                injection hab with hab
                injection hab with e1 e2 e3
                subst e1 e2
                clear e3
                have C0 := Lib.hid c0
                have C1 := Lib.hid c1
                have C2 := Lib.hid c2
                have C3 := Lib.hid c3'
                clear hx c0 c1 c2 c3'
                go_wp2_with fail
                go_loopw [15, 16] (fun nv kv wi => ∃ (k : Nat) (a : Int), kv = .int .i64 k ∧ nv = .int .i64 a ∧ k ≤ nT ∧ Hid (Fef.acc (T.take k) x.id = a) ∧ St w0 wi [OwnS 52 2 encK (.slice (some ⟨g3, 0, none⟩) nT c3) T]) (fun _ kv _ => nT - (intOf kv).toNat)
                case atStart => exact ⟨0, 0, rfl, rfl, by omega, Lib.hid rfl, I⟩
                case round =>
                  clear I
                  obtain ⟨k, a, rfl, rfl, hk, HA, I⟩ := hrel
                  rename World => wi
                  by_cases hkn : k < nT
                  · have hkn2 : (k : Int) < (nT : Int) := by omega
                    have hkT : k < T.length := by rw [HTl.out]; exact hkn
                    obtain ⟨t, ht⟩ : ∃ t, T[k]? = some t := ⟨_, List.getElem?_eq_getElem hkT⟩
                    have HA2 : Hid (Fef.acc (T.take (k + 1)) x.id = if t.1 = x.id then IntKind.i64.wrap (a + t.2) else a) := Lib.hid (by
                      obtain ⟨_, hte⟩ := List.getElem?_eq_some_iff.1 ht
                      rw [List.take_succ_eq_append_getElem hkT, hte, Fef.acc_snoc, HA.out])
                    obtain ⟨g9, hg9, t0, t1⟩ := takes_at I .here ht
                    injection hg9 with hg9
                    injection hg9 with e1 e2 e3
                    subst e1
                    clear e2 e3 ht
                    have q0 := I.fr.cell C0.out
                    by_cases hid : t.1 = x.id
                    · have hb : (t.1 == x.id) = true := by simpa using hid
                      obtain ⟨m, hm⟩ : ∃ m, IntKind.i64.wrap (a + t.2) = m := ⟨_, rfl⟩
                      have HA3 : Hid (Fef.acc (T.take (k + 1)) x.id = m) := Lib.hid (by rw [HA2.out, if_pos hid, hm])
                      clear hid
                      go_upto_region 32 with fail
                      go_quiet (fail)
                      replace I := I.drewN nq
                      go_wp2_with fail
                      go_roundw
                      case rel => exact ⟨k + 1, m, by go_num, rfl, by omega, HA3, I⟩
                      case measure => simp [intOf]; omega
                    · have hb : (t.1 == x.id) = false := by simpa using hid
                      have HA3 : Hid (Fef.acc (T.take (k + 1)) x.id = a) := Lib.hid (by rw [HA2.out, if_neg hid])
                      clear hid
                      go_upto_region 32 with fail
                      go_quiet (fail)
                      replace I := I.drewN nq
                      go_wp2_with fail
                      go_roundw
                      case rel => exact ⟨k + 1, a, by go_num, rfl, by omega, HA3, I⟩
                      case measure => simp [intOf]; omega
                  · obtain rfl : k = nT := by omega
                    have hkn2 : ¬ (k : Int) < (k : Int) := by omega
                    have HA2 : Hid (Fef.acc T x.id = a) := Lib.hid (by have := HA.out; rwa [List.take_of_length_le (by rw [HTl.out]; exact Nat.le_refl _)] at this)
                    go_upto_region 34 with fail
                    go_cut [17] from 173 to 214 (fun cv wx => ∃ ah : Bool, cv = .bool ah ∧ Hid (ah = Fef.aheadB p x y) ∧ St w0 wx [OwnS 52 2 encK (.slice (some ⟨g3, 0, none⟩) k c3) T])
                    case first =>
                      by_cases hp : x.prod = p
                      · have f3 : (x.prod == p) = true := by simpa using hp
                        by_cases h1 : x.exp < y.exp
                        · have f4 : decide (x.exp < y.exp) = true := decide_eq_true h1
                          have HAh : Hid (true = Fef.aheadB p x y) := Lib.hid (by unfold Fef.aheadB; rw [f3, f4]; rfl)
                          clear hp h1
                          have q0 := I.fr.cell C0.out
                          have q1 := I.fr.cell C1.out
                          have q3 := I.fr.cell C3.out
                          have z3 := I.fr.cell Y3.out
                          go_quiet (fail)
                          replace I := I.drewN nq
                          clear q0 q1 q3 z3
                          go_wp2_with fail
                          go_meet
                          case rel => exact ⟨true, rfl, HAh, I⟩
                        · have f4 : decide (x.exp < y.exp) = false := decide_eq_false h1
                          by_cases h2 : x.exp = y.exp
                          · have f5 : (x.exp == y.exp) = true := by simpa using h2
                            by_cases h3 : x.id < y.id
                            · have f6 : decide (x.id < y.id) = true := decide_eq_true h3
                              have HAh : Hid (true = Fef.aheadB p x y) := Lib.hid (by unfold Fef.aheadB; rw [f3, f4, f5, f6]; rfl)
                              clear hp h1 h2 h3
                              have q0 := I.fr.cell C0.out
                              have q1 := I.fr.cell C1.out
                              have q3 := I.fr.cell C3.out
                              have z3 := I.fr.cell Y3.out
                              go_quiet (fail)
                              replace I := I.drewN nq
                              clear q0 q1 q3 z3
                              go_wp2_with fail
                              go_meet
                              case rel => exact ⟨true, rfl, HAh, I⟩
                            · have f6 : decide (x.id < y.id) = false := decide_eq_false h3
                              have HAh : Hid (false = Fef.aheadB p x y) := Lib.hid (by unfold Fef.aheadB; rw [f3, f4, f5, f6]; rfl)
                              clear hp h1 h2 h3
                              have q0 := I.fr.cell C0.out
                              have q1 := I.fr.cell C1.out
                              have q3 := I.fr.cell C3.out
                              have z3 := I.fr.cell Y3.out
                              go_quiet (fail)
                              replace I := I.drewN nq
                              clear q0 q1 q3 z3
                              go_wp2_with fail
                              go_meet
                              case rel => exact ⟨false, rfl, HAh, I⟩
                          · have f5 : (x.exp == y.exp) = false := by simpa using h2
                            have HAh : Hid (false = Fef.aheadB p x y) := Lib.hid (by unfold Fef.aheadB; rw [f3, f4, f5]; rfl)
                            clear hp h1 h2
                            have q0 := I.fr.cell C0.out
                            have q1 := I.fr.cell C1.out
                            have q3 := I.fr.cell C3.out
                            have z3 := I.fr.cell Y3.out
                            go_quiet (fail)
                            replace I := I.drewN nq
                            clear q0 q1 q3 z3
                            go_wp2_with fail
                            go_meet
                            case rel => exact ⟨false, rfl, HAh, I⟩
                      · have f3 : (x.prod == p) = false := by simpa using hp
                        have HAh : Hid (false = Fef.aheadB p x y) := Lib.hid (by unfold Fef.aheadB; rw [f3]; rfl)
                        clear hp
                        have q0 := I.fr.cell C0.out
                        have q1 := I.fr.cell C1.out
                        have q3 := I.fr.cell C3.out
                        have z3 := I.fr.cell Y3.out
                        go_quiet (fail)
                        replace I := I.drewN nq
                        clear q0 q1 q3 z3
                        go_wp2_with fail
                        go_meet
                        case rel => exact ⟨false, rfl, HAh, I⟩
                    case rest =>
                      clear I
                      obtain ⟨ah, rfl, HAh, I⟩ := hcut
                      have q1 := I.fr.cell C1.out
                      have q2 := I.fr.cell C2.out
                      have FF := HF.out
                      rw [HA2.out] at FF
                      have HFF := Lib.hid FF
                      clear FF
                      cases ah with
                      | true =>
                        obtain ⟨ha, hie⟩ := HFF.out.1 HAh.out.symm
                        subst ha
                        have n1 : ((i : Int) == (e : Int)) = false := by simp; omega
                        have n2 : (i == e) = false := by simpa using hie
                        have n3 : (x.units != x.units) = false := by simp
                        go_wp2_with fail
                        exact ⟨⟨i + 1, by go_num, by omega, I⟩, by simp [intOf]; omega⟩
                      | false =>
                        by_cases hie : i = e
                        · obtain ⟨h1, h2, h3⟩ := HFF.out.2.2 hie
                          have n1 : ((i : Int) == (e : Int)) = true := by simp [hie]
                          have n2 : (i == e) = true := by simp [hie]
                          have n3 : ((i : Int) != (e : Int)) = false := by simp [hie]
                          have n4 : (i != e) = false := by simp [hie]
                          have n5 : decide (a < 1) = false := decide_eq_false (by omega)
                          have n6 : decide (x.units < a) = false := decide_eq_false (by omega)
                          have n7 : (x.prod != p) = false := by simp [h3]
                          clear h3
                          have HIE := Lib.hid hie
                          clear hie
                          go_wp2_with fail
                          exact ⟨⟨i + 1, by go_num, by omega, I⟩, by simp [intOf]; omega⟩
                        · have ha := HFF.out.2.1 HAh.out.symm hie
                          subst ha
                          have n1 : ((i : Int) == (e : Int)) = false := by simp; omega
                          have n2 : (i == e) = false := by simpa using hie
                          have n3 : ((i : Int) != (e : Int)) = true := by simp; omega
                          have n4 : (i != e) = true := by simpa using hie
                          go_wp2_with fail
                          exact ⟨⟨i + 1, by go_num, by omega, I⟩, by simp [intOf]; omega⟩
              · obtain rfl : i = l.length := by omega
                have hli : ¬ (l.length : Int) < (l.length : Int) := by omega
                go_wp2_with (first | (first | ((with_reducible refine gguard ?_); (first | refine w_guardT (by rfl) (fun hb => ?_) (fun hb => ?_) | refine w_guardF (by rfl) (fun hb => ?_) (fun hb => ?_)) <;> first | (cases hb; done) | cases hb | ((try rw [hb]) <;> (try simp at hb) <;> go_prune <;> (try (with_reducible replace hb := eqPair hb)))) | (((with_reducible refine gbox ?_); first | refine w_boxA I (by rfl) ?_ | refine w_box1 I (by (conv => lhs; whnf) <;> rfl) (by rfl) ?_); clear I; intro g w I) | ((with_reducible refine galloc ?_); refine w_alloc I ?_; clear I; intro g w I) | ((with_reducible refine gload ?_); first | refine w_loadB I (by rfl) (by first | (with_reducible repeat (first | exact .here | apply At.there)); done | repeat (first | exact .here | apply At.there)) (by rfl) ?_ | refine w_loadBR I (by rfl) (by first | (with_reducible repeat (first | exact .here | apply At.there)); done | repeat (first | exact .here | apply At.there)) (by rfl) ?_ | refine w_load0 I (by rfl) (by assumption) ?_) | ((with_reducible refine gstore ?_); (first | refine w_storeB I (by rfl) (by (conv => lhs; whnf) <;> rfl) (by first | (with_reducible repeat (first | exact .here | apply Upd.there)); done | repeat (first | exact .here | apply Upd.there)) (by rfl) (by rfl) (by simp only [List.set_cons_zero, List.set_cons_succ] <;> rfl) ?_ | refine w_storeBR I (by rfl) (by rfl) (by first | (with_reducible repeat (first | exact .here | apply Upd.there)); done | repeat (first | exact .here | apply Upd.there)) (by rfl) (by rfl) (by rfl) ?_); clear I; intro w I)) | (go_at_call 24; go_must (refine (law15_alive _).mono ?_; rintro _ w1 ⟨rfl, hf⟩; replace I := I.still hf; clear hf)))
                go_ret
                exact ⟨rfl, I.fr⟩

set_option maxRecDepth 100000 in
theorem walk {H : Type} {enc : TypeId × Value → H} (W : World) (base : Nat) (args : Array Value) (ds : List (DataW H)) (ps : List MemPlace) (hval : ∀ (j : Nat) t v, Try.f5.params[j]? = some t → args[j]? = some v → Value.okWide Try.prog W .any base t v)
    (hA : DataW.TrodAll enc Try.prog W 0 (fun _ => true) true Try.f5.params.toList args.toList ds ps) : Calls Try.prog 5 args W fun e W' => e = .returned (.bool true) ∧ Fr W W' := by
  rw [Try.params5] at hA
  obtain ⟨v0, vs0, d0, ds0, p0, q0, hargs, rfl, rfl, h0, r0⟩ := trodAll_cons hA
  obtain ⟨v1, vs1, d1, ds1, p1, q1, rfl, rfl, rfl, h1, r1⟩ := trodAll_cons r0
  obtain ⟨v2, vs2, d2, ds2, p2, q2, rfl, rfl, rfl, h2, r2⟩ := trodAll_cons r1
  obtain ⟨rfl, rfl, rfl⟩ := trodAll_nil r2
  obtain rfl : args = #[v0, v1, v2] := by cases args; simp_all
  rw [Try.params5] at hval
  obtain ⟨l, h⟩ := open_slv_arg Try.underlying42 (hval 0 _ v0 rfl rfl) h0 opens_lots
  obtain ⟨p, rfl, rfl, rfl, -⟩ := open_int Try.underlying3 (hval 1 _ v1 rfl rfl) h1
  obtain ⟨u, rfl, rfl, rfl, w1⟩ := open_int Try.underlying3 (hval 2 _ v2 rfl rfl) h2
  have w2 : -9223372036854775808 ≤ u ∧ u ≤ 9223372036854775807 := by simpa [Lit.wf, IntKind.min, IntKind.max, IntKind.signed, IntKind.bits] using w1
  exact law v0 (Fef.retag l) p u w2 (Fef.retag_tagged l) W (Lots.retag h)

theorem own : ownKnob Try.prog.godebug = none := by kernel_rfl

set_option maxRecDepth 100000 in
theorem lifted (os : Os) (started : os.Started) (H : Type) (enc : TypeId × Value → H) :
    ReturnsInHanded {} Try.checked os 5 .any (Rows.fefoFirstSpec.pre6 enc Try.prog Try.f5 Rows.fefoFirstRow.domain false) (Rows.fefoFirstSpec.post enc Try.prog Try.f5 false true false false) :=
  Hf.law_lifted (C := Try.checked) own started (by kernel_rfl) Try.func5
    (ChangeSpec.witness6 (enc := enc) (C := Try.checked) false ⟨#[], #[.slice none 0 0, .int .i64 0, .int .i64 0], []⟩ 8 (by kernel_rfl) (by kernel_rfl) (by kernel_rfl) (by kernel_rfl))
    rfl (by kernel_rfl) Try.underlying4 (by kernel_rfl) (by kernel_rfl)
    (by intro ds h; rw [Try.params5] at h; match ds, h with | [_, _, _], _ => rfl) walk

theorem over : Rows.fefoFirstRow.holds Try.pinned (OpenSpec.ofChange Rows.fefoFirstSpec) :=
  OpenClaim.holds_of_wide 5 Try.f5 rfl rfl rfl rfl rfl rfl rfl ⟨rfl, rfl, rfl, rfl, rfl⟩ rfl rfl rfl rfl rfl (by kernel_rfl) Try.func5 (by kernel_rfl)
    (of_decide_eq_true (by kernel_rfl)) (by unfold Func.isWrapper; first | (rw [if_pos (by decide +kernel)]; kernel_rfl) | (rw [if_neg (by decide +kernel)]; exact ⟨rfl, rfl⟩))
    (fun os started H enc _ => lifted os started H enc)

/-- The statement. -/
theorem proved : Rows.FefoFirstSaid := over
#print axioms proved
end Go.Proofs.Ytggeloihnbjogaa.fefoFirst
