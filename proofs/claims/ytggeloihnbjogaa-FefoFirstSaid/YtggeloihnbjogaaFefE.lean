
/- Lots (layer 15): what is picked: the reference's; totals. -/
import Derived.Test.YtggeloihnbjogaaFefD
namespace Go.Proofs.Ytggeloihnbjogaa
open Go.RowKit Go.Hf
namespace Fef
theorem any_bad {M l : List Lt} {p : Int} (hp : M.Perm (l.filter fun x => !other p x)) : M.any bad = l.any fun x => !other p x && bad x := by
  rw [← List.any_filter, Bool.eq_iff_iff, List.any_eq_true, List.any_eq_true]
  constructor
  · rintro ⟨x, hx, hb⟩; exact ⟨x, hp.mem_iff.1 hx, hb⟩
  · rintro ⟨x, hx, hb⟩; exact ⟨x, hp.mem_iff.2 hx, hb⟩
theorem take_any {l : List Lt} {i : Nat} {x : Lt} (hx : l[i]? = some x) (f : Lt → Bool) : (l.take (i + 1)).any f = ((l.take i).any f || f x) := by
  obtain ⟨hi, hxe⟩ := List.getElem?_eq_some_iff.1 hx
  rw [List.take_succ_eq_append_getElem hi, List.any_append, hxe]
  simp
/-- The marks behind i places. -/
def Marks (l : List Lt) (p : Int) (i : Nat) (T : List Bool) : Prop := T.length = l.length ∧ ∀ j x, l[j]? = some x → T[j]? = some (decide (j < i) && other p x)
theorem Marks.start (l : List Lt) (p : Int) : Marks l p 0 (List.replicate l.length false) := by
  refine ⟨List.length_replicate, fun j x hx => ?_⟩
  rw [List.getElem?_replicate, if_pos (List.getElem?_eq_some_iff.1 hx).1]
  simp
theorem Marks.next {l : List Lt} {p : Int} {i : Nat} {T : List Bool} (h : Marks l p i T) {x : Lt} (hx : l[i]? = some x) {o : Bool} (ho : other p x = o) : Marks l p (i + 1) (T.set i o) := by
  obtain ⟨hi, hxe⟩ := List.getElem?_eq_some_iff.1 hx
  refine ⟨by rw [List.length_set]; exact h.1, fun j y hy => ?_⟩
  by_cases e : j = i
  · subst e
    rw [hx] at hy
    obtain rfl := Option.some.inj hy
    rw [List.getElem?_set_self (by rw [h.1]; exact hi), ho]
    simp
  · rw [List.getElem?_set_ne (fun h => e h.symm), h.2 j y hy]
    congr 2
    exact decide_eq_decide.2 (by omega)
theorem Marks.taken {l : List Lt} {p : Int} {T : List Bool} (h : Marks l p l.length T) (M : List Lt) : Taken l M (fun x => !other p x) 0 T := by
  refine ⟨h.1, fun i x hx => ?_⟩
  rw [h.2 i x hx]
  simp [(List.getElem?_eq_some_iff.1 hx).1]
end Fef
set_option maxRecDepth 100000 in
set_option maxHeartbeats 8000000 in
theorem ref15_Pick (v : Value) (l M : List Lt) (p u : Int) (hu : -9223372036854775808 ≤ u ∧ u ≤ 9223372036854775807) (hl : l.length ≤ 1000) (hg : Fef.Tagged l) (hp : M.Perm (l.filter fun x => !Fef.other p x)) (hs : M.Pairwise Fef.lt) (w0 : World) (h : Lots w0 v l) :
    Calls Try.prog 28 #[v, .int .i64 p, .int .i64 u] w0 fun e w' => ∃ (v' : Value) (n : Int), e = .returned (.tuple #[v', .int .i64 n]) ∧ Hid (n = (Fef.res M u).2) ∧ St w0 w' [OwnS 53 2 encK v' (Fef.res M u).1] := by
  have HV := Lib.hid h
  obtain ⟨A, _, c, rfl, rfl, -, -, -, hsl⟩ := h
  have HS := Lib.hid hsl
  have HP := Lib.hid (And.intro hp hs)
  have HG := Lib.hid hg
  have HMl : Hid (M.length ≤ l.length) := Lib.hid (by rw [hp.length_eq]; exact List.length_filter_le _ _)
  have HAny := Lib.hid (Fef.any_bad hp)
  clear hsl hp hs hg
  have I := St.refl w0
  obtain ⟨qu, hqu⟩ : ∃ qu, decide (u < 1) = qu := ⟨_, rfl⟩
  have HQu := Lib.hid hqu
  go_enter Try.func28, Try.ntmps28
  try dsimp only [List.append]
  go_wp2_with (first | ((with_reducible refine gmake ?_); refine w_make1 (enc := encO) (zero := false) rfl rfl I (q := l.length) (by rfl) (by rfl) (by omega) (by unfold maxLen; omega) ?_; clear I; intro g w I))
  rename Nat => gt
  clear hqu
  go_loopw [9, 10] (fun qv iv wr => ∃ (i : Nat) (qw : Bool) (T : List Bool), iv = .int .i64 i ∧ qv = .bool qw ∧ i ≤ l.length ∧ Hid (Fef.Marks l p i T) ∧ Hid (qw = (decide (u < 1) || (l.take i).any fun x => !Fef.other p x && Fef.bad x)) ∧ St w0 wr [OwnS 4 1 encO (.slice (some ⟨gt, 0, none⟩) l.length l.length) T]) (fun _ iv _ => l.length - (intOf iv).toNat)
  case atStart => exact ⟨0, qu, _, rfl, rfl, by omega, Lib.hid (Fef.Marks.start l p), Lib.hid (by rw [HQu.out]; simp), I⟩
  case round =>
    clear I
    obtain ⟨i, qw, T, rfl, rfl, hi, HT, HW, I⟩ := hrel
    rename World => wr
    by_cases hlt : i < l.length
    · have hlt2 : (i : Int) < (l.length : Int) := by omega
      obtain ⟨x, hx⟩ : ∃ x, l[i]? = some x := ⟨_, List.getElem?_eq_getElem hlt⟩
      have HX := Lib.hid hx
      obtain ⟨ba, oa, rfl, -, hc1, hc2, -⟩ := lot_cells HS.out hx
      obtain ⟨old, hold⟩ : ∃ old, T[i]? = some old := ⟨_, List.getElem?_eq_getElem (by rw [HT.out.1]; exact hlt)⟩
      have HO := Lib.hid hold
      have HTA := Lib.hid (Fef.take_any hx fun x => !Fef.other p x && Fef.bad x)
      clear hx hold
      cases ho : Fef.other p x with
      | true =>
        have HT2 : Hid (Fef.Marks l p (i + 1) (T.set i true)) := Lib.hid (HT.out.next HX.out ho)
        have HW2 : Hid (qw = (decide (u < 1) || (l.take (i + 1)).any fun x => !Fef.other p x && Fef.bad x)) := Lib.hid (by rw [HTA.out, HW.out, ho]; simp)
        have n1 : (x.prod != p) = true := ho
        have n2 : (x.prod == p) = false := by simpa [Fef.other] using ho
        clear ho
        cases qw with
        | true =>
          go_wp2_with (first | ((with_reducible refine gstore (ty := 4) ?_); refine w_storeO (l' := T.set i true) encO_len I (by rfl) (by rfl) (by first | (with_reducible repeat (first | exact .here | apply Upd.there)); done | repeat (first | exact .here | apply Upd.there)) (i := i) (f := 0) (b := old) (b' := true) (by first | rfl | simp) HO.out (by decide) (by rfl) (by rfl) rfl ?_; clear I; intro w I) | (first | ((with_reducible refine gguard ?_); (first | refine w_guardT (by rfl) (fun hb => ?_) (fun hb => ?_) | refine w_guardF (by rfl) (fun hb => ?_) (fun hb => ?_)) <;> first | (cases hb; done) | cases hb | ((try rw [hb]) <;> (try simp at hb) <;> go_prune <;> (try (with_reducible replace hb := eqPair hb)))) | (((with_reducible refine gbox ?_); first | refine w_boxA I (by rfl) ?_ | refine w_box1 I (by (conv => lhs; whnf) <;> rfl) (by rfl) ?_); clear I; intro g w I) | ((with_reducible refine galloc ?_); refine w_alloc I ?_; clear I; intro g w I) | ((with_reducible refine gload ?_); first | refine w_loadB I (by rfl) (by first | (with_reducible repeat (first | exact .here | apply At.there)); done | repeat (first | exact .here | apply At.there)) (by rfl) ?_ | refine w_loadBR I (by rfl) (by first | (with_reducible repeat (first | exact .here | apply At.there)); done | repeat (first | exact .here | apply At.there)) (by rfl) ?_ | refine w_load0 I (by rfl) (by assumption) ?_) | ((with_reducible refine gstore ?_); (first | refine w_storeB I (by rfl) (by (conv => lhs; whnf) <;> rfl) (by first | (with_reducible repeat (first | exact .here | apply Upd.there)); done | repeat (first | exact .here | apply Upd.there)) (by rfl) (by rfl) (by simp only [List.set_cons_zero, List.set_cons_succ] <;> rfl) ?_ | refine w_storeBR I (by rfl) (by rfl) (by first | (with_reducible repeat (first | exact .here | apply Upd.there)); done | repeat (first | exact .here | apply Upd.there)) (by rfl) (by rfl) (by rfl) ?_); clear I; intro w I)))
          all_goals try omega
          go_roundw
          case rel => exact ⟨i + 1, true, T.set i true, by go_num, rfl, by omega, HT2, HW2, I⟩
          case measure => simp [intOf]; omega
        | false =>
          go_wp2_with (first | ((with_reducible refine gstore (ty := 4) ?_); refine w_storeO (l' := T.set i true) encO_len I (by rfl) (by rfl) (by first | (with_reducible repeat (first | exact .here | apply Upd.there)); done | repeat (first | exact .here | apply Upd.there)) (i := i) (f := 0) (b := old) (b' := true) (by first | rfl | simp) HO.out (by decide) (by rfl) (by rfl) rfl ?_; clear I; intro w I) | (first | ((with_reducible refine gguard ?_); (first | refine w_guardT (by rfl) (fun hb => ?_) (fun hb => ?_) | refine w_guardF (by rfl) (fun hb => ?_) (fun hb => ?_)) <;> first | (cases hb; done) | cases hb | ((try rw [hb]) <;> (try simp at hb) <;> go_prune <;> (try (with_reducible replace hb := eqPair hb)))) | (((with_reducible refine gbox ?_); first | refine w_boxA I (by rfl) ?_ | refine w_box1 I (by (conv => lhs; whnf) <;> rfl) (by rfl) ?_); clear I; intro g w I) | ((with_reducible refine galloc ?_); refine w_alloc I ?_; clear I; intro g w I) | ((with_reducible refine gload ?_); first | refine w_loadB I (by rfl) (by first | (with_reducible repeat (first | exact .here | apply At.there)); done | repeat (first | exact .here | apply At.there)) (by rfl) ?_ | refine w_loadBR I (by rfl) (by first | (with_reducible repeat (first | exact .here | apply At.there)); done | repeat (first | exact .here | apply At.there)) (by rfl) ?_ | refine w_load0 I (by rfl) (by assumption) ?_) | ((with_reducible refine gstore ?_); (first | refine w_storeB I (by rfl) (by (conv => lhs; whnf) <;> rfl) (by first | (with_reducible repeat (first | exact .here | apply Upd.there)); done | repeat (first | exact .here | apply Upd.there)) (by rfl) (by rfl) (by simp only [List.set_cons_zero, List.set_cons_succ] <;> rfl) ?_ | refine w_storeBR I (by rfl) (by rfl) (by first | (with_reducible repeat (first | exact .here | apply Upd.there)); done | repeat (first | exact .here | apply Upd.there)) (by rfl) (by rfl) (by rfl) ?_); clear I; intro w I)))
          all_goals try omega
          go_roundw
          case rel => exact ⟨i + 1, false, T.set i true, by go_num, rfl, by omega, HT2, HW2, I⟩
          case measure => simp [intOf]; omega
      | false =>
        have HT2 : Hid (Fef.Marks l p (i + 1) (T.set i false)) := Lib.hid (HT.out.next HX.out ho)
        have HOo := Lib.hid ho
        have n1 : (x.prod != p) = false := ho
        have n2 : (x.prod == p) = true := by simpa [Fef.other] using ho
        clear ho
        cases qw with
        | true =>
          have HW2 : Hid (true = (decide (u < 1) || (l.take (i + 1)).any fun x => !Fef.other p x && Fef.bad x)) := Lib.hid (by rw [HTA.out, ← Bool.or_assoc, ← HW.out]; rfl)
          go_wp2_with (first | ((with_reducible refine gstore (ty := 4) ?_); refine w_storeO (l' := T.set i false) encO_len I (by rfl) (by rfl) (by first | (with_reducible repeat (first | exact .here | apply Upd.there)); done | repeat (first | exact .here | apply Upd.there)) (i := i) (f := 0) (b := old) (b' := false) (by first | rfl | simp) HO.out (by decide) (by rfl) (by rfl) rfl ?_; clear I; intro w I) | (first | ((with_reducible refine gguard ?_); (first | refine w_guardT (by rfl) (fun hb => ?_) (fun hb => ?_) | refine w_guardF (by rfl) (fun hb => ?_) (fun hb => ?_)) <;> first | (cases hb; done) | cases hb | ((try rw [hb]) <;> (try simp at hb) <;> go_prune <;> (try (with_reducible replace hb := eqPair hb)))) | (((with_reducible refine gbox ?_); first | refine w_boxA I (by rfl) ?_ | refine w_box1 I (by (conv => lhs; whnf) <;> rfl) (by rfl) ?_); clear I; intro g w I) | ((with_reducible refine galloc ?_); refine w_alloc I ?_; clear I; intro g w I) | ((with_reducible refine gload ?_); first | refine w_loadB I (by rfl) (by first | (with_reducible repeat (first | exact .here | apply At.there)); done | repeat (first | exact .here | apply At.there)) (by rfl) ?_ | refine w_loadBR I (by rfl) (by first | (with_reducible repeat (first | exact .here | apply At.there)); done | repeat (first | exact .here | apply At.there)) (by rfl) ?_ | refine w_load0 I (by rfl) (by assumption) ?_) | ((with_reducible refine gstore ?_); (first | refine w_storeB I (by rfl) (by (conv => lhs; whnf) <;> rfl) (by first | (with_reducible repeat (first | exact .here | apply Upd.there)); done | repeat (first | exact .here | apply Upd.there)) (by rfl) (by rfl) (by simp only [List.set_cons_zero, List.set_cons_succ] <;> rfl) ?_ | refine w_storeBR I (by rfl) (by rfl) (by first | (with_reducible repeat (first | exact .here | apply Upd.there)); done | repeat (first | exact .here | apply Upd.there)) (by rfl) (by rfl) (by rfl) ?_); clear I; intro w I)))
          all_goals try omega
          go_roundw
          case rel => exact ⟨i + 1, true, T.set i false, by go_num, rfl, by omega, HT2, HW2, I⟩
          case measure => simp [intOf]; omega
        | false =>
          by_cases u1 : x.units < 1
          · have d1 : decide (x.units < 1) = true := decide_eq_true u1
            have HW2 : Hid (true = (decide (u < 1) || (l.take (i + 1)).any fun x => !Fef.other p x && Fef.bad x)) := Lib.hid (by rw [HTA.out, ← Bool.or_assoc, ← HW.out, HOo.out]; unfold Fef.bad; rw [decide_eq_true u1]; rfl)
            clear u1
            go_wp2_with (first | ((with_reducible refine gstore (ty := 4) ?_); refine w_storeO (l' := T.set i false) encO_len I (by rfl) (by rfl) (by first | (with_reducible repeat (first | exact .here | apply Upd.there)); done | repeat (first | exact .here | apply Upd.there)) (i := i) (f := 0) (b := old) (b' := false) (by first | rfl | simp) HO.out (by decide) (by rfl) (by rfl) rfl ?_; clear I; intro w I) | (first | ((with_reducible refine gguard ?_); (first | refine w_guardT (by rfl) (fun hb => ?_) (fun hb => ?_) | refine w_guardF (by rfl) (fun hb => ?_) (fun hb => ?_)) <;> first | (cases hb; done) | cases hb | ((try rw [hb]) <;> (try simp at hb) <;> go_prune <;> (try (with_reducible replace hb := eqPair hb)))) | (((with_reducible refine gbox ?_); first | refine w_boxA I (by rfl) ?_ | refine w_box1 I (by (conv => lhs; whnf) <;> rfl) (by rfl) ?_); clear I; intro g w I) | ((with_reducible refine galloc ?_); refine w_alloc I ?_; clear I; intro g w I) | ((with_reducible refine gload ?_); first | refine w_loadB I (by rfl) (by first | (with_reducible repeat (first | exact .here | apply At.there)); done | repeat (first | exact .here | apply At.there)) (by rfl) ?_ | refine w_loadBR I (by rfl) (by first | (with_reducible repeat (first | exact .here | apply At.there)); done | repeat (first | exact .here | apply At.there)) (by rfl) ?_ | refine w_load0 I (by rfl) (by assumption) ?_) | ((with_reducible refine gstore ?_); (first | refine w_storeB I (by rfl) (by (conv => lhs; whnf) <;> rfl) (by first | (with_reducible repeat (first | exact .here | apply Upd.there)); done | repeat (first | exact .here | apply Upd.there)) (by rfl) (by rfl) (by simp only [List.set_cons_zero, List.set_cons_succ] <;> rfl) ?_ | refine w_storeBR I (by rfl) (by rfl) (by first | (with_reducible repeat (first | exact .here | apply Upd.there)); done | repeat (first | exact .here | apply Upd.there)) (by rfl) (by rfl) (by rfl) ?_); clear I; intro w I)))
            all_goals try omega
            go_roundw
            case rel => exact ⟨i + 1, true, T.set i false, by go_num, rfl, by omega, HT2, HW2, I⟩
            case measure => simp [intOf]; omega
          · have d1 : decide (x.units < 1) = false := decide_eq_false u1
            by_cases u2 : 1048576 < x.units
            · have d2 : decide (1048576 < x.units) = true := decide_eq_true u2
              have HW2 : Hid (true = (decide (u < 1) || (l.take (i + 1)).any fun x => !Fef.other p x && Fef.bad x)) := Lib.hid (by rw [HTA.out, ← Bool.or_assoc, ← HW.out, HOo.out]; unfold Fef.bad; rw [decide_eq_true u2]; simp)
              clear u1 u2
              go_wp2_with (first | ((with_reducible refine gstore (ty := 4) ?_); refine w_storeO (l' := T.set i false) encO_len I (by rfl) (by rfl) (by first | (with_reducible repeat (first | exact .here | apply Upd.there)); done | repeat (first | exact .here | apply Upd.there)) (i := i) (f := 0) (b := old) (b' := false) (by first | rfl | simp) HO.out (by decide) (by rfl) (by rfl) rfl ?_; clear I; intro w I) | (first | ((with_reducible refine gguard ?_); (first | refine w_guardT (by rfl) (fun hb => ?_) (fun hb => ?_) | refine w_guardF (by rfl) (fun hb => ?_) (fun hb => ?_)) <;> first | (cases hb; done) | cases hb | ((try rw [hb]) <;> (try simp at hb) <;> go_prune <;> (try (with_reducible replace hb := eqPair hb)))) | (((with_reducible refine gbox ?_); first | refine w_boxA I (by rfl) ?_ | refine w_box1 I (by (conv => lhs; whnf) <;> rfl) (by rfl) ?_); clear I; intro g w I) | ((with_reducible refine galloc ?_); refine w_alloc I ?_; clear I; intro g w I) | ((with_reducible refine gload ?_); first | refine w_loadB I (by rfl) (by first | (with_reducible repeat (first | exact .here | apply At.there)); done | repeat (first | exact .here | apply At.there)) (by rfl) ?_ | refine w_loadBR I (by rfl) (by first | (with_reducible repeat (first | exact .here | apply At.there)); done | repeat (first | exact .here | apply At.there)) (by rfl) ?_ | refine w_load0 I (by rfl) (by assumption) ?_) | ((with_reducible refine gstore ?_); (first | refine w_storeB I (by rfl) (by (conv => lhs; whnf) <;> rfl) (by first | (with_reducible repeat (first | exact .here | apply Upd.there)); done | repeat (first | exact .here | apply Upd.there)) (by rfl) (by rfl) (by simp only [List.set_cons_zero, List.set_cons_succ] <;> rfl) ?_ | refine w_storeBR I (by rfl) (by rfl) (by first | (with_reducible repeat (first | exact .here | apply Upd.there)); done | repeat (first | exact .here | apply Upd.there)) (by rfl) (by rfl) (by rfl) ?_); clear I; intro w I)))
              all_goals try omega
              go_roundw
              case rel => exact ⟨i + 1, true, T.set i false, by go_num, rfl, by omega, HT2, HW2, I⟩
              case measure => simp [intOf]; omega
            · have d2 : decide (1048576 < x.units) = false := decide_eq_false u2
              have HW2 : Hid (false = (decide (u < 1) || (l.take (i + 1)).any fun x => !Fef.other p x && Fef.bad x)) := Lib.hid (by rw [HTA.out, ← Bool.or_assoc, ← HW.out, HOo.out]; unfold Fef.bad; rw [decide_eq_false u1, decide_eq_false u2]; rfl)
              clear u1 u2
              go_wp2_with (first | ((with_reducible refine gstore (ty := 4) ?_); refine w_storeO (l' := T.set i false) encO_len I (by rfl) (by rfl) (by first | (with_reducible repeat (first | exact .here | apply Upd.there)); done | repeat (first | exact .here | apply Upd.there)) (i := i) (f := 0) (b := old) (b' := false) (by first | rfl | simp) HO.out (by decide) (by rfl) (by rfl) rfl ?_; clear I; intro w I) | (first | ((with_reducible refine gguard ?_); (first | refine w_guardT (by rfl) (fun hb => ?_) (fun hb => ?_) | refine w_guardF (by rfl) (fun hb => ?_) (fun hb => ?_)) <;> first | (cases hb; done) | cases hb | ((try rw [hb]) <;> (try simp at hb) <;> go_prune <;> (try (with_reducible replace hb := eqPair hb)))) | (((with_reducible refine gbox ?_); first | refine w_boxA I (by rfl) ?_ | refine w_box1 I (by (conv => lhs; whnf) <;> rfl) (by rfl) ?_); clear I; intro g w I) | ((with_reducible refine galloc ?_); refine w_alloc I ?_; clear I; intro g w I) | ((with_reducible refine gload ?_); first | refine w_loadB I (by rfl) (by first | (with_reducible repeat (first | exact .here | apply At.there)); done | repeat (first | exact .here | apply At.there)) (by rfl) ?_ | refine w_loadBR I (by rfl) (by first | (with_reducible repeat (first | exact .here | apply At.there)); done | repeat (first | exact .here | apply At.there)) (by rfl) ?_ | refine w_load0 I (by rfl) (by assumption) ?_) | ((with_reducible refine gstore ?_); (first | refine w_storeB I (by rfl) (by (conv => lhs; whnf) <;> rfl) (by first | (with_reducible repeat (first | exact .here | apply Upd.there)); done | repeat (first | exact .here | apply Upd.there)) (by rfl) (by rfl) (by simp only [List.set_cons_zero, List.set_cons_succ] <;> rfl) ?_ | refine w_storeBR I (by rfl) (by rfl) (by first | (with_reducible repeat (first | exact .here | apply Upd.there)); done | repeat (first | exact .here | apply Upd.there)) (by rfl) (by rfl) (by rfl) ?_); clear I; intro w I)))
              all_goals try omega
              go_roundw
              case rel => exact ⟨i + 1, false, T.set i false, by go_num, rfl, by omega, HT2, HW2, I⟩
              case measure => simp [intOf]; omega
    · obtain rfl : i = l.length := by omega
      have hlt2 : ¬ (l.length : Int) < (l.length : Int) := by omega
      have HTk : Hid (Fef.Taken l M (fun x => !Fef.other p x) 0 T) := Lib.hid (HT.out.taken M)
      have HWr : Hid (qw = true ↔ (u < 1 ∨ M.any Fef.bad = true)) := Lib.hid (by rw [HW.out, List.take_length, HAny.out, Bool.or_eq_true, decide_eq_true_eq])
      clear HW HT
      cases qw with
      | true =>
        have HRs : Hid (Fef.res M u = ([], 1)) := Lib.hid (if_pos (HWr.out.1 rfl))
        go_wp2_with fail
        replace I := I.nilOwn 53 2 encK
        exact ret_2 rfl (by first | (exact ResV.t _ (by rfl)) | (exact ResV.row I (by rfl) (by first | (with_reducible repeat (first | exact .here | apply At.there)); done | repeat (first | exact .here | apply At.there)) (by rfl)) | (exact ResV.one I (by rfl) (by first | (with_reducible repeat (first | exact .here | apply At.there)); done | repeat (first | exact .here | apply At.there)))) (by first | (exact ResV.t _ (by rfl)) | (exact ResV.row I (by rfl) (by first | (with_reducible repeat (first | exact .here | apply At.there)); done | repeat (first | exact .here | apply At.there)) (by rfl)) | (exact ResV.one I (by rfl) (by first | (with_reducible repeat (first | exact .here | apply At.there)); done | repeat (first | exact .here | apply At.there)))) rfl ⟨_, _, rfl, Lib.hid (by rw [HRs.out]), by rw [HRs.out]; exact I.drop (.there .here)⟩
      | false =>
        have hno : ¬ (u < 1 ∨ M.any Fef.bad = true) := fun e => by have := HWr.out.2 e; cases this
        have HRs : Hid (Fef.res M u = if 0 < (Fef.run M u).2 then ([], 11) else ((Fef.run M u).1, 0)) := Lib.hid (if_neg hno)
        have HGood : Hid (∀ x ∈ M, 1 ≤ x.units) := Lib.hid (fun x hx => by
          have hb : M.any Fef.bad = false := by rw [Bool.eq_false_iff]; exact fun e => hno (.inr e)
          have := List.any_eq_false.1 hb x hx
          unfold Fef.bad at this
          simp at this
          omega)
        have hu1 : 1 ≤ u := by omega
        clear hno HWr
        go_wp2_with fail
        replace I := I.nilOwn 53 2 encK
        go_loopw [11, 12] (fun o uv wr => ∃ (k : Nat) (uk : Int) (A2 : Option Addr) (c2 : Nat) (out : List (Int × Int)) (T : List Bool), uv = .int .i64 uk ∧ o = .slice A2 k c2 ∧ k ≤ M.length ∧ 0 ≤ uk ∧ uk ≤ u ∧ Hid (Fef.Upto M u k uk out) ∧ Hid (Fef.Taken l M (fun x => !Fef.other p x) k T) ∧ St w0 wr [OwnS 53 2 encK (.slice A2 k c2) out, OwnS 4 1 encO (.slice (some ⟨gt, 0, none⟩) l.length l.length) T]) (fun o _ _ => M.length - Fef.slLen o)
        case atStart => exact ⟨0, u, none, 0, [], T, rfl, rfl, by omega, by omega, by omega, Lib.hid (Fef.Upto.start M u), HTk, I⟩
        case round =>
          clear I HTk T
          obtain ⟨k, uk, A2, c2, out, T, rfl, rfl, hk, huk0, huku, HUp, HT, I⟩ := hrel
          rename World => wr
          by_cases hpos : 0 < uk
          · have d1 : decide ((0 : Int) < uk) = true := decide_eq_true hpos
            by_cases hkm : k < M.length
            · obtain ⟨x, hx⟩ : ∃ x, M[k]? = some x := ⟨_, List.getElem?_eq_getElem hkm⟩
              have HX := Lib.hid hx
              have hxu : 1 ≤ x.units := HGood.out x (List.mem_of_getElem? hx)
              have HKl : Hid (out.length = k) := Lib.hid HUp.out.1
              have hkl : k < l.length := by have := HMl.out; omega
              clear hx
              go_upto_region 14 with (first | (first | ((with_reducible refine gguard ?_); (first | refine w_guardT (by rfl) (fun hb => ?_) (fun hb => ?_) | refine w_guardF (by rfl) (fun hb => ?_) (fun hb => ?_)) <;> first | (cases hb; done) | cases hb | ((try rw [hb]) <;> (try simp at hb) <;> go_prune <;> (try (with_reducible replace hb := eqPair hb)))) | (((with_reducible refine gbox ?_); first | refine w_boxA I (by rfl) ?_ | refine w_box1 I (by (conv => lhs; whnf) <;> rfl) (by rfl) ?_); clear I; intro g w I) | ((with_reducible refine galloc ?_); refine w_alloc I ?_; clear I; intro g w I) | ((with_reducible refine gload ?_); first | refine w_loadB I (by rfl) (by first | (with_reducible repeat (first | exact .here | apply At.there)); done | repeat (first | exact .here | apply At.there)) (by rfl) ?_ | refine w_loadBR I (by rfl) (by first | (with_reducible repeat (first | exact .here | apply At.there)); done | repeat (first | exact .here | apply At.there)) (by rfl) ?_ | refine w_load0 I (by rfl) (by assumption) ?_) | ((with_reducible refine gstore ?_); (first | refine w_storeB I (by rfl) (by (conv => lhs; whnf) <;> rfl) (by first | (with_reducible repeat (first | exact .here | apply Upd.there)); done | repeat (first | exact .here | apply Upd.there)) (by rfl) (by rfl) (by simp only [List.set_cons_zero, List.set_cons_succ] <;> rfl) ?_ | refine w_storeBR I (by rfl) (by rfl) (by first | (with_reducible repeat (first | exact .here | apply Upd.there)); done | repeat (first | exact .here | apply Upd.there)) (by rfl) (by rfl) (by rfl) ?_); clear I; intro w I)) | (go_at_call 61; go_must (refine (first_next _ _ l M T _ k x hl HG.out HP.out.1 HP.out.2 HT.out HX.out _ (HV.out.frF I.fr) (I.slv (.there .here) encO_len)).mono ?_; rintro _ w1 ⟨b, rfl, hbl, HB, hf⟩; replace I := I.still hf; clear hf)))
              all_goals try omega
              have hbl2 : (b : Int) < (l.length : Int) := by omega
              have d9 : decide ((b : Int) < (0 : Int)) = false := decide_eq_false (by omega)
              have d9' : ¬ (b : Int) < 0 := by omega
              obtain ⟨ba, oa, rfl, hc0, -, hc2, -⟩ := lot_cells HS.out HB.out
              obtain ⟨old, hold⟩ : ∃ old, T[b]? = some old := ⟨_, List.getElem?_eq_getElem (by rw [HT.out.1]; exact hbl)⟩
              have HO := Lib.hid hold
              have HT2 : Hid (Fef.Taken l M (fun x => !Fef.other p x) (k + 1) (T.set b true)) := Lib.hid (by
                obtain ⟨hkm, hxe⟩ := List.getElem?_eq_some_iff.1 HX.out
                exact Fef.taken_next HG.out HP.out.1 HT.out hkm (by rw [hxe]; exact HB.out))
              clear hold
              by_cases hmn : uk < x.units
              · have d2 : decide (uk < x.units) = true := decide_eq_true hmn
                have hww : IntKind.i64.wrap (uk - uk) = 0 := by rw [Int.sub_self]; rfl
                have HU2 : Hid (Fef.Upto M u (k + 1) 0 (out ++ [(x.id, uk)])) := Lib.hid (by have := HUp.out.next HX.out hpos (n := uk) (by omega); rwa [Int.sub_self] at this)
                go_wp2_with (first | ((with_reducible refine gstore (ty := 4) ?_); refine w_storeO (l' := T.set b true) encO_len I (by rfl) (by rfl) (by first | (with_reducible repeat (first | exact .here | apply Upd.there)); done | repeat (first | exact .here | apply Upd.there)) (i := b) (f := 0) (b := old) (b' := true) (by first | rfl | simp) HO.out (by decide) (by rfl) (by rfl) rfl ?_; clear I; intro w I) | (first | ((with_reducible refine gguard ?_); (first | refine w_guardT (by rfl) (fun hb => ?_) (fun hb => ?_) | refine w_guardF (by rfl) (fun hb => ?_) (fun hb => ?_)) <;> first | (cases hb; done) | cases hb | ((try rw [hb]) <;> (try simp at hb) <;> go_prune <;> (try (with_reducible replace hb := eqPair hb)))) | (((with_reducible refine gbox ?_); first | refine w_boxA I (by rfl) ?_ | refine w_box1 I (by (conv => lhs; whnf) <;> rfl) (by rfl) ?_); clear I; intro g w I) | ((with_reducible refine galloc ?_); refine w_alloc I ?_; clear I; intro g w I) | ((with_reducible refine gload ?_); first | refine w_loadB I (by rfl) (by first | (with_reducible repeat (first | exact .here | apply At.there)); done | repeat (first | exact .here | apply At.there)) (by rfl) ?_ | refine w_loadBR I (by rfl) (by first | (with_reducible repeat (first | exact .here | apply At.there)); done | repeat (first | exact .here | apply At.there)) (by rfl) ?_ | refine w_load0 I (by rfl) (by assumption) ?_) | ((with_reducible refine gstore ?_); (first | refine w_storeB I (by rfl) (by (conv => lhs; whnf) <;> rfl) (by first | (with_reducible repeat (first | exact .here | apply Upd.there)); done | repeat (first | exact .here | apply Upd.there)) (by rfl) (by rfl) (by simp only [List.set_cons_zero, List.set_cons_succ] <;> rfl) ?_ | refine w_storeBR I (by rfl) (by rfl) (by first | (with_reducible repeat (first | exact .here | apply Upd.there)); done | repeat (first | exact .here | apply Upd.there)) (by rfl) (by rfl) (by rfl) ?_); clear I; intro w I)) | (((with_reducible refine gbsr ?_); refine w_bsr (enc := encK) [(x.id, uk)] encK_len I (by rfl) (by rfl) (by decide) (by decide) (by decide) ?_); clear I; intro g w I) | ((with_reducible refine gappend ?_); refine w_append encK_len encK_one (by decide) I (by rfl) (by first | (with_reducible repeat (first | exact .here | apply At.there)); done | repeat (first | exact .here | apply At.there)) (by rfl) (l2 := [(x.id, uk)]) (I.slv .here encK_len) (by have := HKl.out; first | omega | (simp <;> omega)) (by have := HKl.out; unfold maxLen; first | omega | (simp <;> omega)) ?_; clear I; intro A m c w I))
                all_goals try omega
                obtain ⟨A9, c9, e9, -, -, -, -⟩ := (I.own .here).reads encK_len
                injection e9 with _ e9 _
                rw [List.length_append, HKl.out] at e9
                subst e9
                go_roundw
                case rel => exact ⟨k + 1, 0, _, _, _, _, rfl, rfl, by omega, by omega, by omega, HU2, HT2, I.drop (.there .here)⟩
                case measure => simp only [Fef.slLen, List.length_cons, List.length_nil]; omega
              · have d2 : decide (uk < x.units) = false := decide_eq_false hmn
                obtain ⟨r, hre⟩ : ∃ r, uk - x.units = r := ⟨_, rfl⟩
                have hw : IntKind.i64.wrap (uk - x.units) = r := by rw [IntKind.wrap_i64]; omega
                have hr0 : 0 ≤ r := by omega
                have hru : r ≤ u := by omega
                have HU2 : Hid (Fef.Upto M u (k + 1) r (out ++ [(x.id, x.units)])) := Lib.hid (by have := HUp.out.next HX.out hpos (n := x.units) (by omega); rwa [hre] at this)
                clear hre
                go_wp2_with (first | ((with_reducible refine gstore (ty := 4) ?_); refine w_storeO (l' := T.set b true) encO_len I (by rfl) (by rfl) (by first | (with_reducible repeat (first | exact .here | apply Upd.there)); done | repeat (first | exact .here | apply Upd.there)) (i := b) (f := 0) (b := old) (b' := true) (by first | rfl | simp) HO.out (by decide) (by rfl) (by rfl) rfl ?_; clear I; intro w I) | (first | ((with_reducible refine gguard ?_); (first | refine w_guardT (by rfl) (fun hb => ?_) (fun hb => ?_) | refine w_guardF (by rfl) (fun hb => ?_) (fun hb => ?_)) <;> first | (cases hb; done) | cases hb | ((try rw [hb]) <;> (try simp at hb) <;> go_prune <;> (try (with_reducible replace hb := eqPair hb)))) | (((with_reducible refine gbox ?_); first | refine w_boxA I (by rfl) ?_ | refine w_box1 I (by (conv => lhs; whnf) <;> rfl) (by rfl) ?_); clear I; intro g w I) | ((with_reducible refine galloc ?_); refine w_alloc I ?_; clear I; intro g w I) | ((with_reducible refine gload ?_); first | refine w_loadB I (by rfl) (by first | (with_reducible repeat (first | exact .here | apply At.there)); done | repeat (first | exact .here | apply At.there)) (by rfl) ?_ | refine w_loadBR I (by rfl) (by first | (with_reducible repeat (first | exact .here | apply At.there)); done | repeat (first | exact .here | apply At.there)) (by rfl) ?_ | refine w_load0 I (by rfl) (by assumption) ?_) | ((with_reducible refine gstore ?_); (first | refine w_storeB I (by rfl) (by (conv => lhs; whnf) <;> rfl) (by first | (with_reducible repeat (first | exact .here | apply Upd.there)); done | repeat (first | exact .here | apply Upd.there)) (by rfl) (by rfl) (by simp only [List.set_cons_zero, List.set_cons_succ] <;> rfl) ?_ | refine w_storeBR I (by rfl) (by rfl) (by first | (with_reducible repeat (first | exact .here | apply Upd.there)); done | repeat (first | exact .here | apply Upd.there)) (by rfl) (by rfl) (by rfl) ?_); clear I; intro w I)) | (((with_reducible refine gbsr ?_); refine w_bsr (enc := encK) [(x.id, x.units)] encK_len I (by rfl) (by rfl) (by decide) (by decide) (by decide) ?_); clear I; intro g w I) | ((with_reducible refine gappend ?_); refine w_append encK_len encK_one (by decide) I (by rfl) (by first | (with_reducible repeat (first | exact .here | apply At.there)); done | repeat (first | exact .here | apply At.there)) (by rfl) (l2 := [(x.id, x.units)]) (I.slv .here encK_len) (by have := HKl.out; first | omega | (simp <;> omega)) (by have := HKl.out; unfold maxLen; first | omega | (simp <;> omega)) ?_; clear I; intro A m c w I))
                all_goals try omega
                obtain ⟨A9, c9, e9, -, -, -, -⟩ := (I.own .here).reads encK_len
                injection e9 with _ e9 _
                rw [List.length_append, HKl.out] at e9
                subst e9
                go_roundw
                case rel => exact ⟨k + 1, r, _, _, _, _, rfl, rfl, by omega, by omega, by omega, HU2, HT2, I.drop (.there .here)⟩
                case measure => simp only [Fef.slLen, List.length_cons, List.length_nil]; omega
            · have HF : Hid (Fef.res M u = ([], 11)) := Lib.hid (by rw [HRs.out, HUp.out.done (.inr (by omega)), if_pos hpos])
              go_wp2_with (first | (first | ((with_reducible refine gguard ?_); (first | refine w_guardT (by rfl) (fun hb => ?_) (fun hb => ?_) | refine w_guardF (by rfl) (fun hb => ?_) (fun hb => ?_)) <;> first | (cases hb; done) | cases hb | ((try rw [hb]) <;> (try simp at hb) <;> go_prune <;> (try (with_reducible replace hb := eqPair hb)))) | (((with_reducible refine gbox ?_); first | refine w_boxA I (by rfl) ?_ | refine w_box1 I (by (conv => lhs; whnf) <;> rfl) (by rfl) ?_); clear I; intro g w I) | ((with_reducible refine galloc ?_); refine w_alloc I ?_; clear I; intro g w I) | ((with_reducible refine gload ?_); first | refine w_loadB I (by rfl) (by first | (with_reducible repeat (first | exact .here | apply At.there)); done | repeat (first | exact .here | apply At.there)) (by rfl) ?_ | refine w_loadBR I (by rfl) (by first | (with_reducible repeat (first | exact .here | apply At.there)); done | repeat (first | exact .here | apply At.there)) (by rfl) ?_ | refine w_load0 I (by rfl) (by assumption) ?_) | ((with_reducible refine gstore ?_); (first | refine w_storeB I (by rfl) (by (conv => lhs; whnf) <;> rfl) (by first | (with_reducible repeat (first | exact .here | apply Upd.there)); done | repeat (first | exact .here | apply Upd.there)) (by rfl) (by rfl) (by simp only [List.set_cons_zero, List.set_cons_succ] <;> rfl) ?_ | refine w_storeBR I (by rfl) (by rfl) (by first | (with_reducible repeat (first | exact .here | apply Upd.there)); done | repeat (first | exact .here | apply Upd.there)) (by rfl) (by rfl) (by rfl) ?_); clear I; intro w I)) | (go_at_call 61; go_must (refine (first_none _ _ l M T _ k hl HG.out HP.out.1 HT.out (by omega) _ (HV.out.frF I.fr) (I.slv (.there .here) encO_len)).mono ?_; rintro _ w1 ⟨rfl, hf⟩; replace I := I.still hf; clear hf)))
              all_goals try omega
              replace I := I.nilOwn 53 2 encK
              exact ret_2 rfl (by first | (exact ResV.t _ (by rfl)) | (exact ResV.row I (by rfl) (by first | (with_reducible repeat (first | exact .here | apply At.there)); done | repeat (first | exact .here | apply At.there)) (by rfl)) | (exact ResV.one I (by rfl) (by first | (with_reducible repeat (first | exact .here | apply At.there)); done | repeat (first | exact .here | apply At.there)))) (by first | (exact ResV.t _ (by rfl)) | (exact ResV.row I (by rfl) (by first | (with_reducible repeat (first | exact .here | apply At.there)); done | repeat (first | exact .here | apply At.there)) (by rfl)) | (exact ResV.one I (by rfl) (by first | (with_reducible repeat (first | exact .here | apply At.there)); done | repeat (first | exact .here | apply At.there)))) rfl ⟨_, _, rfl, Lib.hid (by rw [HF.out]), by rw [HF.out]; exact (I.drop (.there .here)).drop (.there .here)⟩
          · have d1 : decide ((0 : Int) < uk) = false := decide_eq_false hpos
            have HF : Hid (Fef.res M u = (out, 0)) := Lib.hid (by rw [HRs.out, HUp.out.done (.inl (by omega)), if_neg hpos])
            go_wp2_with fail
            exact ret_2 rfl (by first | (exact ResV.t _ (by rfl)) | (exact ResV.row I (by rfl) (by first | (with_reducible repeat (first | exact .here | apply At.there)); done | repeat (first | exact .here | apply At.there)) (by rfl)) | (exact ResV.one I (by rfl) (by first | (with_reducible repeat (first | exact .here | apply At.there)); done | repeat (first | exact .here | apply At.there)))) (by first | (exact ResV.t _ (by rfl)) | (exact ResV.row I (by rfl) (by first | (with_reducible repeat (first | exact .here | apply At.there)); done | repeat (first | exact .here | apply At.there)) (by rfl)) | (exact ResV.one I (by rfl) (by first | (with_reducible repeat (first | exact .here | apply At.there)); done | repeat (first | exact .here | apply At.there)))) rfl ⟨_, _, rfl, Lib.hid (by rw [HF.out]), by rw [HF.out]; exact I.drop (.there .here)⟩
def Fef.tot (l : List (Int × Int)) : Int := l.foldl (fun a t => IntKind.i64.wrap (a + t.2)) 0
theorem Fef.tot_snoc (l : List (Int × Int)) (t : Int × Int) : Fef.tot (l ++ [t]) = IntKind.i64.wrap (Fef.tot l + t.2) := by unfold Fef.tot; rw [List.foldl_append]; rfl
set_option maxRecDepth 100000 in
set_option maxHeartbeats 1000000 in
theorem fefo_Total (v : Value) (l : List (Int × Int)) (hl : l.length ≤ 100000) (w0 : World) (h : SlV 2 (flat encK) w0 v l) :
    Calls Try.prog 29 #[v] w0 fun e w' => e = .returned (.int .i64 (Fef.tot l)) ∧ Fr w0 w' := by
  obtain ⟨A, _, c, rfl, rfl, -, -, -, hsl⟩ := h
  have HS := Lib.hid hsl
  clear hsl
  have I := St.refl w0
  go_enter Try.func29, Try.ntmps29
  try dsimp only [List.append]
  go_wp2_with fail
  go_loopw [3, 8] (fun nv iv wr => ∃ (i : Nat) (n : Int), iv = .int .i64 i ∧ nv = .int .i64 n ∧ i ≤ l.length ∧ Hid (Fef.tot (l.take i) = n) ∧ St w0 wr []) (fun _ iv _ => l.length - (intOf iv).toNat)
  case atStart => exact ⟨0, 0, rfl, rfl, by omega, Lib.hid rfl, I⟩
  case round =>
    clear I
    obtain ⟨i, n, rfl, rfl, hi, HN, I⟩ := hrel
    rename World => wr
    by_cases hlt : i < l.length
    · have hlt2 : (i : Int) < (l.length : Int) := by omega
      obtain ⟨b, o, rfl, cs, -, hcs, hxc⟩ := HS.out.at_ i hlt
      have HN2 : Hid (Fef.tot (l.take (i + 1)) = IntKind.i64.wrap (n + l[i].2)) := Lib.hid (by rw [List.take_succ_eq_append_getElem hlt, Fef.tot_snoc, HN.out])
      generalize l[i] = t at hcs HN2
      subst hcs
      have HR := Lib.hid hxc
      clear hxc
      obtain ⟨m, hm⟩ : ∃ m, IntKind.i64.wrap (n + t.2) = m := ⟨_, rfl⟩
      rw [hm] at HN2
      go_wp2_with (first | ((with_reducible refine gload (ty := 52) ?_); refine w_loadR (n := 2) (cs := encK t) (by rfl) rfl (fun j u hj => by rw [addr_add]; exact I.fr.cell (HR.out j u hj)) ?_) | (first | ((with_reducible refine gguard ?_); (first | refine w_guardT (by rfl) (fun hb => ?_) (fun hb => ?_) | refine w_guardF (by rfl) (fun hb => ?_) (fun hb => ?_)) <;> first | (cases hb; done) | cases hb | ((try rw [hb]) <;> (try simp at hb) <;> go_prune <;> (try (with_reducible replace hb := eqPair hb)))) | (((with_reducible refine gbox ?_); first | refine w_boxA I (by rfl) ?_ | refine w_box1 I (by (conv => lhs; whnf) <;> rfl) (by rfl) ?_); clear I; intro g w I) | ((with_reducible refine galloc ?_); refine w_alloc I ?_; clear I; intro g w I) | ((with_reducible refine gload ?_); first | refine w_loadB I (by rfl) (by first | (with_reducible repeat (first | exact .here | apply At.there)); done | repeat (first | exact .here | apply At.there)) (by rfl) ?_ | refine w_loadBR I (by rfl) (by first | (with_reducible repeat (first | exact .here | apply At.there)); done | repeat (first | exact .here | apply At.there)) (by rfl) ?_ | refine w_load0 I (by rfl) (by assumption) ?_) | ((with_reducible refine gstore ?_); (first | refine w_storeB I (by rfl) (by (conv => lhs; whnf) <;> rfl) (by first | (with_reducible repeat (first | exact .here | apply Upd.there)); done | repeat (first | exact .here | apply Upd.there)) (by rfl) (by rfl) (by simp only [List.set_cons_zero, List.set_cons_succ] <;> rfl) ?_ | refine w_storeBR I (by rfl) (by rfl) (by first | (with_reducible repeat (first | exact .here | apply Upd.there)); done | repeat (first | exact .here | apply Upd.there)) (by rfl) (by rfl) (by rfl) ?_); clear I; intro w I)))
      all_goals try omega
      go_roundw
      case rel => exact ⟨i + 1, m, by go_num, rfl, by omega, HN2, I.drop1⟩
      case measure => simp [intOf]; omega
    · obtain rfl : i = l.length := by omega
      have hlt2 : ¬ (l.length : Int) < (l.length : Int) := by omega
      have HE : Hid (Fef.tot l = n) := Lib.hid (by rw [← HN.out, List.take_length])
      go_wp2_with fail
      go_ret
      exact ⟨by rw [HE.out]; rfl, I.fr⟩
end Go.Proofs.Ytggeloihnbjogaa
