
/- Readings (layer 6): contracts of ahead (a binary search), last, At, Next, All, Clone. -/
import Derived.Test.YtggeloihnbjogaaSerA
import Derived.Test.YtggeloihnbjogaaSerP
import Derived.Deep.RegionHeld3
import Derived.Deep.QuietTactic
namespace Go.Proofs.Ytggeloihnbjogaa
open Go.RowKit Go.Hf

/-- A series that is read: its cells. -/
def SerIs (w : World) (g : Nat) (a b : Int) (l : List Rd) : Prop := ∃ (A : Option Addr) (c : Nat), w.cell? ⟨g, 0, none⟩ = some (.int .i64 a) ∧ w.cell? ⟨g, 1, none⟩ = some (.int .i64 b) ∧ w.cell? ⟨g, 2, none⟩ = some (.slice A l.length c) ∧ Rds w (.slice A l.length c) l
theorem SerIs.fr {w w' : World} {g : Nat} {a b : Int} {l : List Rd} (h : SerIs w g a b l) (hf : Fr w w') : SerIs w' g a b l := by
  obtain ⟨A, c, h0, h1, h2, h3⟩ := h
  exact ⟨A, c, hf.cell h0, hf.cell h1, hf.cell h2, h3.fr (flat_stays _) hf⟩
theorem SerO.is {g : Nat} {a b : Int} {l : List Rd} {w0 w : World} {L R : List Asr} (I : St w0 w L) (hA : At (SerO g a b l) L R) : SerIs w g a b l := by
  obtain ⟨v, J⟩ := SerO.open I hA
  obtain ⟨A, c, rfl, _⟩ := (J.own (v := v) (l := l) (.there .here)).reads encR_len
  exact ⟨A, c, J.cell .here rfl, J.cell .here rfl, J.cell .here rfl, J.slv (.there .here) encR_len⟩
set_option maxRecDepth 100000 in
theorem series_ahead1 (g g1 g2 : Nat) (a b : Int) (l : List Rd) (m : Int) (i : Nat) (hi : i < l.length) (w : World) (hs : SerIs w g a b l) (h1 : w.cell? ⟨g1, 0, none⟩ = some (.pointer (some ⟨g, 0, none⟩))) (h2 : w.cell? ⟨g2, 0, none⟩ = some (.int .i64 m)) :
    Calls Try.prog 98 #[.int .i64 i, .pointer (some ⟨g1, 0, none⟩), .pointer (some ⟨g2, 0, none⟩)] w fun e w' => e = .returned (.bool (decide (m < l[i].m))) ∧ Fr w w' := by
  obtain ⟨A, c, _, _, h3, hv⟩ := hs
  have hll := hv.len_le
  unfold maxLen at hll
  obtain ⟨A', _, c', e1, _, _, _, _, hs⟩ := hv
  injection e1 with e1 _ _
  subst e1
  obtain ⟨b', o, rfl, hc, _, _⟩ := atR hs i hi
  have hi2 : (i : Int) < (l.length : Int) := by omega
  have hi0 : (0 : Int) ≤ (i : Int) := by omega
  generalize l[i] = y at *
  clear hs
  go_enter Try.func98, Try.ntmps98
  go_upto_region 1 with fail
  go_quiet (fail)
  go_wp2_with fail
  go_ret
  exact ⟨rfl, (Fr.refl _).drewN _⟩
abbrev aheadF (g1 g2 : Nat) : Value := .func (.func 98) #[] #[.pointer (some ⟨g1, 0, none⟩), .pointer (some ⟨g2, 0, none⟩)]
set_option maxRecDepth 100000 in
set_option maxHeartbeats 1000000 in
theorem series_Search (g1 g2 n r : Nat) (hn : n ≤ 1000000) (hr : r ≤ n) (w0 : World) (hU : ∀ i : Nat, i < n → ∀ wx, Fr w0 wx → Calls Try.prog 98 #[.int .i64 i, .pointer (some ⟨g1, 0, none⟩), .pointer (some ⟨g2, 0, none⟩)] wx fun e w' => e = .returned (.bool (decide (r ≤ i))) ∧ Fr wx w') :
    Calls Try.prog 97 #[.int .i64 n, aheadF g1 g2] w0 fun e w' => e = .returned (.int .i64 r) ∧ Fr w0 w' := by
  have HU := Lib.hid hU
  clear hU
  go_enter Try.func97, Try.ntmps97
  go_wp2_with fail
  go_loopw [5, 6] (fun vi vj wr => ∃ i j : Nat, vi = .int .i64 i ∧ vj = .int .i64 j ∧ i ≤ r ∧ r ≤ j ∧ j ≤ n ∧ Fr w0 wr) (fun vi vj _ => (intOf vj).toNat - (intOf vi).toNat)
  case atStart => exact ⟨0, n, rfl, rfl, by omega, hr, by omega, Fr.refl _⟩
  case round =>
    obtain ⟨i, j, rfl, rfl, hi, hj, hjn, hf⟩ := hrel
    rename World => wr
    by_cases hlt : i < j
    · obtain ⟨h, hh⟩ : ∃ h : Nat, (i + j) / 2 = h := ⟨_, rfl⟩
      have hh1 : i ≤ h ∧ h < j := by omega
      have HC := Lib.hid (HU.out h (by omega))
      have hlt2 : (i : Int) < (j : Int) := by omega
      have hh2 : ((i : Int) + (j : Int)) / 2 = (h : Int) := by omega
      clear hh
      by_cases hrh : r ≤ h
      · have HD : Hid (decide (r ≤ h) = true) := Lib.hid (decide_eq_true hrh)
        go_wp2_with ((go_at_call 98; go_must (refine (HC.out _ hf).mono ?_; rintro _ w1 ⟨rfl, hf2⟩; rw [HD.out])))
        go_roundw
        case rel => exact ⟨i, h, rfl, rfl, hi, hrh, by omega, hf.trans hf2⟩
        case measure => simp [intOf]; omega
      · have HD : Hid (decide (r ≤ h) = false) := Lib.hid (decide_eq_false hrh)
        go_wp2_with ((go_at_call 98; go_must (refine (HC.out _ hf).mono ?_; rintro _ w1 ⟨rfl, hf2⟩; rw [HD.out])))
        go_roundw
        case rel => exact ⟨h + 1, j, by go_num, rfl, by omega, hj, hjn, hf.trans hf2⟩
        case measure => simp [intOf]; omega
    · obtain rfl : i = r := by omega
      have hlt2 : ¬ (i : Int) < (j : Int) := by omega
      go_wp2_with fail
      go_ret
      exact ⟨rfl, hf⟩
theorem upto_bool (l : List Rd) (m : Int) (hs : Ser.Sorted l) (i : Nat) (hi : i < l.length) : decide (m < l[i].m) = decide (Ser.upto l m ≤ i) := by
  have := Ser.upto_iff m l (Ser.sorted_le hs) i hi
  exact decide_eq_decide.2 (by omega)
set_option maxRecDepth 100000 in
theorem series_ahead (g : Nat) (a b : Int) (l : List Rd) (m : Int) (hsr : Ser.Sorted l) (hl : l.length ≤ 10000) (w0 : World) (hs : SerIs w0 g a b l) :
    Calls Try.prog 59 #[.pointer (some ⟨g, 0, none⟩), .int .i64 m] w0 fun e w' => e = .returned (.int .i64 (Ser.upto l m : Int)) ∧ Fr w0 w' := by
  have HSI := Lib.hid hs
  obtain ⟨A, c, _, _, h2, _⟩ := hs
  have HSR := Lib.hid hsr
  have I := St.refl w0
  clear hsr
  go_enter Try.func59, Try.ntmps59
  try dsimp only [List.append]
  go_upto_region 1 with (first | (guard_hyp g1 : Nat; ((with_reducible refine gbox (ty := 3) ?_); (first | refine w_boxA I (by rfl) ?_ | refine w_box1 I (by (conv => lhs; whnf) <;> rfl) (by rfl) ?_); clear I; intro g2 w I)) | ((with_reducible refine gbox (ty := 25) ?_); (first | refine w_boxA I (by rfl) ?_ | refine w_box1 I (by (conv => lhs; whnf) <;> rfl) (by rfl) ?_); clear I; intro g1 w I) | (first | ((with_reducible refine gguard ?_); (first | refine w_guardT (by rfl) (fun hb => ?_) (fun hb => ?_) | refine w_guardF (by rfl) (fun hb => ?_) (fun hb => ?_)) <;> first | (cases hb; done) | cases hb | ((try rw [hb]) <;> (try simp at hb) <;> go_prune <;> (try (with_reducible replace hb := eqPair hb)))) | (((with_reducible refine gbox ?_); first | refine w_boxA I (by rfl) ?_ | refine w_box1 I (by (conv => lhs; whnf) <;> rfl) (by rfl) ?_); clear I; intro g w I) | ((with_reducible refine galloc ?_); refine w_alloc I ?_; clear I; intro g w I) | ((with_reducible refine gload ?_); first | refine w_loadB I (by rfl) (by first | (with_reducible repeat (first | exact .here | apply At.there)); done | repeat (first | exact .here | apply At.there)) (by rfl) ?_ | refine w_loadBR I (by rfl) (by first | (with_reducible repeat (first | exact .here | apply At.there)); done | repeat (first | exact .here | apply At.there)) (by rfl) ?_ | refine w_load0 I (by rfl) (by assumption) ?_) | ((with_reducible refine gstore ?_); (first | refine w_storeB I (by rfl) (by (conv => lhs; whnf) <;> rfl) (by first | (with_reducible repeat (first | exact .here | apply Upd.there)); done | repeat (first | exact .here | apply Upd.there)) (by rfl) (by rfl) (by simp only [List.set_cons_zero, List.set_cons_succ] <;> rfl) ?_ | refine w_storeBR I (by rfl) (by rfl) (by first | (with_reducible repeat (first | exact .here | apply Upd.there)); done | repeat (first | exact .here | apply Upd.there)) (by rfl) (by rfl) (by rfl) ?_); clear I; intro w I)))
  have HU := Lib.hid (fun (i : Nat) (hi : i < l.length) wx (hf : Fr w wx) => by
    have h := series_ahead1 g g1 g2 a b l m i hi wx (HSI.out.fr (I.fr.trans hf)) (hf.cell (I.cell (g := g1) (by first | (with_reducible repeat (first | exact .here | apply At.there)); done | repeat (first | exact .here | apply At.there)) rfl)) (hf.cell (I.cell (g := g2) (by first | (with_reducible repeat (first | exact .here | apply At.there)); done | repeat (first | exact .here | apply At.there)) rfl))
    rw [upto_bool l m HSR.out i hi] at h
    exact h)
  have HS := Lib.hid (series_Search g1 g2 l.length (Ser.upto l m) (by omega) (Ser.upto_le l m) w HU.out)
  go_wp2_with (first | (first | ((with_reducible refine gguard ?_); (first | refine w_guardT (by rfl) (fun hb => ?_) (fun hb => ?_) | refine w_guardF (by rfl) (fun hb => ?_) (fun hb => ?_)) <;> first | (cases hb; done) | cases hb | ((try rw [hb]) <;> (try simp at hb) <;> go_prune <;> (try (with_reducible replace hb := eqPair hb)))) | (((with_reducible refine gbox ?_); first | refine w_boxA I (by rfl) ?_ | refine w_box1 I (by (conv => lhs; whnf) <;> rfl) (by rfl) ?_); clear I; intro g w I) | ((with_reducible refine galloc ?_); refine w_alloc I ?_; clear I; intro g w I) | ((with_reducible refine gload ?_); first | refine w_loadB I (by rfl) (by first | (with_reducible repeat (first | exact .here | apply At.there)); done | repeat (first | exact .here | apply At.there)) (by rfl) ?_ | refine w_loadBR I (by rfl) (by first | (with_reducible repeat (first | exact .here | apply At.there)); done | repeat (first | exact .here | apply At.there)) (by rfl) ?_ | refine w_load0 I (by rfl) (by assumption) ?_) | ((with_reducible refine gstore ?_); (first | refine w_storeB I (by rfl) (by (conv => lhs; whnf) <;> rfl) (by first | (with_reducible repeat (first | exact .here | apply Upd.there)); done | repeat (first | exact .here | apply Upd.there)) (by rfl) (by rfl) (by simp only [List.set_cons_zero, List.set_cons_succ] <;> rfl) ?_ | refine w_storeBR I (by rfl) (by rfl) (by first | (with_reducible repeat (first | exact .here | apply Upd.there)); done | repeat (first | exact .here | apply Upd.there)) (by rfl) (by rfl) (by rfl) ?_); clear I; intro w I)) | (go_at_call 97; go_must (refine (HS.out).mono ?_; rintro _ w1 ⟨rfl, hf⟩; replace I := I.still hf; clear hf)))
  go_ret
  exact ⟨rfl, I.fr⟩
end Go.Proofs.Ytggeloihnbjogaa
