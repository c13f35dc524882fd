
/- Numbers that stop at the most (layer 2): the program's, and the reference's, at two numbers. -/
import Derived.Test.YtpnpgeilhafepaaDoorLib
import Derived.Test.YtpnpgeilhafepaaDoorProg
namespace Go.Proofs.YtpnpgeilhafepaaDoor
open Go.RowKit Go.Hf

namespace Sat
def fit (n : Int) : Int := if n < 0 then 0 else if 4611686018427387904 < n then 4611686018427387904 else n
def two (a b : Int) : Int := if 4611686018427387904 - fit b < fit a then 4611686018427387904 else fit a + fit b
theorem fit_ge (n : Int) : 0 ≤ fit n := by unfold fit; split; omega; split <;> omega
theorem fit_le (n : Int) : fit n ≤ 4611686018427387904 := by unfold fit; split; omega; split <;> omega
theorem two_ge (a b : Int) : 0 ≤ two a b := by
  have := fit_ge a; have := fit_ge b; unfold two; split <;> omega
theorem two_le (a b : Int) : two a b ≤ 4611686018427387904 := by
  have := fit_le a; have := fit_le b; unfold two; split <;> omega
end Sat

theorem ref02_Fit (n : Int) (w : World) : Calls Tryd.prog 21 #[.int .i64 n] w fun e w' => e = .returned (.int .i64 (Sat.fit n)) ∧ w = w' := by
  unfold Sat.fit
  by_cases h1 : n < 0
  · rw [if_pos h1]
    go_enter Tryd.func21, Tryd.ntmps21
    go_wp2_with fail
    go_ret
    exact ⟨rfl, rfl⟩
  · rw [if_neg h1]
    by_cases h2 : 4611686018427387904 < n
    · rw [if_pos h2]
      go_enter Tryd.func21, Tryd.ntmps21
      go_wp2_with fail
      go_ret
      exact ⟨rfl, rfl⟩
    · rw [if_neg h2]
      go_enter Tryd.func21, Tryd.ntmps21
      go_wp2_with fail
      go_ret
      exact ⟨rfl, rfl⟩
theorem ref02_Two (a b : Int) (w : World) : Calls Tryd.prog 49 #[.int .i64 a, .int .i64 b] w fun e w' => e = .returned (.int .i64 (Sat.two a b)) ∧ w = w' := by
  have g1 := Sat.fit_ge a
  have g2 := Sat.fit_le a
  have g3 := Sat.fit_ge b
  have g4 := Sat.fit_le b
  unfold Sat.two
  by_cases h1 : 4611686018427387904 - Sat.fit b < Sat.fit a
  · rw [if_pos h1]
    go_enter Tryd.func49, Tryd.ntmps49
    go_wp2_with (go_at_call 21; go_must (refine (ref02_Fit _ _).mono ?_; rintro _ w1 ⟨rfl, rfl⟩))
    go_ret
    exact ⟨rfl, rfl⟩
  · rw [if_neg h1]
    go_enter Tryd.func49, Tryd.ntmps49
    go_wp2_with (go_at_call 21; go_must (refine (ref02_Fit _ _).mono ?_; rintro _ w1 ⟨rfl, rfl⟩))
    go_ret
    exact ⟨rfl, rfl⟩

theorem sat_Fit (n : Int) (w : World) : Calls Tryd.prog 20 #[.int .i64 n] w fun e w' => e = .returned (.int .i64 (Sat.fit n)) ∧ w = w' := by
  unfold Sat.fit
  go_enter Tryd.func20, Tryd.ntmps20
  go_wp2_with fail
  all_goals (go_ret; refine ⟨congrArg (fun z => Ending.returned (.int .i64 z)) ?_, rfl⟩; (repeat' split) <;> omega)

namespace Sat
def addF (out : Int) : List Int → Int
  | [] => out
  | n :: l => addF (out + min (fit n) (4611686018427387904 - out)) l
def add (l : List Int) : Int := addF 0 l
theorem add_two (a b : Int) : add [a, b] = two a b := by
  have := fit_ge a; have := fit_ge b; have := fit_le a; have := fit_le b
  simp only [add, addF]
  unfold two
  split <;> omega
theorem addF_drop (o : Int) (l : List Int) (k : Nat) (h : k < l.length) : addF o (l.drop k) = addF (o + min (fit l[k]) (4611686018427387904 - o)) (l.drop (k + 1)) := by
  rw [List.drop_eq_getElem_cons h]
  rfl
end Sat

set_option maxHeartbeats 1000000 in
theorem sat_Add (v : Value) (l : List Int) (w : World) (h : SlV 1 (flat encI) w v l) : Calls Tryd.prog 26 #[v] w fun e w' => e = .returned (.int .i64 (Sat.add l)) ∧ w = w' := by
  have hm := h.len_le
  unfold maxLen at hm
  obtain ⟨A, _, c, rfl, rfl, _, _, _, hs⟩ := h
  have HS := Lib.hid hs
  clear hs
  go_enter Tryd.func26, Tryd.ntmps26
  go_wp2_with fail
  go_loop [3, 8] (fun o i => ∃ (k : Nat) (u : Int), i = .int .i64 k ∧ o = .int .i64 u ∧ k ≤ l.length ∧ 0 ≤ u ∧ u ≤ 4611686018427387904 ∧ Hid (Sat.addF u (l.drop k) = Sat.add l)) (fun _ i => l.length - (intOf i).toNat)
  case atStart => exact ⟨0, 0, rfl, rfl, by omega, by omega, by omega, Lib.hid rfl⟩
  case round =>
    obtain ⟨k, u, rfl, rfl, hk, hu0, hu1, HA⟩ := hrel
    by_cases hlt : k < l.length
    · obtain ⟨b, o, rfl, hc⟩ := HS.out.atI k hlt
      have HN := Lib.hid (Sat.addF_drop u l k hlt)
      have hf0 := Sat.fit_ge l[k]
      have hf1 := Sat.fit_le l[k]
      have hkl : (k : Int) < (l.length : Int) := by omega
      generalize l[k] = x at *
      generalize hgf : Sat.fit x = fx at *
      have HF := Lib.hid hgf
      clear hgf
      by_cases hmin : fx ≤ 4611686018427387904 - u
      · go_wp2_with (go_at_call 20; go_must (refine (sat_Fit _ _).mono ?_; rintro _ w1 ⟨rfl, rfl⟩; rw [HF.out]))
        all_goals go_round
        case rel => exact ⟨k + 1, u + fx, by go_num, by go_num, by omega, by omega, by omega, Lib.hid (by rw [← HA.out, HN.out]; congr 1; omega)⟩
        case measure => simp [intOf]; omega
      · go_wp2_with (go_at_call 20; go_must (refine (sat_Fit _ _).mono ?_; rintro _ w1 ⟨rfl, rfl⟩; rw [HF.out]))
        all_goals go_round
        case rel => exact ⟨k + 1, 4611686018427387904, by go_num, by go_num, by omega, by omega, by omega, Lib.hid (by rw [← HA.out, HN.out]; congr 1; omega)⟩
        case measure => simp [intOf]; omega
    · obtain rfl : k = l.length := by omega
      have HE : Hid (u = Sat.add l) := Lib.hid (by have := HA.out; rw [List.drop_length] at this; exact this)
      go_wp2_with fail
      go_ret
      exact ⟨by rw [HE.out]; rfl, rfl⟩
end Go.Proofs.YtpnpgeilhafepaaDoor
