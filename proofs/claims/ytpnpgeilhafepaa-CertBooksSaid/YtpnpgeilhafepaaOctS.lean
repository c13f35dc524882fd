
/- Octets (layer 4): the reference's reader, and readers that are nil. -/
import Derived.Test.YtpnpgeilhafepaaOctQ
namespace Go.Proofs.Ytpnpgeilhafepaa
open Go.RowKit Go.Hf

theorem ref04_Value (v : Value) (b : List UInt8) (w : World) (h : Bytes w v b) (h8 : b.length ≤ 8) : Calls Try.prog 100 #[v] w fun en w' => en = .returned (.int .u64 (Oct.val b)) ∧ w = w' := by
  obtain ⟨A, _, c, rfl, rfl, hmc, hcm, hA0, hs⟩ := h
  unfold maxLen at hcm
  have HS := Lib.hid hs
  clear hs
  go_enter Try.func100, Try.ntmps100
  go_wp2_with fail
  go_loop [3, 4] (fun u i => ∃ j : Nat, i = .int .i64 j ∧ j ≤ b.length ∧ u = .int .u64 (Oct.val (b.take j))) (fun _ i => b.length - (intOf i).toNat)
  case atStart => exact ⟨0, rfl, by omega, rfl⟩
  case round =>
    obtain ⟨j, rfl, hj, rfl⟩ := hrel
    by_cases hlt : j < b.length
    · obtain ⟨bb, o, rfl, hc⟩ := HS.out.atB j hlt
      have HV : Hid (Oct.val (b.take (j + 1)) = 256 * Oct.val (b.take j) + b[j].toNat) := Lib.hid (by rw [List.take_succ_eq_append_getElem hlt, Oct.val_snoc])
      have hu : Oct.val (b.take j) < 72057594037927936 := by
        have h1 := Oct.val_lt (b.take j)
        rw [List.length_take] at h1
        have h2 : 256 ^ (min j b.length) ≤ 256 ^ 7 := Nat.pow_le_pow_right (by decide) (by omega)
        have : (256 : Nat) ^ 7 = 72057594037927936 := by decide
        omega
      have hbt := b[j].toNat_lt
      generalize b[j] = x at *
      generalize Oct.val (b.take j) = u at *
      have hjl : (j : Int) < (b.length : Int) := by omega
      go_wp2_with fail
      go_round
      case rel => exact ⟨j + 1, by go_num, by omega, by rw [HV.out]; go_num⟩
      case measure => simp [intOf]; omega
    · obtain rfl : j = b.length := by omega
      rw [List.take_length]
      go_wp2_with fail
      go_ret
      exact ⟨rfl, rfl⟩
theorem num_err (s : List UInt8 × Int) (k : Int) : (Oct.num s k).1 = 0 ∨ (Oct.num s k).2.2 = 0 := by
  unfold Oct.num
  split
  · exact .inl rfl
  · unfold Oct.take
    split
    · exact .inl rfl
    · split
      · exact .inl rfl
      · exact .inr rfl
/-! ### Readers that are nil -/
theorem nil_take (k : Int) (w : World) : Calls Try.prog 115 #[.pointer none, .int .i64 k] w fun en w' => en = .returned (.slice none 0 0) ∧ w = w' := by
  go_enter Try.func115, Try.ntmps115
  go_wp2_with fail
  go_ret
  exact ⟨rfl, rfl⟩
theorem nil_Num1 (w : World) : Calls Try.prog 98 #[.pointer none, .int .i64 1] w fun en w' => en = .returned (.int .u64 0) ∧ w = w' := by
  go_enter Try.func98, Try.ntmps98
  go_wp2_with (go_at_call 115; go_must (refine (nil_take _ _).mono ?_; rintro _ w1 ⟨rfl, rfl⟩))
  go_loop [5, 24] (fun u i => u = .int .u64 0 ∧ i = .int .i64 0) (fun _ _ => 0)
  case atStart => exact ⟨rfl, rfl⟩
  case round =>
    obtain ⟨rfl, rfl⟩ := hrel
    go_wp2_with fail
    go_ret
    exact ⟨rfl, rfl⟩
theorem nil_Num3 (w : World) : Calls Try.prog 98 #[.pointer none, .int .i64 3] w fun en w' => en = .returned (.int .u64 0) ∧ w = w' := by
  go_enter Try.func98, Try.ntmps98
  go_wp2_with (go_at_call 115; go_must (refine (nil_take _ _).mono ?_; rintro _ w1 ⟨rfl, rfl⟩))
  go_loop [5, 24] (fun u i => u = .int .u64 0 ∧ i = .int .i64 0) (fun _ _ => 0)
  case atStart => exact ⟨rfl, rfl⟩
  case round =>
    obtain ⟨rfl, rfl⟩ := hrel
    go_wp2_with fail
    go_ret
    exact ⟨rfl, rfl⟩
theorem nil_Num4 (w : World) : Calls Try.prog 98 #[.pointer none, .int .i64 4] w fun en w' => en = .returned (.int .u64 0) ∧ w = w' := by
  go_enter Try.func98, Try.ntmps98
  go_wp2_with (go_at_call 115; go_must (refine (nil_take _ _).mono ?_; rintro _ w1 ⟨rfl, rfl⟩))
  go_loop [5, 24] (fun u i => u = .int .u64 0 ∧ i = .int .i64 0) (fun _ _ => 0)
  case atStart => exact ⟨rfl, rfl⟩
  case round =>
    obtain ⟨rfl, rfl⟩ := hrel
    go_wp2_with fail
    go_ret
    exact ⟨rfl, rfl⟩
theorem nil_Num8 (w : World) : Calls Try.prog 98 #[.pointer none, .int .i64 8] w fun en w' => en = .returned (.int .u64 0) ∧ w = w' := by
  go_enter Try.func98, Try.ntmps98
  go_wp2_with (go_at_call 115; go_must (refine (nil_take _ _).mono ?_; rintro _ w1 ⟨rfl, rfl⟩))
  go_loop [5, 24] (fun u i => u = .int .u64 0 ∧ i = .int .i64 0) (fun _ _ => 0)
  case atStart => exact ⟨rfl, rfl⟩
  case round =>
    obtain ⟨rfl, rfl⟩ := hrel
    go_wp2_with fail
    go_ret
    exact ⟨rfl, rfl⟩
theorem nil_Int (w : World) : Calls Try.prog 66 #[.pointer none] w fun en w' => en = .returned (.int .i64 0) ∧ w = w' := by
  go_enter Try.func66, Try.ntmps66
  go_wp2_with (go_at_call 98; go_must (refine (nil_Num8 _).mono ?_; rintro _ w1 ⟨rfl, rfl⟩))
  go_ret
  exact ⟨rfl, rfl⟩
theorem nil_Left (w : World) : Calls Try.prog 99 #[.pointer none] w fun en w' => en = .returned (.int .i64 0) ∧ w = w' := by
  go_enter Try.func99, Try.ntmps99
  go_wp2_with fail
  go_ret
  exact ⟨rfl, rfl⟩
theorem nil_Done (w : World) : Calls Try.prog 68 #[.pointer none] w fun en w' => en = .returned (.int .i64 1) ∧ w = w' := by
  go_enter Try.func68, Try.ntmps68
  go_wp2_with fail
  go_ret
  exact ⟨rfl, rfl⟩
end Go.Proofs.Ytpnpgeilhafepaa
