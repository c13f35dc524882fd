
/- Lots (layer 15): a rotation. -/
import Derived.Test.YtggeloihnbjogaaSrtB
namespace Go.Hf.Srt
theorem Rot.len {α : Type} {G l : List α} {m i j : Nat} (h : Rot G l m i j) : i ≤ m ∧ m + j ≤ l.length := by
  obtain ⟨P, A, B, S, rfl, h1, h2, h3, _⟩ := h
  simp
  omega
end Go.Hf.Srt
namespace Go.Proofs.Ytggeloihnbjogaa
open Go.RowKit Go.Hf
set_option maxRecDepth 100000 in
set_option maxHeartbeats 4000000 in
theorem rotate_lots (G : List Lt) (a m b : Nat) (g c : Nat) (q : Nat) (l : List Lt) (ham : a < m) (hmb : m < b) (hr : Srt.Rot G l m (m - a) (b - m)) (w0 w : World) (L R : List Asr) (I : St w0 w L) (hA : At (OwnT (.slice (some ⟨g, 0, none⟩) q c) l) L R) (hq : l.length = q) :
    Calls Try.prog 134 #[.slice (some ⟨g, 0, none⟩) q c, .int .i64 a, .int .i64 m, .int .i64 b, sortF] w fun e w' => e = .returned (.tuple #[]) ∧ St w0 w' (OwnT (.slice (some ⟨g, 0, none⟩) q c) G :: R) := by
  replace I := I.take hA
  clear hA
  obtain ⟨A', c', e, hnc, hcm, -⟩ := (I.own .here).reads encT_len
  unfold maxLen at hcm
  injection e with e1 e2 e3
  subst e1 e3
  clear e2
  have hl0 := hr.len
  obtain ⟨i0, hi0⟩ : ∃ i0, m - a = i0 := ⟨_, rfl⟩
  obtain ⟨j0, hj0⟩ : ∃ j0, b - m = j0 := ⟨_, rfl⟩
  rw [hi0, hj0] at hr
  have HR := Lib.hid hr
  have hmq : m < q := by omega
  have hw1 : IntKind.i64.wrap ((m : Int) - (a : Int)) = (i0 : Int) := by rw [IntKind.wrap_i64]; omega
  have hw2 : IntKind.i64.wrap ((b : Int) - (m : Int)) = (j0 : Int) := by rw [IntKind.wrap_i64]; omega
  have hip : 0 < i0 := by omega
  have hjp : 0 < j0 := by omega
  clear hr hl0 hi0 hj0 ham hmb
  go_enter Try.func134, Try.ntmps134
  try dsimp only [List.append]
  go_wp2_with fail
  go_loopw [10, 11] (fun iv jv wr => ∃ (i j : Nat) (K : List Lt), iv = .int .i64 i ∧ jv = .int .i64 j ∧ 0 < i ∧ 0 < j ∧ Hid (K.length = q ∧ Srt.Rot G K m i j) ∧ St w0 wr (OwnT (.slice (some ⟨g, 0, none⟩) q c) K :: R)) (fun iv jv _ => (intOf iv).toNat + (intOf jv).toNat)
  case atStart => exact ⟨i0, j0, l, rfl, rfl, hip, hjp, Lib.hid ⟨hq, HR.out⟩, I⟩
  case round =>
    clear I
    obtain ⟨i, j, K, rfl, rfl, hi, hj, HK, I⟩ := hrel
    rename World => wr
    obtain ⟨him, hmj⟩ := HK.out.2.len
    rw [HK.out.1] at hmj
    obtain ⟨d, hd⟩ : ∃ d, m - i = d := ⟨_, rfl⟩
    have hwd : IntKind.i64.wrap ((m : Int) - (i : Int)) = (d : Int) := by rw [IntKind.wrap_i64]; omega
    by_cases hij : i = j
    · subst hij
      have HE : Hid (Srt.swr K d m i = G) := Lib.hid (by rw [← hd]; exact HK.out.2.eq)
      have hs := swap_range d m i g c q K (by omega) (by omega) w0 wr _ R I .here HK.out.1
      rw [HE.out] at hs
      have HSW := Lib.hid hs
      have hb : ((i : Int) != (i : Int)) = false := by simp
      clear hs hd him hmj
      go_wp2_with (first | (go_at_call 136; go_must (refine (HSW.out).mono ?_; rintro _ w1 ⟨rfl, S⟩)))
      exact end_0 rfl rfl ⟨rfl, S⟩
    · have hb : ((i : Int) != (j : Int)) = true := by simp; omega
      have hb2 : (i != j) = true := by simpa using hij
      have hb3 : (i == j) = false := by simpa using hij
      have hb4 : ((i : Int) == (j : Int)) = false := by simp; omega
      by_cases hgt : j < i
      · have d1 : decide ((j : Int) < (i : Int)) = true := decide_eq_true (by omega)
        obtain ⟨k, hk⟩ : ∃ k, i - j = k := ⟨_, rfl⟩
        have hwk : IntKind.i64.wrap ((i : Int) - (j : Int)) = (k : Int) := by rw [IntKind.wrap_i64]; omega
        have HK2 : Hid ((Srt.swr K d m j).length = q ∧ Srt.Rot G (Srt.swr K d m j) m k j) := Lib.hid ⟨by rw [Srt.swr_len]; exact HK.out.1, by rw [← hd, ← hk]; exact HK.out.2.gt hgt⟩
        have HSW := Lib.hid (swap_range d m j g c q K (by omega) (by omega) w0 wr _ R I .here HK.out.1)
        have hkp : 0 < k := by omega
        have hki : k + j < i + j := by omega
        clear hd hk him hmj
        go_wp2_with (first | (go_at_call 136; go_must (refine (HSW.out).mono ?_; rintro _ w1 ⟨rfl, S⟩)))
        all_goals try omega
        go_roundw
        case rel => exact ⟨k, j, _, rfl, rfl, hkp, hj, HK2, S⟩
        case measure => simp only [intOf]; omega
      · have d1 : decide ((j : Int) < (i : Int)) = false := decide_eq_false (by omega)
        obtain ⟨k, hk⟩ : ∃ k, j - i = k := ⟨_, rfl⟩
        obtain ⟨s, hs⟩ : ∃ s, m + j = s := ⟨_, rfl⟩
        obtain ⟨t, ht⟩ : ∃ t, s - i = t := ⟨_, rfl⟩
        have hwk : IntKind.i64.wrap ((j : Int) - (i : Int)) = (k : Int) := by rw [IntKind.wrap_i64]; omega
        have hws : IntKind.i64.wrap ((m : Int) + (j : Int)) = (s : Int) := by rw [IntKind.wrap_i64]; omega
        have hwt : IntKind.i64.wrap ((s : Int) - (i : Int)) = (t : Int) := by rw [IntKind.wrap_i64]; omega
        have HK2 : Hid ((Srt.swr K d t i).length = q ∧ Srt.Rot G (Srt.swr K d t i) m i k) := Lib.hid ⟨by rw [Srt.swr_len]; exact HK.out.1, by rw [← hd, ← hk, ← ht, ← hs]; exact HK.out.2.lt (by omega)⟩
        have HSW := Lib.hid (swap_range d t i g c q K (by omega) (by omega) w0 wr _ R I .here HK.out.1)
        have hkp : 0 < k := by omega
        have hki : i + k < i + j := by omega
        clear hd hk hs ht him hmj
        go_wp2_with (first | (go_at_call 136; go_must (refine (HSW.out).mono ?_; rintro _ w1 ⟨rfl, S⟩)))
        all_goals try omega
        go_roundw
        case rel => exact ⟨i, k, _, rfl, rfl, hi, hkp, HK2, S⟩
        case measure => simp only [intOf]; omega
end Go.Proofs.Ytggeloihnbjogaa
