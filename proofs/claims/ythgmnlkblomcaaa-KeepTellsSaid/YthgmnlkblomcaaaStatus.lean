/- Contracts of package status and of its reference. -/
import Derived.Test.YthgmnlkblomcaaaRows
import Derived.Test.YthgmnlkblomcaaaLib
namespace Go.Proofs.Ythgmnlkblomcaaa
open Go.RowKit Go.Hf

def i64s (l : List Int) : Array Value := (l.map (Value.int .i64)).toArray
def tbl : List Int := [1,2,-1,3,-1, -1,2,-1,3,4, -1,2,1,3,-1, -1,-1,-1,-1,-1, -1,-1,-1,-1,-1]
def nms : List ByteArray := [⟨#[113, 117, 97, 114, 97, 110, 116, 105, 110, 101]⟩, ⟨#[114, 101, 108, 101, 97, 115, 101, 100]⟩, ⟨#[104, 101, 108, 100]⟩, ⟨#[114, 101, 106, 101, 99, 116, 101, 100]⟩, ⟨#[115, 104, 105, 112, 112, 101, 100]⟩]
def strs (l : List ByteArray) : Array Value := (l.map Value.string).toArray

set_option maxRecDepth 10000 in
set_option maxHeartbeats 400000 in
theorem table_any (w : World) :
    Calls Try.prog 89 #[] w fun e w' => e = .returned (.agg (i64s tbl)) ∧ w.alloc (.cells (i64s tbl) 114) = w' := by
  go_enter Try.func89, Try.ntmps89
  go_wp2_with ((with_reducible refine Go.Hf.gate (.store 114 (.tmp 0) (.tmp 6)) rfl ?_); refine Go.Hf.wpList_store_new rfl 114 (.tmp 0) (.tmp 6) rfl 114 _ _ _ rfl (by simp) rfl (by kernel_rfl) rfl (by decide) ?_)
  refine bodyPost_ret (v := .agg (i64s tbl)) ?_ rfl ⟨rfl, rfl⟩
  exact results_cell_row (P := Try.prog) rfl _ _ w.heap.size 114 (i64s tbl) _ _ rfl (heap_alloc_new w _) Try.underlying114 rfl (by kernel_rfl)

set_option maxRecDepth 10000 in
set_option maxHeartbeats 400000 in
theorem names_any (w : World) :
    Calls Try.prog 90 #[] w fun e w' => e = .returned (.agg (strs nms)) ∧ w.alloc (.cells (strs nms) 116) = w' := by
  go_enter Try.func90, Try.ntmps90
  go_wp2_with ((with_reducible refine Go.Hf.gate (.store 116 (.tmp 0) (.tmp 1)) rfl ?_); refine Go.Hf.wpList_store_new rfl 116 (.tmp 0) (.tmp 1) rfl 116 _ _ _ rfl (by simp) rfl (by kernel_rfl) rfl (by decide) ?_)
  refine bodyPost_ret (v := .agg (strs nms)) ?_ rfl ⟨rfl, rfl⟩
  exact results_cell_row (P := Try.prog) rfl _ _ w.heap.size 116 (strs nms) _ _ rfl (heap_alloc_new w _) Try.underlying116 rfl (by kernel_rfl)

theorem status_right (s : Int) (w : World) :
    Calls Try.prog 88 #[.int .i64 s] w fun e w' => e = .returned (.bool (decide (0 ≤ s) && decide (s < 5))) ∧ w = w' := by
  go_enter Try.func88, Try.ntmps88
  go_wp2
  all_goals (go_ret; exact ⟨by simp [*] <;> omega, rfl⟩)

namespace Status
def After (s e : Int) : Int × Int :=
  if s < 0 ∨ 4 < s ∨ e < 0 ∨ 4 < e then (0, 1) else
  if 2 < s then (0, 8) else
  if e = 0 ∧ s = 0 then (1, 0) else
  if e = 1 then (2, 0) else
  if e = 2 ∧ s = 2 then (1, 0) else
  if e = 3 then (3, 0) else
  if e = 4 ∧ s = 1 then (4, 0) else (0, 8)

def tblAt (s e : Int) : Int := tbl.getD (s.toNat * 5 + e.toNat) 0
def nm (s : Int) : ByteArray := nms.getD s.toNat ByteArray.empty
def Name (s : Int) : ByteArray := if 0 ≤ s ∧ s < 5 then nm s else ⟨#[]⟩
def Parse (x : ByteArray) : Int × Int :=
  if (nm 0).toList == x.toList then (0, 0) else if (nm 1).toList == x.toList then (1, 0) else if (nm 2).toList == x.toList then (2, 0) else if (nm 3).toList == x.toList then (3, 0) else if (nm 4).toList == x.toList then (4, 0) else (0, 2)

theorem range5 (s : Int) (h0 : 0 ≤ s) (h1 : s < 5) : s = 0 ∨ s = 1 ∨ s = 2 ∨ s = 3 ∨ s = 4 := by omega
theorem tbl_cell (s e : Int) (h0 : 0 ≤ s) (h1 : s < 5) (h2 : 0 ≤ e) (h3 : e < 5) : (i64s tbl)[s.toNat * 5 + e.toNat]? = some (.int .i64 (tblAt s e)) := by
  rcases range5 s h0 h1 with rfl | rfl | rfl | rfl | rfl <;> rcases range5 e h2 h3 with rfl | rfl | rfl | rfl | rfl <;> rfl
theorem After_tbl (s e : Int) (h0 : 0 ≤ s) (h1 : s < 5) (h2 : 0 ≤ e) (h3 : e < 5) : After s e = if tblAt s e = -1 then (0, 8) else (tblAt s e, 0) := by
  rcases range5 s h0 h1 with rfl | rfl | rfl | rfl | rfl <;> rcases range5 e h2 h3 with rfl | rfl | rfl | rfl | rfl <;> rfl
theorem nm_cell (s : Int) (h0 : 0 ≤ s) (h1 : s < 5) : (strs nms)[s.toNat]? = some (.string (nm s)) := by
  rcases range5 s h0 h1 with rfl | rfl | rfl | rfl | rfl <;> rfl
theorem Name_nm (s : Int) (h0 : 0 ≤ s) (h1 : s < 5) : Name s = nm s := if_pos ⟨h0, h1⟩
/-- What Parse answers once the first k names are passed. -/
theorem Parse_at (x : ByteArray) (k : Int) (h0 : 0 ≤ k) (h1 : k < 5) (hp : ∀ j : Int, 0 ≤ j → j < k → ((nm j).toList == x.toList) = false) (h : ((nm k).toList == x.toList) = true) : Parse x = (k, 0) := by
  rcases range5 k h0 h1 with rfl | rfl | rfl | rfl | rfl <;> unfold Parse
  · rw [if_pos h]
  · simp only [hp 0 (by omega) (by omega), Bool.false_eq_true, if_false]; rw [if_pos h]
  · simp only [hp 0 (by omega) (by omega), hp 1 (by omega) (by omega), Bool.false_eq_true, if_false]; rw [if_pos h]
  · simp only [hp 0 (by omega) (by omega), hp 1 (by omega) (by omega), hp 2 (by omega) (by omega), Bool.false_eq_true, if_false]; rw [if_pos h]
  · simp only [hp 0 (by omega) (by omega), hp 1 (by omega) (by omega), hp 2 (by omega) (by omega), hp 3 (by omega) (by omega), Bool.false_eq_true, if_false]; rw [if_pos h]
theorem Parse_none (x : ByteArray) (hp : ∀ j : Int, 0 ≤ j → j < 5 → ((nm j).toList == x.toList) = false) : Parse x = (0, 2) := by
  unfold Parse
  simp only [hp 0 (by omega) (by omega), hp 1 (by omega) (by omega), hp 2 (by omega) (by omega), hp 3 (by omega) (by omega), hp 4 (by omega) (by omega), Bool.false_eq_true, if_false]
def row (s : Int) : Array Value := i64s ((tbl.drop (s.toNat * 5)).take 5)
theorem row_size (s : Int) (h0 : 0 ≤ s) (h1 : s < 5) : (row s).size = 5 := by rcases range5 s h0 h1 with rfl | rfl | rfl | rfl | rfl <;> rfl
theorem row_cell (s : Int) (h0 : 0 ≤ s) (h1 : s < 5) : ∀ (j : Nat) v, (row s)[j]? = some v → (i64s tbl)[s.toNat * 5 + j]? = some v := by
  intro j v h
  have hs : (row s).size = 5 := by rcases range5 s h0 h1 with rfl | rfl | rfl | rfl | rfl <;> rfl
  have hj : j < 5 := by rw [← hs]; exact (Array.getElem?_eq_some_iff.1 h).1
  rw [← h]
  have h5 : j = 0 ∨ j = 1 ∨ j = 2 ∨ j = 3 ∨ j = 4 := by omega
  rcases range5 s h0 h1 with rfl | rfl | rfl | rfl | rfl <;> rcases h5 with rfl | rfl | rfl | rfl | rfl <;> rfl
end Status

set_option maxRecDepth 10000 in
set_option maxHeartbeats 400000 in
theorem status_After_in (s e : Int) (w : World) (h0 : 0 ≤ s) (h1 : s < 5) (h2 : 0 ≤ e) (h3 : e < 5):
    Calls Try.prog 16 #[.int .i64 s, .int .i64 e] w fun en w' => en = .returned (.tuple #[.int .i64 (Status.After s e).1, .int .i64 (Status.After s e).2]) ∧ Fr w w' := by
  have hc := Status.tbl_cell s e h0 h1 h2 h3
  have ht := Status.After_tbl s e h0 h1 h2 h3
  rw [ht]; clear ht
  generalize Status.tblAt s e = x at hc ⊢
  go_enter Try.func16, Try.ntmps16
  go_wp2_with (first | (go_at_call 88; refine (status_right _ _).mono ?_; rintro _ _ ⟨rfl, rfl⟩) | (go_at_call 89; refine (table_any _).mono ?_; rintro _ _ ⟨rfl, rfl⟩) | ((with_reducible refine Go.Hf.gate (.store 114 (.tmp 6) (.tmp 18)) rfl ?_); refine Go.Hf.wpList_store_new rfl 114 (.tmp 6) (.tmp 18) rfl 114 _ _ _ rfl (by simp) rfl (by kernel_rfl) rfl (by decide) ?_))
  all_goals (go_ret2; refine ⟨?_, ((Fr.refl _).alloc _).alloc _⟩)
  all_goals simp_all

set_option maxHeartbeats 400000 in
theorem status_After (s e : Int) (w : World) :
    Calls Try.prog 16 #[.int .i64 s, .int .i64 e] w fun en w' => en = .returned (.tuple #[.int .i64 (Status.After s e).1, .int .i64 (Status.After s e).2]) ∧ Fr w w' := by
  by_cases h : s < 0 ∨ 4 < s ∨ e < 0 ∨ 4 < e
  · rw [Status.After, if_pos h]
    go_enter Try.func16, Try.ntmps16
    go_wp2_with (first | (go_at_call 88; refine (status_right _ _).mono ?_; rintro _ _ ⟨rfl, rfl⟩))
    all_goals (go_ret2; exact ⟨rfl, Fr.refl _⟩)
  · exact status_After_in s e w (by omega) (by omega) (by omega) (by omega)

set_option maxRecDepth 10000 in
set_option maxHeartbeats 400000 in
theorem status_Name (s : Int) (w : World) :
    Calls Try.prog 20 #[.int .i64 s] w fun e w' => e = .returned (.string (Status.Name s)) ∧ Fr w w' := by
  unfold Status.Name
  by_cases h : 0 ≤ s ∧ s < 5
  · rw [if_pos h]
    obtain ⟨h0, h1⟩ := h
    have hc := Status.nm_cell s h0 h1
    generalize Status.nm s = x at hc ⊢
    go_enter Try.func20, Try.ntmps20
    go_wp2_with (first | (go_at_call 88; refine (status_right _ _).mono ?_; rintro _ _ ⟨rfl, rfl⟩) | (go_at_call 90; refine (names_any _).mono ?_; rintro _ _ ⟨rfl, rfl⟩) | ((with_reducible refine Go.Hf.gate (.store 116 (.tmp 3) (.tmp 7)) rfl ?_); refine Go.Hf.wpList_store_new rfl 116 (.tmp 3) (.tmp 7) rfl 116 _ _ _ rfl (by simp) rfl (by kernel_rfl) rfl (by decide) ?_))
    go_ret
    exact ⟨rfl, ((Fr.refl _).alloc _).alloc _⟩
  · rw [if_neg h]
    have hb : (decide (0 ≤ s) && decide (s < 5)) = false := by simp; omega
    go_enter Try.func20, Try.ntmps20
    go_wp2_with (first | (go_at_call 88; refine (status_right _ _).mono ?_; rintro _ _ ⟨rfl, rfl⟩))
    go_ret
    exact ⟨rfl, Fr.refl _⟩

set_option maxHeartbeats 400000 in
theorem status_Parse (x : ByteArray) (w : World) :
    Calls Try.prog 18 #[.string x] w fun e w' => e = .returned (.tuple #[.int .i64 (Status.Parse x).1, .int .i64 (Status.Parse x).2]) ∧ Fr w w' := by
  go_enter Try.func18, Try.ntmps18
  go_wp2
  go_loopw [5] (fun v wr => ∃ k : Int, v = .int .i64 k ∧ 0 ≤ k ∧ k ≤ 5 ∧ Hid (∀ j : Int, 0 ≤ j → j < k → ((Status.nm j).toList == x.toList) = false) ∧ Fr w wr) (fun v _ => (5 - intOf v).toNat)
  case atStart => exact ⟨0, rfl, by omega, by omega, fun j h0 h1 => by omega, Fr.refl _⟩
  case round =>
    obtain ⟨k, rfl, h0, h5, hp, hb⟩ := hrel
    by_cases hk : k < 5
    · have hn := Status.Name_nm k h0 hk
      have HN := Lib.hid hn
      clear hn
      go_wp2_with (first | (go_at_call 20; refine (status_Name _ _).mono ?_; rintro e w1 ⟨rfl, hb1⟩; rw [HN.out]))
      · rename_i h
        have hq := Lib.hid (Status.Parse_at x k h0 hk hp.out h)
        go_ret2
        exact ⟨by rw [hq.out]; rfl, hb.trans hb1⟩
      · rename_i h
        go_roundw
        case rel => exact ⟨k + 1, by go_num, by omega, by omega, fun j j0 j1 => if e : j = k then e ▸ h else hp.out j j0 (by omega), hb.trans hb1⟩
        case measure => simp [intOf]; omega
    · obtain rfl : k = 5 := by omega
      have hq := Lib.hid (Status.Parse_none x hp.out)
      go_wp2
      go_ret2
      exact ⟨by rw [hq.out]; rfl, hb⟩

theorem Final_eq (s : Int) (h0 : 0 ≤ s) (h1 : s < 5) (wx : World) : (Op.equalIn 10000 113 (.agg (Status.row s)) (.agg #[.int .i64 (-1), .int .i64 (-1), .int .i64 (-1), .int .i64 (-1), .int .i64 (-1)])).run Try.prog wx = .ok (decide (s = 3 ∨ s = 4)) wx := by
  rcases Status.range5 s h0 h1 with rfl | rfl | rfl | rfl | rfl <;> kernel_rfl

set_option maxRecDepth 10000 in
set_option maxHeartbeats 400000 in
theorem status_Final (s : Int) (w : World) :
    Calls Try.prog 22 #[.int .i64 s] w fun e w' => e = .returned (.bool (decide (s = 3 ∨ s = 4))) ∧ Fr w w' := by
  by_cases h : 0 ≤ s ∧ s < 5
  · obtain ⟨h0, h1⟩ := h
    have hr : ∀ (j : Nat) v, (Status.row s)[j]? = some v → (i64s tbl)[s.toNat * 5 + j]? = some v := Status.row_cell s h0 h1
    have he := Final_eq s h0 h1
    have HR := Lib.hid hr
    have HZ := Lib.hid (Status.row_size s h0 h1)
    clear hr
    generalize decide (s = 3 ∨ s = 4) = x at he ⊢
    go_enter Try.func22, Try.ntmps22
    go_wp2_with (first | (go_at_call 88; refine (status_right _ _).mono ?_; rintro _ _ ⟨rfl, rfl⟩) | (go_at_call 89; refine (table_any _).mono ?_; rintro _ _ ⟨rfl, rfl⟩) | ((with_reducible refine Go.Hf.gate (.store 114 (.tmp 3) (.tmp 7)) rfl ?_); refine Go.Hf.wpList_store_new rfl 114 (.tmp 3) (.tmp 7) rfl 114 _ _ _ rfl (by simp) rfl (by kernel_rfl) rfl (by decide) ?_) | ((with_reducible refine Go.Hf.gate (.load 113 (.tmp 9)) rfl ?_); refine Go.Hf.wpList_load_part rfl 113 (.tmp 9) rfl (w.heap.size + 1) _ rfl 114 (i64s tbl) _ (0, 0) _ (by simpa using heap_alloc_new (w.alloc (.cells (i64s tbl) 114)) _) HR.out Try.underlying113 rfl (by rw [HZ.out]; kernel_rfl) ?_))
    go_ret
    exact ⟨rfl, ((Fr.refl _).alloc _).alloc _⟩
  · have hb : (decide (0 ≤ s) && decide (s < 5)) = false := by simp; omega
    have hd : decide (s = 3 ∨ s = 4) = false := by simp; omega
    rw [hd]
    go_enter Try.func22, Try.ntmps22
    go_wp2_with (first | (go_at_call 88; refine (status_right _ _).mono ?_; rintro _ _ ⟨rfl, rfl⟩))
    go_ret
    exact ⟨rfl, Fr.refl _⟩

/-! ### The reference -/
set_option maxHeartbeats 400000 in
theorem ref11_After (s e : Int) (w : World) :
    Calls Try.prog 17 #[.int .i64 s, .int .i64 e] w fun en w' => en = .returned (.tuple #[.int .i64 (Status.After s e).1, .int .i64 (Status.After s e).2]) ∧ w = w' := by
  go_enter Try.func17, Try.ntmps17
  go_wp2
  all_goals (go_ret2; refine ⟨?_, rfl⟩)
  all_goals simp only [beq_iff_eq, beq_eq_false_iff_ne] at *
  all_goals (unfold Status.After; (repeat' split) <;> first | rfl | omega)

set_option maxHeartbeats 400000 in
theorem ref11_Name (s : Int) (w : World) :
    Calls Try.prog 21 #[.int .i64 s] w fun e w' => e = .returned (.string (Status.Name s)) ∧ w = w' := by
  by_cases h : 0 ≤ s ∧ s < 5
  · obtain ⟨h0, h1⟩ := h
    rcases Status.range5 s h0 h1 with rfl | rfl | rfl | rfl | rfl
    all_goals
      go_enter Try.func21, Try.ntmps21
      go_wp2
      go_ret
      exact ⟨rfl, rfl⟩
  · unfold Status.Name
    rw [if_neg h]
    have a0 : (s == 0) = false := by simp; omega
    have a1 : (s == 1) = false := by simp; omega
    have a2 : (s == 2) = false := by simp; omega
    have a3 : (s == 3) = false := by simp; omega
    have a4 : (s == 4) = false := by simp; omega
    go_enter Try.func21, Try.ntmps21
    go_wp2
    go_ret
    exact ⟨rfl, rfl⟩

set_option maxHeartbeats 400000 in
theorem ref11_Parse (x : ByteArray) (w : World) :
    Calls Try.prog 19 #[.string x] w fun e w' => e = .returned (.tuple #[.int .i64 (Status.Parse x).1, .int .i64 (Status.Parse x).2]) ∧ w = w' := by
  go_enter Try.func19, Try.ntmps19
  go_wp2
  go_loop [4] (fun v => ∃ k : Int, v = .int .i64 k ∧ 0 ≤ k ∧ k ≤ 5 ∧ Hid (∀ j : Int, 0 ≤ j → j < k → ((Status.nm j).toList == x.toList) = false)) (fun v => (5 - intOf v).toNat)
  case atStart => exact ⟨0, rfl, by omega, by omega, fun j h0 h1 => by omega⟩
  case round =>
    obtain ⟨k, rfl, h0, h5, hp⟩ := hrel
    by_cases hk : k < 5
    · have HN := Lib.hid (Status.Name_nm k h0 hk)
      go_wp2_with (first | (go_at_call 21; refine (ref11_Name _ _).mono ?_; rintro e w1 ⟨rfl, rfl⟩; rw [HN.out]))
      · rename_i h
        have hq := Lib.hid (Status.Parse_at x k h0 hk hp.out h)
        go_ret2
        exact ⟨by rw [hq.out]; rfl, rfl⟩
      · rename_i h
        go_round
        case rel => exact ⟨k + 1, by go_num, by omega, by omega, fun j j0 j1 => if e : j = k then e ▸ h else hp.out j j0 (by omega)⟩
        case measure => simp [intOf]; omega
    · obtain rfl : k = 5 := by omega
      have hq := Lib.hid (Status.Parse_none x hp.out)
      go_wp2
      go_ret2
      exact ⟨by rw [hq.out]; rfl, rfl⟩

set_option maxRecDepth 100000 in
set_option maxHeartbeats 1000000 in
theorem law11_alive (w : World) : Calls Try.prog 15 #[] w fun e w' => e = .returned (.bool true) ∧ Fr w w' := by
  have a1 : Status.After 0 0 = (1, 0) := rfl
  have a2 : Status.After 1 1 = (2, 0) := rfl
  have a3 : Status.After 2 2 = (1, 0) := rfl
  have a4 : Status.After 1 4 = (4, 0) := rfl
  have a5 : Status.After 4 3 = (0, 8) := rfl
  have a6 : Status.After 5 1 = (0, 1) := rfl
  have a7 : Status.Parse ⟨#[114, 101, 106, 101, 99, 116, 101, 100]⟩ = (3, 0) := by decide +kernel
  have a8 : Status.Name 2 = ⟨#[104, 101, 108, 100]⟩ := rfl
  have HB := Fr.refl w
  go_enter Try.func15, Try.ntmps15
  go_wp2_with (first | (go_at_call 16; refine (status_After _ _ _).mono ?_; rintro _ w1 ⟨rfl, hb⟩; replace HB := HB.trans hb; clear hb; simp only [a1, a2, a3, a4, a5, a6]) | (go_at_call 18; refine (status_Parse _ _).mono ?_; rintro _ w1 ⟨rfl, hb⟩; replace HB := HB.trans hb; clear hb; simp only [a7]) | (go_at_call 20; refine (status_Name _ _).mono ?_; rintro _ w1 ⟨rfl, hb⟩; replace HB := HB.trans hb; clear hb; simp only [a8]) | (go_at_call 22; refine (status_Final _ _).mono ?_; rintro _ w1 ⟨rfl, hb⟩; replace HB := HB.trans hb; clear hb))
  go_ret
  exact ⟨rfl, HB⟩
end Go.Proofs.Ythgmnlkblomcaaa
