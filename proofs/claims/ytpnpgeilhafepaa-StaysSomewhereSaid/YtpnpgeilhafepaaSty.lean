/- Stays (layer 9): the value. -/
import Derived.Test.YtpnpgeilhafepaaRows
import Derived.Test.YtpnpgeilhafepaaStS
import Derived.Test.YtpnpgeilhafepaaTypes
namespace Go.Proofs.Ytpnpgeilhafepaa
open Go.RowKit Go.Hf

structure Stay where
  zone : Int
  frm : Int
  to_ : Int
deriving DecidableEq
def encS (x : Stay) : List Value := [.int .i64 x.zone, .int .i64 x.frm, .int .i64 x.to_]
theorem encS_len (x : Stay) : (encS x).length = 3 := rfl
theorem encS_one (o : Stay) : ∀ u ∈ encS o, u.oneCell' = true := by intro u hu; simp [encS] at hu; rcases hu with rfl | rfl | rfl <;> rfl
abbrev Stays (w : World) (v : Value) (l : List Stay) : Prop := SlV 3 (flat encS) w v l

set_option maxRecDepth 100000 in
set_option maxHeartbeats 400000 in
theorem clone_stays (v : Value) (l : List Stay) (w : World) (h : SlV 3 (flat encS) w v l) (hm : l.length * 24 ≤ 140737488355328) :
    Calls Try.prog 90 #[v] w fun e w' => ∃ v', e = .returned v' ∧ Own w.heap.size 33 3 encS w' v' l ∧ Fr w w' ∧ (v' = .slice none 0 0 ↔ v = .slice none 0 0) := by
  obtain ⟨A, _, c, rfl, rfl, hl, _, hA, h⟩ := h
  have HS := Lib.hid h
  have HC := Lib.hid hl
  have HAc := Lib.hid hA
  have HM := Lib.hid hm
  clear h hl hA hm
  cases A with
  | none =>
    obtain rfl : l = [] := HS.out.1 rfl
    obtain rfl : c = 0 := HAc.out rfl
    have hq := fun wx => Lib.run_eql_slice_nil (P := Try.prog) wx 25 33 none 0 0 0 0 Try.underlying25
    go_enter Try.func90, Try.ntmps90
    go_wp2
    go_ret
    exact ⟨_, rfl, Own.nil _ _ _ _ _, Fr.refl _, by simp⟩
  | some a =>
    have hq := fun wx => Lib.run_eql_slice_nil (P := Try.prog) wx 25 33 (some a) l.length c 0 0 Try.underlying25
    go_enter Try.func90, Try.ntmps90
    go_wp2_with ((with_reducible refine gate (.call { callee := .builtin .append, args := #[.tmp 5, .tmp 6], argTypes := #[25, 25] }) rfl ?_); refine wpList_app rfl (.tmp 5) (.tmp 6) 25 rfl w.heap.size 33 (.agg #[.int .i64 0, .int .i64 0, .int .i64 0]) 3 24 Try.underlying25 (by kernel_rfl) rfl (by decide) encS_len encS_one (l := []) rfl (Own.lit _ _ _ _ w #[] [] (Nat.le_refl _) (Nat.zero_le _) encS_len rfl) rfl HC.out ((HS.out.fr (flat_stays _) ((Fr.refl w).alloc _)).raw encS_len (by decide)) (fun h => (by cases h)) ?_ ?_ ?_ ?_)
    · have := HM.out; simp; omega
    · have := HM.out; simp [maxLen]; omega
    · simp
    · intro v' w1 h1 h2 h3 _
      have H3 := Lib.hid h3
      clear h3
      go_wp2
      go_ret
      refine ⟨_, rfl, h1, Fr.grown ((Fr.refl w).alloc _) h2 (fun k hk => ?_), ?_⟩
      · simp [Value.ownBlock] at hk; omega
      · simpa using H3.out
end Go.Proofs.Ytpnpgeilhafepaa
