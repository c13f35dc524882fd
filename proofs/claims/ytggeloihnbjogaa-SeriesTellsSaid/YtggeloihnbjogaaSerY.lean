
/- Readings (layer 6): the reference's last. -/
import Derived.Test.YtggeloihnbjogaaSerX
import Derived.Test.YtggeloihnbjogaaSerD
import Derived.Deep.RegionHeld3
namespace Go.Proofs.Ytggeloihnbjogaa
open Go.RowKit Go.Hf
theorem RefO.is {g : Nat} {a b : Int} {l : List Rd} {w0 w : World} {L R : List Asr} (I : St w0 w L) (hA : At (RefO g a b l) L R) : SerIs w g a b l := by
  obtain ⟨v, J⟩ := RefO.open I hA
  obtain ⟨A, c, rfl, _⟩ := (J.own (v := v) (l := l) (.there .here)).reads encR_len
  exact ⟨A, c, J.cell .here rfl, J.cell .here rfl, J.cell .here rfl, J.slv (.there .here) encR_len⟩
namespace Ser
def rls (m : Int) (o : Option Rd) (x : Rd) : Option Rd := if m < x.m then o else match o with
  | none => some x
  | some y => if ahead y x = true then some x else some y
def rl (l : List Rd) (m : Int) : Option Rd := l.foldl (rls m) none
theorem rl_snoc (l : List Rd) (m : Int) (x : Rd) : rl (l ++ [x]) m = rls m (rl l m) x := by unfold rl; rw [List.foldl_append]; rfl
def RlIs (l : List Rd) (m : Int) : Option Rd → Prop
  | none => ∀ x ∈ l, m < x.m
  | some x => x ∈ l ∧ x.m ≤ m ∧ ∀ y ∈ l, y.m ≤ m → ¬ lt x y
theorem rl_is (m : Int) : ∀ (l M : List Rd) (o : Option Rd), RlIs M m o → RlIs (M ++ l) m (l.foldl (rls m) o)
  | [], M, o, h => by rw [List.append_nil]; exact h
  | x :: l, M, o, h => by
    have h2 : RlIs (M ++ [x]) m (rls m o x) := by
      unfold rls
      by_cases c : m < x.m
      · rw [if_pos c]
        cases o with
        | none =>
          intro y hy
          rcases List.mem_append.1 hy with hy | hy
          · exact h y hy
          · rw [List.mem_singleton.1 hy]; exact c
        | some z =>
          refine ⟨List.mem_append_left _ h.1, h.2.1, fun y hy hym => ?_⟩
          rcases List.mem_append.1 hy with hy | hy
          · exact h.2.2 y hy hym
          · rw [List.mem_singleton.1 hy] at hym; omega
      · rw [if_neg c]
        cases o with
        | none =>
          refine ⟨List.mem_append_right _ (List.mem_singleton.2 rfl), by omega, fun y hy hym => ?_⟩
          rcases List.mem_append.1 hy with hy | hy
          · have := h y hy; omega
          · rw [List.mem_singleton.1 hy]; exact lt_irrefl _
        | some z =>
          dsimp only
          by_cases d : ahead z x = true
          · rw [if_pos d]
            have d2 := (ahead_iff z x).1 d
            refine ⟨List.mem_append_right _ (List.mem_singleton.2 rfl), by omega, fun y hy hym => ?_⟩
            rcases List.mem_append.1 hy with hy | hy
            · exact fun e => h.2.2 y hy hym (lt_trans d2 e)
            · rw [List.mem_singleton.1 hy]; exact lt_irrefl _
          · rw [if_neg d]
            refine ⟨List.mem_append_left _ h.1, h.2.1, fun y hy hym => ?_⟩
            rcases List.mem_append.1 hy with hy | hy
            · exact h.2.2 y hy hym
            · rw [List.mem_singleton.1 hy]; exact fun e => d ((ahead_iff z x).2 e)
    have := rl_is m l (M ++ [x]) (rls m o x) h2
    rw [List.append_assoc] at this
    exact this
/-- The reference's last one is that of the sorted list. -/
theorem rl_last {l s : List Rd} (hs : Sorted s) (hm : ∀ x, x ∈ l ↔ x ∈ s) (b m : Int) : last s b m = match rl l m with
    | none => none
    | some x => if b < m - x.m then none else some x := by
  have h := rl_is m l [] none (fun x hx => by cases hx)
  rw [List.nil_append] at h
  change RlIs l m (rl l m) at h
  cases hr : rl l m with
  | none => rw [hr] at h; exact last_ref_none hs hm b m h
  | some x => rw [hr] at h; exact last_ref_some hs hm b m x h.1 h.2.1 h.2.2
end Ser
end Go.Proofs.Ytggeloihnbjogaa
