/- StatusEnds: for any events, one behind the other from the quarantine on: what is rejected or shipped stays so, shipped is just what was released, and so on. No condition. -/
import Derived.Test.YthgmnlkblomcaaaStatus
import Derived.Test.YthgmnlkblomcaaaFrame
namespace Go.Proofs.Ythgmnlkblomcaaa.statusEnds
open Go.ChangeShapes Go.WideShapes Go.ChangeAt Go.RowKit Go.Hf
open Go.ChangeMaps (open_string shut_string)

theorem After_out (s x : Int) (h : x < 0 ∨ 4 < x) : Status.After s x = (0, 1) := by
  unfold Status.After; rw [if_pos (by omega)]

set_option maxRecDepth 100000 in
set_option maxHeartbeats 4000000 in
theorem law (A : Option Addr) (c : Nat) (l : List Int) (hm : l.length ≤ maxLen) (w : World) (hc : SlA 1 (flat fun x => [.int .i64 x]) w A l) :
    Calls Try.prog 4 #[.slice A l.length c] w fun en w' => en = .returned (.bool true) ∧ Fr w w' := by
  unfold maxLen at hm
  have HB := Fr.refl w
  have HC := Lib.hid hc
  clear hc
  by_cases hl : 200 < l.length
  · go_enter Try.func4, Try.ntmps4
    go_wp2_with (go_at_call 15; refine (law11_alive _).mono ?_; rintro _ w1 ⟨rfl, hb⟩; replace HB := HB.trans hb; clear hb)
    go_ret
    exact ⟨rfl, HB⟩
  · go_enter Try.func4, Try.ntmps4
    go_wp2_with fail
    go_loopw [3, 4] (fun s i wr => ∃ (t : Int) (k : Nat), s = .int .i64 t ∧ i = .int .i64 k ∧ 0 ≤ t ∧ t < 5 ∧ k ≤ l.length ∧ Fr w wr) (fun _ i _ => l.length - (intOf i).toNat)
    case atStart => exact ⟨0, 0, rfl, rfl, by omega, by omega, by omega, HB⟩
    case round =>
      obtain ⟨t, k, rfl, rfl, t0, t5, hk, hf⟩ := hrel
      clear HB
      by_cases hlt : k < l.length
      · obtain ⟨b, o, rfl, hcell⟩ := HC.out.at1 k hlt
        replace hcell := hf.cell hcell
        generalize l[k] = x at hcell
        by_cases hx : 0 ≤ x ∧ x < 5
        · obtain ⟨x0, x5⟩ := hx
          obtain ⟨nx, er, ha2⟩ : ∃ nx er, Status.After t x = (nx, er) := ⟨_, _, rfl⟩
          have ha := ha2
          rcases Status.range5 t t0 t5 with rfl | rfl | rfl | rfl | rfl <;> rcases Status.range5 x x0 x5 with rfl | rfl | rfl | rfl | rfl
          all_goals as_aux_lemma =>
           cases ha2
           go_wp2_with (go_at_call 16; refine (status_After _ _ _).mono ?_; rintro _ w1 ⟨rfl, hb⟩; replace hf := hf.trans hb; replace hcell := hb.cell hcell; clear hb)
           go_roundw
           case rel => exact ⟨_, k + 1, rfl, by go_num, by omega, by omega, by omega, hf⟩
           case measure => simp [intOf]; omega
        · have ha := After_out t x (by omega)
          go_wp2_with (go_at_call 16; refine (status_After _ _ _).mono ?_; rintro _ w1 ⟨rfl, hb⟩; replace hf := hf.trans hb; replace hcell := hb.cell hcell; clear hb)
          go_roundw
          case rel => exact ⟨t, k + 1, rfl, by go_num, t0, t5, by omega, hf⟩
          case measure => simp [intOf]; omega
      · obtain rfl : k = l.length := by omega
        go_wp2_with (first | (go_at_call 15; refine (law11_alive _).mono ?_; rintro _ w1 ⟨rfl, hb⟩; replace hf := hf.trans hb; clear hb) | (go_at_call 22; refine (status_Final _ _).mono ?_; rintro _ w1 ⟨rfl, hb⟩; replace hf := hf.trans hb; clear hb))
        all_goals (go_ret; exact ⟨by first | rfl | (by_cases h4 : t = 4 <;> simp [*]), hf⟩)

theorem opens : Opens Try.prog 33 (slR 1 (flat fun x : Int => [.int .i64 x])) :=
  opens_slice Try.underlying33 (by kernel_rfl) (by omega) (fun enc w fuel cs x h => by obtain ⟨n, h1, _⟩ := opens_int Try.underlying23 enc w fuel cs x h; exact ⟨n, h1⟩)

set_option maxRecDepth 100000 in
theorem walk {H : Type} {enc : TypeId × Value → H} (W : World) (base : Nat) (args : Array Value) (ds : List (DataW H)) (ps : List MemPlace) (hval : ∀ (j : Nat) t v, Try.f4.params[j]? = some t → args[j]? = some v → Value.okWide Try.prog W .any base t v)
    (hA : DataW.TrodAll enc Try.prog W 0 (fun _ => true) true Try.f4.params.toList args.toList ds ps) : Calls Try.prog 4 args W fun e W' => e = .returned (.bool true) ∧ Fr W W' := by
  rw [Try.params4] at hA
  obtain ⟨v0, vs0, d0, ds0, p0, q0, hargs, rfl, rfl, h0, r0⟩ := trodAll_cons hA
  obtain ⟨rfl, rfl, rfl⟩ := trodAll_nil r0
  obtain rfl : args = #[v0] := by cases args; simp_all
  rw [Try.params4] at hval
  obtain ⟨A, c, l, rfl, h1, h2, h3⟩ := open_slice_arg Try.underlying33 (hval 0 _ v0 rfl rfl) h0 opens
  exact law A c l (Nat.le_trans h1 h2) W h3

theorem own : ownKnob Try.prog.godebug = none := by kernel_rfl

set_option maxRecDepth 100000 in
theorem lifted (os : Os) (started : os.Started) (H : Type) (enc : TypeId × Value → H) :
    ReturnsInHanded {} Try.checked os 4 .any (Rows.statusEndsSpec.pre6 enc Try.prog Try.f4 Rows.statusEndsRow.domain false) (Rows.statusEndsSpec.post enc Try.prog Try.f4 false true false false) :=
  Hf.law_lifted (C := Try.checked) own started (by kernel_rfl) Try.func4
    (ChangeSpec.witness6 (enc := enc) (C := Try.checked) false ⟨#[], #[.slice none 0 0], []⟩ 8 (by kernel_rfl) (by kernel_rfl) (by kernel_rfl) (by kernel_rfl))
    rfl (by kernel_rfl) Try.underlying4 (by kernel_rfl) (by kernel_rfl)
    (by intro ds h; rw [Try.params4] at h; match ds, h with | [_], _ => rfl) walk

theorem over : Rows.statusEndsRow.holds Try.pinned (OpenSpec.ofChange Rows.statusEndsSpec) :=
  OpenClaim.holds_of_wide 4 Try.f4 rfl rfl rfl rfl rfl rfl rfl ⟨rfl, rfl, rfl, rfl, rfl⟩ rfl rfl rfl rfl rfl (by kernel_rfl) Try.func4 (by kernel_rfl)
    (of_decide_eq_true (by kernel_rfl)) (by unfold Func.isWrapper; first | (rw [if_pos (by decide +kernel)]; kernel_rfl) | (rw [if_neg (by decide +kernel)]; exact ⟨rfl, rfl⟩))
    (fun os started H enc _ => lifted os started H enc)

/-- The statement. -/
theorem proved : Rows.StatusEndsSaid := over
#print axioms proved
end Go.Proofs.Ythgmnlkblomcaaa.statusEnds
