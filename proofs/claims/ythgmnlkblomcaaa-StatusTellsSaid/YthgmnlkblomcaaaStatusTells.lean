/- StatusTells: for any status, event and name, package status answers as its reference does: what is behind an event, or the error; the name of a status; the status of a name; whether it is final. No condition. -/
import Derived.Test.YthgmnlkblomcaaaStatus
import Derived.Test.YthgmnlkblomcaaaFrame
namespace Go.Proofs.Ythgmnlkblomcaaa.statusTells
open Go.ChangeShapes Go.WideShapes Go.ChangeAt Go.RowKit Go.Hf
open Go.ChangeMaps (open_string shut_string)

theorem nm_Parse (s : Int) (h0 : 0 ≤ s) (h1 : s < 5) : Status.Parse (Status.nm s) = (s, 0) := by
  rcases Status.range5 s h0 h1 with rfl | rfl | rfl | rfl | rfl <;> decide +kernel
theorem nm_ne (s : Int) (h0 : 0 ≤ s) (h1 : s < 5) : ((Status.nm s).toList.isEmpty) = false := by
  rcases Status.range5 s h0 h1 with rfl | rfl | rfl | rfl | rfl <;> decide +kernel

set_option maxRecDepth 100000 in
set_option maxHeartbeats 1000000 in
theorem law (s e : Int) (x : ByteArray) (hx : x.size ≤ maxLen) (w : World) :
    Calls Try.prog 3 #[.int .i64 s, .int .i64 e, .string x] w fun en w' => en = .returned (.bool true) ∧ Fr w w' := by
  unfold maxLen at hx
  have HB := Fr.refl w
  by_cases hl : 100 < x.size
  · go_enter Try.func3, Try.ntmps3
    go_wp2_with (go_at_call 15; refine (law11_alive _).mono ?_; rintro _ w1 ⟨rfl, hb⟩; replace HB := HB.trans hb; clear hb)
    go_ret
    exact ⟨rfl, HB⟩
  · have hn : (Status.Name s).toList = [] ∨ ¬ (Status.Name s).toList = [] ∧ Status.Parse (Status.Name s) = (s, 0) := by
      by_cases h : 0 ≤ s ∧ s < 5
      · right
        rw [Status.Name_nm s h.1 h.2]
        exact ⟨by simpa using nm_ne s h.1 h.2, nm_Parse s h.1 h.2⟩
      · left; rw [Status.Name, if_neg h]; decide +kernel
    rcases hn with hn | ⟨hn, hp⟩
    all_goals
     go_enter Try.func3, Try.ntmps3
     go_wp2_with (first | (go_at_call 15; refine (law11_alive _).mono ?_; rintro _ w1 ⟨rfl, hb⟩; replace HB := HB.trans hb; clear hb) | (go_at_call 16; refine (status_After _ _ _).mono ?_; rintro _ w1 ⟨rfl, hb⟩; replace HB := HB.trans hb; clear hb) | (go_at_call 18; refine (status_Parse _ _).mono ?_; rintro _ w1 ⟨rfl, hb⟩; replace HB := HB.trans hb; clear hb) | (go_at_call 20; refine (status_Name _ _).mono ?_; rintro _ w1 ⟨rfl, hb⟩; replace HB := HB.trans hb; clear hb) | (go_at_call 22; refine (status_Final _ _).mono ?_; rintro _ w1 ⟨rfl, hb⟩; replace HB := HB.trans hb; clear hb) | (go_at_call 17; refine (ref11_After _ _ _).mono ?_; rintro _ w1 ⟨rfl, rfl⟩) | (go_at_call 21; refine (ref11_Name _ _).mono ?_; rintro _ w1 ⟨rfl, rfl⟩) | (go_at_call 19; refine (ref11_Parse _ _).mono ?_; rintro _ w1 ⟨rfl, rfl⟩))
     all_goals (go_ret; exact ⟨by first | rfl | (by_cases h4 : s = 4 <;> simp [*]), HB⟩)

set_option maxRecDepth 100000 in
theorem walk {H : Type} {enc : TypeId × Value → H} (W : World) (base : Nat) (args : Array Value) (ds : List (DataW H)) (ps : List MemPlace) (hval : ∀ (j : Nat) t v, Try.f3.params[j]? = some t → args[j]? = some v → Value.okWide Try.prog W .any base t v)
    (hA : DataW.TrodAll enc Try.prog W 0 (fun _ => true) true Try.f3.params.toList args.toList ds ps) : Calls Try.prog 3 args W fun e W' => e = .returned (.bool true) ∧ Fr W W' := by
  rw [Try.params3] at hA
  obtain ⟨v0, vs0, d0, ds0, p0, q0, hargs, rfl, rfl, h0, r0⟩ := trodAll_cons hA
  obtain ⟨v1, vs1, d1, ds1, p1, q1, rfl, rfl, rfl, h1, r1⟩ := trodAll_cons r0
  obtain ⟨v2, vs2, d2, ds2, p2, q2, rfl, rfl, rfl, h2, r2⟩ := trodAll_cons r1
  obtain ⟨rfl, rfl, rfl⟩ := trodAll_nil r2
  obtain rfl : args = #[v0, v1, v2] := by cases args; simp_all
  rw [Try.params3] at hval
  obtain ⟨a0, rfl, rfl, rfl, w0⟩ := open_int Try.underlying22 (hval 0 _ v0 rfl rfl) h0
  obtain ⟨a1, rfl, rfl, rfl, w1⟩ := open_int Try.underlying23 (hval 1 _ v1 rfl rfl) h1
  obtain ⟨a2, rfl, rfl, rfl, w2⟩ := open_string Try.underlying9 (hval 2 _ v2 rfl rfl) h2
  exact law a0 a1 a2 w2 W

theorem own : ownKnob Try.prog.godebug = none := by kernel_rfl

set_option maxRecDepth 100000 in
theorem lifted (os : Os) (started : os.Started) (H : Type) (enc : TypeId × Value → H) :
    ReturnsInHanded {} Try.checked os 3 .any (Rows.statusTellsSpec.pre6 enc Try.prog Try.f3 Rows.statusTellsRow.domain false) (Rows.statusTellsSpec.post enc Try.prog Try.f3 false true false false) :=
  Hf.law_lifted (C := Try.checked) own started (by kernel_rfl) Try.func3
    (ChangeSpec.witness6 (enc := enc) (C := Try.checked) false ⟨#[], #[.int .i64 0, .int .i64 0, .string ByteArray.empty], []⟩ 8 (by kernel_rfl) (by kernel_rfl) (by kernel_rfl) (by kernel_rfl))
    rfl (by kernel_rfl) Try.underlying4 (by kernel_rfl) (by kernel_rfl)
    (by intro ds h; rw [Try.params3] at h; match ds, h with | [_, _, _], _ => rfl) walk

theorem over : Rows.statusTellsRow.holds Try.pinned (OpenSpec.ofChange Rows.statusTellsSpec) :=
  OpenClaim.holds_of_wide 3 Try.f3 rfl rfl rfl rfl rfl rfl rfl ⟨rfl, rfl, rfl, rfl, rfl⟩ rfl rfl rfl rfl rfl (by kernel_rfl) Try.func3 (by kernel_rfl)
    (of_decide_eq_true (by kernel_rfl)) (by unfold Func.isWrapper; first | (rw [if_pos (by decide +kernel)]; kernel_rfl) | (rw [if_neg (by decide +kernel)]; exact ⟨rfl, rfl⟩))
    (fun os started H enc _ => lifted os started H enc)

/-- The statement. -/
theorem proved : Rows.StatusTellsSaid := over
#print axioms proved
end Go.Proofs.Ythgmnlkblomcaaa.statusTells
