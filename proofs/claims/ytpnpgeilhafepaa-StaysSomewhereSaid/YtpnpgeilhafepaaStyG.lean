/- Stays (layer 9): contracts of Enter, Leave. -/
import Derived.Test.YtpnpgeilhafepaaStyF
namespace Go.Proofs.Ytpnpgeilhafepaa
open Go.RowKit Go.Hf

def Sty.code {α : Type} : Option α → Int
  | none => 1
  | some _ => 0
theorem Sty.ended_len {l out : List Stay} {now : Int} (h : Sty.ended l now = some out) : out.length ≤ l.length := by
  unfold Sty.ended at h
  split at h
  · cases h
  · rcases List.eq_nil_or_concat l with rfl | ⟨t, x, rfl⟩
    · simp at h; subst h; simp
    · rw [List.concat_eq_append] at *
      simp only [List.getLast?_concat, List.dropLast_concat] at h
      split at h
      · split at h
        · injection h with h; subst h; exact Nat.le_refl _
        · cases h
      · split at h
        · cases h
        · split at h
          · injection h with h; subst h; simp
          · injection h with h; subst h; simp
theorem stays_ended_no (v : Value) (l : List Stay) (now : Int) (w : World) (h : Stays w v l) (hl : l.length ≤ 1000000) (hn : Sty.ended l now = none) :
    Calls Try.prog 54 #[v, .int .i64 now] w fun e w' => ∃ v', e = .returned (.tuple #[v', .bool false]) ∧ St w w' [] := by
  refine (stays_ended v l now w h hl).mono ?_
  rintro _ w1 ⟨v', b, rfl, rfl, hf, _⟩
  rw [hn]
  exact ⟨v', rfl, (St.refl w).still hf⟩
theorem stays_ended_ok (v : Value) (l out : List Stay) (now : Int) (w : World) (h : Stays w v l) (hl : l.length ≤ 1000000) (hn : Sty.ended l now = some out) :
    Calls Try.prog 54 #[v, .int .i64 now] w fun e w' => ∃ A c, e = .returned (.tuple #[.slice A out.length c, .bool true]) ∧ (out ≠ [] → ∃ g, A = some ⟨g, 0, none⟩) ∧ out.length ≤ c ∧ St w w' [OwnS 33 3 encS (.slice A out.length c) out] := by
  refine (stays_ended v l now w h hl).mono ?_
  rintro _ w1 ⟨v', b, rfl, rfl, hf, S⟩
  have S := S out hn
  rw [hn]
  obtain ⟨A, c, rfl, hc, hm, _⟩ := (S.own .here).reads encS_len
  refine ⟨A, c, rfl, fun hne => ?_, hc, S⟩
  obtain ⟨g, cap, e, _⟩ := (S.own .here).base_of hne
  injection e with e
  exact ⟨g, e⟩

set_option maxRecDepth 100000 in
set_option maxHeartbeats 1000000 in
theorem stays_Enter (v : Value) (l : List Stay) (z now : Int) (w : World) (h : Stays w v l) (hl : l.length ≤ 1000000) :
    Calls Try.prog 12 #[v, .int .i64 z, .int .i64 now] w fun e w' => ∃ v' en, e = .returned (.tuple #[v', .int .i64 en]) ∧ en = Sty.code (Sty.enter l z now) ∧ Fr w w' ∧ ∀ out, Sty.enter l z now = some out → St w w' [OwnS 33 3 encS v' out] := by
  have I := St.refl w
  unfold Sty.enter
  cases hq : Sty.ended l now with
  | none =>
    have HE := Lib.hid (fun wx (hf : Fr w wx) => stays_ended_no v l now wx (h.frF hf) hl hq)
    clear hq
    dsimp only
    go_enter Try.func12, Try.ntmps12
    go_wp2_with (first | (first | ((with_reducible refine gguard ?_); (first | refine w_guardT (by rfl) (fun hb => ?_) (fun hb => ?_) | refine w_guardF (by rfl) (fun hb => ?_) (fun hb => ?_)) <;> first | (cases hb; done) | cases hb | ((try rw [hb]) <;> (try simp at hb) <;> go_prune <;> (try (with_reducible replace hb := eqPair hb)))) | (((with_reducible refine gbox ?_); first | refine w_boxA I (by rfl) ?_ | refine w_box1 I (by (conv => lhs; whnf) <;> rfl) (by rfl) ?_); clear I; intro g w I) | ((with_reducible refine galloc ?_); refine w_alloc I ?_; clear I; intro g w I) | ((with_reducible refine gload ?_); first | refine w_loadB I (by rfl) (by first | (with_reducible repeat (first | exact .here | apply At.there)); done | repeat (first | exact .here | apply At.there)) (by rfl) ?_ | refine w_loadBR I (by rfl) (by first | (with_reducible repeat (first | exact .here | apply At.there)); done | repeat (first | exact .here | apply At.there)) (by rfl) ?_ | refine w_load0 I (by rfl) (by assumption) ?_) | ((with_reducible refine gstore ?_); (first | refine w_storeB I (by rfl) (by (conv => lhs; whnf) <;> rfl) (by first | (with_reducible repeat (first | exact .here | apply Upd.there)); done | repeat (first | exact .here | apply Upd.there)) (by rfl) (by rfl) (by simp only [List.set_cons_zero, List.set_cons_succ] <;> rfl) ?_ | refine w_storeBR I (by rfl) (by rfl) (by first | (with_reducible repeat (first | exact .here | apply Upd.there)); done | repeat (first | exact .here | apply Upd.there)) (by rfl) (by rfl) (by rfl) ?_); clear I; intro w I)) | (go_at_call 54; go_must (refine (HE.out _ I.fr).mono ?_; rintro _ w1 ⟨ve, rfl, S⟩; replace I := I.then0 S; clear S)))
    exact ret_2 rfl (by first | (exact ResV.t _ (by rfl)) | (exact ResV.row I (by rfl) (by first | (with_reducible repeat (first | exact .here | apply At.there)); done | repeat (first | exact .here | apply At.there)) (by rfl)) | (exact ResV.one I (by rfl) (by first | (with_reducible repeat (first | exact .here | apply At.there)); done | repeat (first | exact .here | apply At.there)))) (by first | (exact ResV.t _ (by rfl)) | (exact ResV.row I (by rfl) (by first | (with_reducible repeat (first | exact .here | apply At.there)); done | repeat (first | exact .here | apply At.there)) (by rfl)) | (exact ResV.one I (by rfl) (by first | (with_reducible repeat (first | exact .here | apply At.there)); done | repeat (first | exact .here | apply At.there)))) rfl ⟨_, _, rfl, rfl, I.fr, fun _ hh => (by cases hh)⟩
  | some out =>
    have HE := Lib.hid (fun wx (hf : Fr w wx) => stays_ended_ok v l out now wx (h.frF hf) hl hq)
    have hol := Sty.ended_len hq
    clear hq
    dsimp only
    by_cases hz : z < 1
    · rw [if_pos hz]
      go_enter Try.func12, Try.ntmps12
      go_wp2_with (first | (first | ((with_reducible refine gguard ?_); (first | refine w_guardT (by rfl) (fun hb => ?_) (fun hb => ?_) | refine w_guardF (by rfl) (fun hb => ?_) (fun hb => ?_)) <;> first | (cases hb; done) | cases hb | ((try rw [hb]) <;> (try simp at hb) <;> go_prune <;> (try (with_reducible replace hb := eqPair hb)))) | (((with_reducible refine gbox ?_); first | refine w_boxA I (by rfl) ?_ | refine w_box1 I (by (conv => lhs; whnf) <;> rfl) (by rfl) ?_); clear I; intro g w I) | ((with_reducible refine galloc ?_); refine w_alloc I ?_; clear I; intro g w I) | ((with_reducible refine gload ?_); first | refine w_loadB I (by rfl) (by first | (with_reducible repeat (first | exact .here | apply At.there)); done | repeat (first | exact .here | apply At.there)) (by rfl) ?_ | refine w_loadBR I (by rfl) (by first | (with_reducible repeat (first | exact .here | apply At.there)); done | repeat (first | exact .here | apply At.there)) (by rfl) ?_ | refine w_load0 I (by rfl) (by assumption) ?_) | ((with_reducible refine gstore ?_); (first | refine w_storeB I (by rfl) (by (conv => lhs; whnf) <;> rfl) (by first | (with_reducible repeat (first | exact .here | apply Upd.there)); done | repeat (first | exact .here | apply Upd.there)) (by rfl) (by rfl) (by simp only [List.set_cons_zero, List.set_cons_succ] <;> rfl) ?_ | refine w_storeBR I (by rfl) (by rfl) (by first | (with_reducible repeat (first | exact .here | apply Upd.there)); done | repeat (first | exact .here | apply Upd.there)) (by rfl) (by rfl) (by rfl) ?_); clear I; intro w I)) | (go_at_call 54; go_must (refine (HE.out _ I.fr).mono ?_; rintro _ w1 ⟨A, c, rfl, _, _, S⟩; replace I := I.then1 S; clear S)))
      all_goals first | exact ret_2 rfl (by first | (exact ResV.t _ (by rfl)) | (exact ResV.row I (by rfl) (by first | (with_reducible repeat (first | exact .here | apply At.there)); done | repeat (first | exact .here | apply At.there)) (by rfl)) | (exact ResV.one I (by rfl) (by first | (with_reducible repeat (first | exact .here | apply At.there)); done | repeat (first | exact .here | apply At.there)))) (by first | (exact ResV.t _ (by rfl)) | (exact ResV.row I (by rfl) (by first | (with_reducible repeat (first | exact .here | apply At.there)); done | repeat (first | exact .here | apply At.there)) (by rfl)) | (exact ResV.one I (by rfl) (by first | (with_reducible repeat (first | exact .here | apply At.there)); done | repeat (first | exact .here | apply At.there)))) rfl ⟨_, _, rfl, rfl, I.fr, fun _ hh => (by cases hh)⟩ | omega
    · rw [if_neg hz]
      rcases List.eq_nil_or_concat out with rfl | ⟨t, y, rfl⟩
      · dsimp only [List.getLast?_nil]
        go_enter Try.func12, Try.ntmps12
        go_wp2_with (first | (first | ((with_reducible refine gguard ?_); (first | refine w_guardT (by rfl) (fun hb => ?_) (fun hb => ?_) | refine w_guardF (by rfl) (fun hb => ?_) (fun hb => ?_)) <;> first | (cases hb; done) | cases hb | ((try rw [hb]) <;> (try simp at hb) <;> go_prune <;> (try (with_reducible replace hb := eqPair hb)))) | (((with_reducible refine gbox ?_); first | refine w_boxA I (by rfl) ?_ | refine w_box1 I (by (conv => lhs; whnf) <;> rfl) (by rfl) ?_); clear I; intro g w I) | ((with_reducible refine galloc ?_); refine w_alloc I ?_; clear I; intro g w I) | ((with_reducible refine gload ?_); first | refine w_loadB I (by rfl) (by first | (with_reducible repeat (first | exact .here | apply At.there)); done | repeat (first | exact .here | apply At.there)) (by rfl) ?_ | refine w_loadBR I (by rfl) (by first | (with_reducible repeat (first | exact .here | apply At.there)); done | repeat (first | exact .here | apply At.there)) (by rfl) ?_ | refine w_load0 I (by rfl) (by assumption) ?_) | ((with_reducible refine gstore ?_); (first | refine w_storeB I (by rfl) (by (conv => lhs; whnf) <;> rfl) (by first | (with_reducible repeat (first | exact .here | apply Upd.there)); done | repeat (first | exact .here | apply Upd.there)) (by rfl) (by rfl) (by simp only [List.set_cons_zero, List.set_cons_succ] <;> rfl) ?_ | refine w_storeBR I (by rfl) (by rfl) (by first | (with_reducible repeat (first | exact .here | apply Upd.there)); done | repeat (first | exact .here | apply Upd.there)) (by rfl) (by rfl) (by rfl) ?_); clear I; intro w I)) | (((with_reducible refine gbsr ?_); refine w_bsr (enc := encS) [⟨z, now, -1⟩] encS_len I (by rfl) (by rfl) (by decide) (by decide) (by decide) ?_); clear I; intro g w I) | ((with_reducible refine gappend ?_); refine w_append encS_len encS_one (by decide) I (by rfl) (by first | (with_reducible repeat (first | exact .here | apply At.there)); done | repeat (first | exact .here | apply At.there)) (by rfl) (l2 := [⟨z, now, -1⟩]) (I.slv .here encS_len) (by first | omega | (simp <;> omega)) (by unfold maxLen; first | omega | (simp <;> omega)) ?_; clear I; intro A m c w I) | (go_at_call 54; go_must (refine (HE.out _ I.fr).mono ?_; rintro _ w1 ⟨A, c, rfl, _, hc, S⟩; replace I := I.then1 S; clear S)))
        all_goals try omega
        refine ret_2 rfl (by first | (exact ResV.t _ (by rfl)) | (exact ResV.row I (by rfl) (by first | (with_reducible repeat (first | exact .here | apply At.there)); done | repeat (first | exact .here | apply At.there)) (by rfl)) | (exact ResV.one I (by rfl) (by first | (with_reducible repeat (first | exact .here | apply At.there)); done | repeat (first | exact .here | apply At.there)))) (by first | (exact ResV.t _ (by rfl)) | (exact ResV.row I (by rfl) (by first | (with_reducible repeat (first | exact .here | apply At.there)); done | repeat (first | exact .here | apply At.there)) (by rfl)) | (exact ResV.one I (by rfl) (by first | (with_reducible repeat (first | exact .here | apply At.there)); done | repeat (first | exact .here | apply At.there)))) rfl ⟨_, _, rfl, rfl, I.fr, fun out hh => ?_⟩
        obtain rfl : [⟨z, now, -1⟩] = out := by simpa using hh
        exact I.pick .here
      · rw [List.concat_eq_append] at *
        simp only [List.getLast?_concat, List.dropLast_concat]
        have hlen : (t ++ [y]).length = t.length + 1 := by simp
        rw [hlen] at hol HE
        have hne : t ++ [y] ≠ [] := by simp
        have HN := Lib.hid hne
        have HL := Lib.hid hlen
        clear hlen hne
        have q1 := IntWalk.i64_in (t.length : Int) (by omega)
        have q2 : IntKind.i64.wrap ((t.length : Int) + 1 - 1) = (t.length : Int) := by rw [IntWalk.i64_in _ (by omega)]; omega
        have hi0 : (0 : Int) ≤ (t.length : Int) := by omega
        have hi1 : (t.length : Int) < (t.length : Int) + 1 := by omega
        by_cases he : y.zone = z
        · have hb : (y.zone == z) = true := by simpa using he
          rw [if_pos he]
          clear he
          go_enter Try.func12, Try.ntmps12
          go_wp2_with (first | ((with_reducible refine gstore ?_); refine w_storeO encS_len I (by rfl) (by rfl) .here (i := t.length) (f := 2) (b := y) (b' := { y with to_ := -1 }) (l' := t ++ [{ y with to_ := -1 }]) (by first | rfl | omega) (by simp) (by decide) (by rfl) (by rfl) (by simp) ?_; clear I; intro w I) | (first | ((with_reducible refine gguard ?_); (first | refine w_guardT (by rfl) (fun hb => ?_) (fun hb => ?_) | refine w_guardF (by rfl) (fun hb => ?_) (fun hb => ?_)) <;> first | (cases hb; done) | cases hb | ((try rw [hb]) <;> (try simp at hb) <;> go_prune <;> (try (with_reducible replace hb := eqPair hb)))) | (((with_reducible refine gbox ?_); first | refine w_boxA I (by rfl) ?_ | refine w_box1 I (by (conv => lhs; whnf) <;> rfl) (by rfl) ?_); clear I; intro g w I) | ((with_reducible refine galloc ?_); refine w_alloc I ?_; clear I; intro g w I) | ((with_reducible refine gload ?_); first | refine w_loadB I (by rfl) (by first | (with_reducible repeat (first | exact .here | apply At.there)); done | repeat (first | exact .here | apply At.there)) (by rfl) ?_ | refine w_loadBR I (by rfl) (by first | (with_reducible repeat (first | exact .here | apply At.there)); done | repeat (first | exact .here | apply At.there)) (by rfl) ?_ | refine w_load0 I (by rfl) (by assumption) ?_) | ((with_reducible refine gstore ?_); (first | refine w_storeB I (by rfl) (by (conv => lhs; whnf) <;> rfl) (by first | (with_reducible repeat (first | exact .here | apply Upd.there)); done | repeat (first | exact .here | apply Upd.there)) (by rfl) (by rfl) (by simp only [List.set_cons_zero, List.set_cons_succ] <;> rfl) ?_ | refine w_storeBR I (by rfl) (by rfl) (by first | (with_reducible repeat (first | exact .here | apply Upd.there)); done | repeat (first | exact .here | apply Upd.there)) (by rfl) (by rfl) (by rfl) ?_); clear I; intro w I)) | (go_at_call 54; go_must (refine (HE.out _ I.fr).mono ?_; rintro _ w1 ⟨A, c, rfl, hA, hc, S⟩; replace I := I.then1 S; clear S; obtain ⟨g, rfl⟩ := hA HN.out; have hcl := (I.own .here).cell encS_len t.length (by simp) 0 (.int .i64 y.zone) (by simp [encS]); rw [Nat.add_zero] at hcl)))
          all_goals try omega
          refine ret_2 rfl (by first | (exact ResV.t _ (by rfl)) | (exact ResV.row I (by rfl) (by first | (with_reducible repeat (first | exact .here | apply At.there)); done | repeat (first | exact .here | apply At.there)) (by rfl)) | (exact ResV.one I (by rfl) (by first | (with_reducible repeat (first | exact .here | apply At.there)); done | repeat (first | exact .here | apply At.there)))) (by first | (exact ResV.t _ (by rfl)) | (exact ResV.row I (by rfl) (by first | (with_reducible repeat (first | exact .here | apply At.there)); done | repeat (first | exact .here | apply At.there)) (by rfl)) | (exact ResV.one I (by rfl) (by first | (with_reducible repeat (first | exact .here | apply At.there)); done | repeat (first | exact .here | apply At.there)))) rfl ⟨_, _, rfl, rfl, I.fr, fun out hh => ?_⟩
          obtain rfl : t ++ [{ y with to_ := -1 }] = out := by simpa using hh
          exact I
        · have hb : (y.zone == z) = false := by simpa using he
          rw [if_neg he]
          clear he
          go_enter Try.func12, Try.ntmps12
          go_wp2_with (first | (first | ((with_reducible refine gguard ?_); (first | refine w_guardT (by rfl) (fun hb => ?_) (fun hb => ?_) | refine w_guardF (by rfl) (fun hb => ?_) (fun hb => ?_)) <;> first | (cases hb; done) | cases hb | ((try rw [hb]) <;> (try simp at hb) <;> go_prune <;> (try (with_reducible replace hb := eqPair hb)))) | (((with_reducible refine gbox ?_); first | refine w_boxA I (by rfl) ?_ | refine w_box1 I (by (conv => lhs; whnf) <;> rfl) (by rfl) ?_); clear I; intro g w I) | ((with_reducible refine galloc ?_); refine w_alloc I ?_; clear I; intro g w I) | ((with_reducible refine gload ?_); first | refine w_loadB I (by rfl) (by first | (with_reducible repeat (first | exact .here | apply At.there)); done | repeat (first | exact .here | apply At.there)) (by rfl) ?_ | refine w_loadBR I (by rfl) (by first | (with_reducible repeat (first | exact .here | apply At.there)); done | repeat (first | exact .here | apply At.there)) (by rfl) ?_ | refine w_load0 I (by rfl) (by assumption) ?_) | ((with_reducible refine gstore ?_); (first | refine w_storeB I (by rfl) (by (conv => lhs; whnf) <;> rfl) (by first | (with_reducible repeat (first | exact .here | apply Upd.there)); done | repeat (first | exact .here | apply Upd.there)) (by rfl) (by rfl) (by simp only [List.set_cons_zero, List.set_cons_succ] <;> rfl) ?_ | refine w_storeBR I (by rfl) (by rfl) (by first | (with_reducible repeat (first | exact .here | apply Upd.there)); done | repeat (first | exact .here | apply Upd.there)) (by rfl) (by rfl) (by rfl) ?_); clear I; intro w I)) | (((with_reducible refine gbsr ?_); refine w_bsr (enc := encS) [⟨z, now, -1⟩] encS_len I (by rfl) (by rfl) (by decide) (by decide) (by decide) ?_); clear I; intro g w I) | ((with_reducible refine gappend ?_); refine w_append encS_len encS_one (by decide) I (by rfl) (by first | (with_reducible repeat (first | exact .here | apply At.there)); done | repeat (first | exact .here | apply At.there)) (by rfl) (l2 := [⟨z, now, -1⟩]) (I.slv .here encS_len) (by rw [HL.out]; first | omega | (simp <;> omega)) (by rw [HL.out]; unfold maxLen; first | omega | (simp <;> omega)) ?_; clear I; intro A m c w I) | (go_at_call 54; go_must (refine (HE.out _ I.fr).mono ?_; rintro _ w1 ⟨A, c, rfl, hA, hc, S⟩; replace I := I.then1 S; clear S; obtain ⟨g, rfl⟩ := hA HN.out; have hcl := (I.own .here).cell encS_len t.length (by simp) 0 (.int .i64 y.zone) (by simp [encS]); rw [Nat.add_zero] at hcl)))
          all_goals try omega
          refine ret_2 rfl (by first | (exact ResV.t _ (by rfl)) | (exact ResV.row I (by rfl) (by first | (with_reducible repeat (first | exact .here | apply At.there)); done | repeat (first | exact .here | apply At.there)) (by rfl)) | (exact ResV.one I (by rfl) (by first | (with_reducible repeat (first | exact .here | apply At.there)); done | repeat (first | exact .here | apply At.there)))) (by first | (exact ResV.t _ (by rfl)) | (exact ResV.row I (by rfl) (by first | (with_reducible repeat (first | exact .here | apply At.there)); done | repeat (first | exact .here | apply At.there)) (by rfl)) | (exact ResV.one I (by rfl) (by first | (with_reducible repeat (first | exact .here | apply At.there)); done | repeat (first | exact .here | apply At.there)))) rfl ⟨_, _, rfl, rfl, I.fr, fun out hh => ?_⟩
          obtain rfl : t ++ [y] ++ [⟨z, now, -1⟩] = out := by simpa using hh
          exact I.pick .here
set_option maxRecDepth 100000 in
theorem stays_Leave (v : Value) (l : List Stay) (now : Int) (w : World) (h : Stays w v l) (hl : l.length ≤ 1000000) :
    Calls Try.prog 13 #[v, .int .i64 now] w fun e w' => ∃ v' en, e = .returned (.tuple #[v', .int .i64 en]) ∧ en = Sty.code (Sty.leave l now) ∧ Fr w w' ∧ ∀ out, Sty.leave l now = some out → St w w' [OwnS 33 3 encS v' out] := by
  have HO := Lib.hid (fun wx (hf : Fr w wx) => stays_open v l wx (h.frF hf))
  have I := St.refl w
  unfold Sty.leave
  cases hq : Sty.ended l now with
  | none =>
    have HE := Lib.hid (fun wx (hf : Fr w wx) => stays_ended_no v l now wx (h.frF hf) hl hq)
    clear hq
    dsimp only
    go_enter Try.func13, Try.ntmps13
    go_wp2_with (first | (first | ((with_reducible refine gguard ?_); (first | refine w_guardT (by rfl) (fun hb => ?_) (fun hb => ?_) | refine w_guardF (by rfl) (fun hb => ?_) (fun hb => ?_)) <;> first | (cases hb; done) | cases hb | ((try rw [hb]) <;> (try simp at hb) <;> go_prune <;> (try (with_reducible replace hb := eqPair hb)))) | (((with_reducible refine gbox ?_); first | refine w_boxA I (by rfl) ?_ | refine w_box1 I (by (conv => lhs; whnf) <;> rfl) (by rfl) ?_); clear I; intro g w I) | ((with_reducible refine galloc ?_); refine w_alloc I ?_; clear I; intro g w I) | ((with_reducible refine gload ?_); first | refine w_loadB I (by rfl) (by first | (with_reducible repeat (first | exact .here | apply At.there)); done | repeat (first | exact .here | apply At.there)) (by rfl) ?_ | refine w_loadBR I (by rfl) (by first | (with_reducible repeat (first | exact .here | apply At.there)); done | repeat (first | exact .here | apply At.there)) (by rfl) ?_ | refine w_load0 I (by rfl) (by assumption) ?_) | ((with_reducible refine gstore ?_); (first | refine w_storeB I (by rfl) (by (conv => lhs; whnf) <;> rfl) (by first | (with_reducible repeat (first | exact .here | apply Upd.there)); done | repeat (first | exact .here | apply Upd.there)) (by rfl) (by rfl) (by simp only [List.set_cons_zero, List.set_cons_succ] <;> rfl) ?_ | refine w_storeBR I (by rfl) (by rfl) (by first | (with_reducible repeat (first | exact .here | apply Upd.there)); done | repeat (first | exact .here | apply Upd.there)) (by rfl) (by rfl) (by rfl) ?_); clear I; intro w I)) | (go_at_call 54; go_must (refine (HE.out _ I.fr).mono ?_; rintro _ w1 ⟨ve, rfl, S⟩; replace I := I.then0 S; clear S)))
    exact ret_2 rfl (by first | (exact ResV.t _ (by rfl)) | (exact ResV.row I (by rfl) (by first | (with_reducible repeat (first | exact .here | apply At.there)); done | repeat (first | exact .here | apply At.there)) (by rfl)) | (exact ResV.one I (by rfl) (by first | (with_reducible repeat (first | exact .here | apply At.there)); done | repeat (first | exact .here | apply At.there)))) (by first | (exact ResV.t _ (by rfl)) | (exact ResV.row I (by rfl) (by first | (with_reducible repeat (first | exact .here | apply At.there)); done | repeat (first | exact .here | apply At.there)) (by rfl)) | (exact ResV.one I (by rfl) (by first | (with_reducible repeat (first | exact .here | apply At.there)); done | repeat (first | exact .here | apply At.there)))) rfl ⟨_, _, rfl, rfl, I.fr, fun _ hh => (by cases hh)⟩
  | some out =>
    have HE := Lib.hid (fun wx (hf : Fr w wx) => stays_ended_ok v l out now wx (h.frF hf) hl hq)
    clear hq
    dsimp only
    cases ho : Sty.lastOpen l with
    | false =>
      have HF := Lib.hid ho
      clear ho
      rw [if_neg (by simp)]
      go_enter Try.func13, Try.ntmps13
      go_wp2_with (first | (first | ((with_reducible refine gguard ?_); (first | refine w_guardT (by rfl) (fun hb => ?_) (fun hb => ?_) | refine w_guardF (by rfl) (fun hb => ?_) (fun hb => ?_)) <;> first | (cases hb; done) | cases hb | ((try rw [hb]) <;> (try simp at hb) <;> go_prune <;> (try (with_reducible replace hb := eqPair hb)))) | (((with_reducible refine gbox ?_); first | refine w_boxA I (by rfl) ?_ | refine w_box1 I (by (conv => lhs; whnf) <;> rfl) (by rfl) ?_); clear I; intro g w I) | ((with_reducible refine galloc ?_); refine w_alloc I ?_; clear I; intro g w I) | ((with_reducible refine gload ?_); first | refine w_loadB I (by rfl) (by first | (with_reducible repeat (first | exact .here | apply At.there)); done | repeat (first | exact .here | apply At.there)) (by rfl) ?_ | refine w_loadBR I (by rfl) (by first | (with_reducible repeat (first | exact .here | apply At.there)); done | repeat (first | exact .here | apply At.there)) (by rfl) ?_ | refine w_load0 I (by rfl) (by assumption) ?_) | ((with_reducible refine gstore ?_); (first | refine w_storeB I (by rfl) (by (conv => lhs; whnf) <;> rfl) (by first | (with_reducible repeat (first | exact .here | apply Upd.there)); done | repeat (first | exact .here | apply Upd.there)) (by rfl) (by rfl) (by simp only [List.set_cons_zero, List.set_cons_succ] <;> rfl) ?_ | refine w_storeBR I (by rfl) (by rfl) (by first | (with_reducible repeat (first | exact .here | apply Upd.there)); done | repeat (first | exact .here | apply Upd.there)) (by rfl) (by rfl) (by rfl) ?_); clear I; intro w I)) | (go_at_call 54; go_must (refine (HE.out _ I.fr).mono ?_; rintro _ w1 ⟨A, c, rfl, _, _, S⟩; replace I := I.then1 S; clear S)) | (go_at_call 55; go_must (refine (HO.out _ I.fr).mono ?_; rintro _ w1 ⟨rfl, hf⟩; rw [HF.out]; replace I := I.still hf; clear hf)))
      exact ret_2 rfl (by first | (exact ResV.t _ (by rfl)) | (exact ResV.row I (by rfl) (by first | (with_reducible repeat (first | exact .here | apply At.there)); done | repeat (first | exact .here | apply At.there)) (by rfl)) | (exact ResV.one I (by rfl) (by first | (with_reducible repeat (first | exact .here | apply At.there)); done | repeat (first | exact .here | apply At.there)))) (by first | (exact ResV.t _ (by rfl)) | (exact ResV.row I (by rfl) (by first | (with_reducible repeat (first | exact .here | apply At.there)); done | repeat (first | exact .here | apply At.there)) (by rfl)) | (exact ResV.one I (by rfl) (by first | (with_reducible repeat (first | exact .here | apply At.there)); done | repeat (first | exact .here | apply At.there)))) rfl ⟨_, _, rfl, rfl, I.fr, fun _ hh => (by cases hh)⟩
    | true =>
      have HF := Lib.hid ho
      clear ho
      rw [if_pos rfl]
      go_enter Try.func13, Try.ntmps13
      go_wp2_with (first | (first | ((with_reducible refine gguard ?_); (first | refine w_guardT (by rfl) (fun hb => ?_) (fun hb => ?_) | refine w_guardF (by rfl) (fun hb => ?_) (fun hb => ?_)) <;> first | (cases hb; done) | cases hb | ((try rw [hb]) <;> (try simp at hb) <;> go_prune <;> (try (with_reducible replace hb := eqPair hb)))) | (((with_reducible refine gbox ?_); first | refine w_boxA I (by rfl) ?_ | refine w_box1 I (by (conv => lhs; whnf) <;> rfl) (by rfl) ?_); clear I; intro g w I) | ((with_reducible refine galloc ?_); refine w_alloc I ?_; clear I; intro g w I) | ((with_reducible refine gload ?_); first | refine w_loadB I (by rfl) (by first | (with_reducible repeat (first | exact .here | apply At.there)); done | repeat (first | exact .here | apply At.there)) (by rfl) ?_ | refine w_loadBR I (by rfl) (by first | (with_reducible repeat (first | exact .here | apply At.there)); done | repeat (first | exact .here | apply At.there)) (by rfl) ?_ | refine w_load0 I (by rfl) (by assumption) ?_) | ((with_reducible refine gstore ?_); (first | refine w_storeB I (by rfl) (by (conv => lhs; whnf) <;> rfl) (by first | (with_reducible repeat (first | exact .here | apply Upd.there)); done | repeat (first | exact .here | apply Upd.there)) (by rfl) (by rfl) (by simp only [List.set_cons_zero, List.set_cons_succ] <;> rfl) ?_ | refine w_storeBR I (by rfl) (by rfl) (by first | (with_reducible repeat (first | exact .here | apply Upd.there)); done | repeat (first | exact .here | apply Upd.there)) (by rfl) (by rfl) (by rfl) ?_); clear I; intro w I)) | (go_at_call 54; go_must (refine (HE.out _ I.fr).mono ?_; rintro _ w1 ⟨A, c, rfl, _, _, S⟩; replace I := I.then1 S; clear S)) | (go_at_call 55; go_must (refine (HO.out _ I.fr).mono ?_; rintro _ w1 ⟨rfl, hf⟩; rw [HF.out]; replace I := I.still hf; clear hf)))
      refine ret_2 rfl (by first | (exact ResV.t _ (by rfl)) | (exact ResV.row I (by rfl) (by first | (with_reducible repeat (first | exact .here | apply At.there)); done | repeat (first | exact .here | apply At.there)) (by rfl)) | (exact ResV.one I (by rfl) (by first | (with_reducible repeat (first | exact .here | apply At.there)); done | repeat (first | exact .here | apply At.there)))) (by first | (exact ResV.t _ (by rfl)) | (exact ResV.row I (by rfl) (by first | (with_reducible repeat (first | exact .here | apply At.there)); done | repeat (first | exact .here | apply At.there)) (by rfl)) | (exact ResV.one I (by rfl) (by first | (with_reducible repeat (first | exact .here | apply At.there)); done | repeat (first | exact .here | apply At.there)))) rfl ⟨_, _, rfl, rfl, I.fr, fun o2 hh => ?_⟩
      obtain rfl : out = o2 := by simpa using hh
      exact I
end Go.Proofs.Ytpnpgeilhafepaa
