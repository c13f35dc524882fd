/- StaysSomewhere: of any steps, at most 60, from nowhere on: stays may be behind each; at any minute ahead they were where they were, from then on in the zone, or nowhere; up to a minute there are as many minutes as there were with a zone. -/
import Derived.Test.YtpnpgeilhafepaaStyA
import Derived.Test.YtpnpgeilhafepaaStyQ
import Derived.Test.YtpnpgeilhafepaaFrame
import Derived.Test.YtpnpgeilhafepaaOpen
namespace Go.Proofs.Ytpnpgeilhafepaa.staysSomewhere
open Go.ChangeShapes Go.WideShapes Go.ChangeAt Go.RowKit Go.Hf
open Go.ChangeMaps (open_string shut_string)

structure Step where
  on : UInt8
  zone : UInt8
def encG (x : Step) : List Value := [.int .u8 (x.on.toNat : Int), .int .u8 (x.zone.toNat : Int)]
set_option maxRecDepth 100000 in
theorem opens_step : Opens Try.prog 27 (flat encG) := fun enc w fuel cs x h => by
  obtain ⟨hl, hf⟩ := field_opens Try.underlying27 h
  obtain ⟨k, hk⟩ := hf 0 _ rfl (opens_byte Try.underlying5)
  obtain ⟨a, ha⟩ := hf 1 _ rfl (opens_byte Try.underlying5)
  refine ⟨⟨k, a⟩, ?_⟩
  have e0 : Try.prog.cellsOf 27 = 2 := by kernel_rfl
  have e1 : Try.prog.cellsOf 5 = 1 := by kernel_rfl
  rw [e0] at hl
  match cs, hl with
  | [c0, c1], _ =>
    replace hk : ([c0, c1].drop 0).take (Try.prog.cellsOf 5) = encB k := hk
    replace ha : ([c0, c1].drop 1).take (Try.prog.cellsOf 5) = encB a := ha
    rw [e1] at hk ha
    simp only [List.drop, List.take] at hk ha
    simp only [encB, List.cons.injEq, and_true] at hk ha
    subst hk ha
    rfl
theorem opens_steps : Opens Try.prog 22 (slR 2 (flat encG)) :=
  opens_slice Try.underlying22 (by kernel_rfl) (by omega) opens_step

theorem stays_Enter_at (v : Value) (l : List Stay) (z now : Int) (out : List Stay) (w : World) (h : Stays w v l) (hl : l.length ≤ 1000000) (he : Sty.enter l z now = some out) :
    Calls Try.prog 12 #[v, .int .i64 z, .int .i64 now] w fun e w' => ∃ A c, e = .returned (.tuple #[.slice A out.length c, .int .i64 0]) ∧ St w w' [OwnS 33 3 encS (.slice A out.length c) out] := by
  refine (stays_Enter_ok v l z now out w h hl he).mono ?_
  rintro _ w1 ⟨v', rfl, S⟩
  obtain ⟨A, c, rfl, _⟩ := (S.own .here).reads encS_len
  exact ⟨A, c, rfl, S⟩
theorem stays_Leave_at (v : Value) (l : List Stay) (now : Int) (out : List Stay) (w : World) (h : Stays w v l) (hl : l.length ≤ 1000000) (he : Sty.leave l now = some out) :
    Calls Try.prog 13 #[v, .int .i64 now] w fun e w' => ∃ A c, e = .returned (.tuple #[.slice A out.length c, .int .i64 0]) ∧ St w w' [OwnS 33 3 encS (.slice A out.length c) out] := by
  refine (stays_Leave_ok v l now out w h hl he).mono ?_
  rintro _ w1 ⟨v', rfl, S⟩
  obtain ⟨A, c, rfl, _⟩ := (S.own .here).reads encS_len
  exact ⟨A, c, rfl, S⟩
theorem Sty.enter_of {s : List Stay} {z now : Int} {r : Option (List Stay)} (h : Sty.step s z now = r) (hz : z ≠ 0) : Sty.enter s z now = r := by
  unfold Sty.step at h; rwa [if_neg hz] at h
theorem Sty.leave_of {s : List Stay} {now : Int} {r : Option (List Stay)} (h : Sty.step s 0 now = r) : Sty.leave s now = r := by
  unfold Sty.step at h; rwa [if_pos rfl] at h

set_option maxRecDepth 100000 in
set_option maxHeartbeats 8000000 in
theorem law (v : Value) (l : List Step) (mn : Nat) (w0 : World) (h : SlV 2 (flat encG) w0 v l) (hmn : mn < 65536) :
    Calls Try.prog 3 #[v, .int .u16 mn] w0 fun en w' => en = .returned (.bool true) ∧ Fr w0 w' := by
  have hm := h.len_le
  unfold maxLen at hm
  obtain ⟨A, _, c, rfl, rfl, hl, hcm, hA, hs⟩ := h
  have HS := Lib.hid hs
  clear hcm hA hs
  have I := St.refl w0
  by_cases hl3 : 60 < l.length
  · go_enter Try.func3, Try.ntmps3
    try dsimp only [List.append]
    go_wp2_with (go_at_call 11; go_must (refine (law09_alive _).mono ?_; rintro _ w1 ⟨rfl, hb⟩; replace I := I.still hb; clear hb))
    all_goals try omega
    go_ret
    exact ⟨rfl, I.fr⟩
  · go_enter Try.func3, Try.ntmps3
    try dsimp only [List.append]
    go_wp2_with fail
    all_goals try omega
    go_loopw [5, 6, 7, 8] (fun sv nv iv kv wr => ∃ (k : Nat) (s : List Stay) (nw inn : Int) (A1 : Option Addr) (c1 : Nat), sv = .slice A1 s.length c1 ∧ nv = .int .i64 nw ∧ iv = .int .i64 inn ∧ kv = .int .i64 k ∧ k ≤ l.length ∧ Sty.Good s nw inn ∧ s.length ≤ k ∧ 0 ≤ nw ∧ nw ≤ 255 * k ∧ St w0 wr [OwnS 33 3 encS (.slice A1 s.length c1) s]) (fun _ _ _ kv _ => l.length - (intOf kv).toNat)
    case atStart => exact ⟨0, [], 0, 0, none, 0, rfl, rfl, rfl, rfl, by omega, .inl ⟨rfl, rfl⟩, by simp, by omega, by omega, I.nilOwn _ _ _⟩
    case round =>
      clear I
      obtain ⟨k, s, nw, inn, A, c1, rfl, rfl, rfl, rfl, hk, hG, hsk, hn0, hn1, I⟩ := hrel
      rename World => wr
      by_cases hlt : k < l.length
      · obtain ⟨b, o, rfl, cs, _, rfl, hcs⟩ := HS.out.at_ k hlt
        have hc0 := I.fr.cell (hcs 0 _ rfl)
        have hc1 := I.fr.cell (hcs 1 _ rfl)
        rw [Nat.add_zero] at hc0
        clear hcs
        generalize l[k] = x at *
        have hx1 := x.on.toNat_lt
        have hx2 := x.zone.toNat_lt
        have hkl : (k : Int) < (l.length : Int) := by omega
        obtain ⟨z, hz⟩ : ∃ z : Int, (x.zone.toNat : Int) % 4 = z := ⟨_, rfl⟩
        have hz0 : 0 ≤ z := by omega
        have hz4 : z < 4 := by omega
        have qa := IntWalk.i64_in (nw + (x.on.toNat : Int)) (by omega)
        obtain ⟨nw2, hnw2⟩ : ∃ q : Int, nw + (x.on.toNat : Int) = q := ⟨_, rfl⟩
        have hn2 : nw ≤ nw2 := by omega
        have hn3 : nw2 ≤ 255 * (k + 1) := by omega
        have HQ := Lib.hid (Sty.step_spec s nw nw2 inn z hG hn2 (by omega) hz0)
        have HG := Lib.hid hG
        clear hG
        rw [hnw2] at qa
        have qk := IntWalk.i64_in ((k : Int) + 1) (by omega)
        have hzv : ¬ (z = 0) ∨ z = 0 := by omega
        by_cases hzz : z = 0
        · subst hzz
          by_cases hi : 0 < inn
          · have hid : decide (0 < inn) = true := decide_eq_true hi
            obtain ⟨next, hst, HP⟩ := HQ.out.resolve_left (fun q => q.1 (.inr ⟨rfl, hi⟩)) |>.2
            have HP := Lib.hid HP
            have HRi := Lib.hid HP.out.good.right
            have HSt := Lib.hid (Sty.leave_of hst)
            clear hst HQ
            by_cases hm : (mn : Int) < nw2
            · obtain ⟨qs, hqs⟩ : ∃ q : Int, Sty.zone s mn = q := ⟨_, rfl⟩
              have HZn := Lib.hid ((HP.out.ahead mn hm).trans hqs)
              have HZs := Lib.hid hqs
              clear hqs
              go_wp2_with (first | (first | ((with_reducible refine gguard ?_); (first | refine w_guardT (by rfl) (fun hb => ?_) (fun hb => ?_) | refine w_guardF (by rfl) (fun hb => ?_) (fun hb => ?_)) <;> first | (cases hb; done) | cases hb | ((try rw [hb]) <;> (try simp at hb) <;> go_prune <;> (try (with_reducible replace hb := eqPair hb)))) | (((with_reducible refine gbox ?_); first | refine w_boxA I (by rfl) ?_ | refine w_box1 I (by (conv => lhs; whnf) <;> rfl) (by rfl) ?_); clear I; intro g w I) | ((with_reducible refine galloc ?_); refine w_alloc I ?_; clear I; intro g w I) | ((with_reducible refine gload ?_); first | refine w_loadB I (by rfl) (by first | (with_reducible repeat (first | exact .here | apply At.there)); done | repeat (first | exact .here | apply At.there)) (by rfl) ?_ | refine w_loadBR I (by rfl) (by first | (with_reducible repeat (first | exact .here | apply At.there)); done | repeat (first | exact .here | apply At.there)) (by rfl) ?_ | refine w_load0 I (by rfl) (by assumption) ?_) | ((with_reducible refine gstore ?_); (first | refine w_storeB I (by rfl) (by (conv => lhs; whnf) <;> rfl) (by first | (with_reducible repeat (first | exact .here | apply Upd.there)); done | repeat (first | exact .here | apply Upd.there)) (by rfl) (by rfl) (by simp only [List.set_cons_zero, List.set_cons_succ] <;> rfl) ?_ | refine w_storeBR I (by rfl) (by rfl) (by first | (with_reducible repeat (first | exact .here | apply Upd.there)); done | repeat (first | exact .here | apply Upd.there)) (by rfl) (by rfl) (by rfl) ?_); clear I; intro w I)) | (go_at_call 12; go_must (refine (stays_Enter_no _ s 0 nw2 _ (I.slv .here encS_len) (by omega) (Sty.enter_zero s nw2)).mono ?_; rintro _ w1 ⟨v2, rfl, S⟩; replace I := I.then0 S; clear S)) | (go_at_call 13; go_must (refine (stays_Leave_at _ s nw2 next _ (I.slv .here encS_len) (by omega) HSt.out).mono ?_; rintro _ w1 ⟨A2, c2, rfl, S⟩; replace I := I.then1 S; clear S)) | (go_at_call 14; ((with_reducible refine (stays_Zone_is _ next mn qs _ (I.slv .here encS_len) HZn.out).mono ?_); rintro _ w1 ⟨rfl, S⟩; replace I := I.still S; clear S)) | (go_at_call 14; ((with_reducible refine (stays_Zone_is _ s mn qs _ (I.slv (.there .here) encS_len) HZs.out).mono ?_); rintro _ w1 ⟨rfl, S⟩; replace I := I.still S; clear S)) | (go_at_call 15; go_must (refine (stays_Right _ next _ (I.slv .here encS_len)).mono ?_; rintro _ w1 ⟨rfl, S⟩; rw [HRi.out]; replace I := I.still S; clear S)))
              all_goals try omega
              go_roundw
              case rel => exact ⟨k + 1, next, nw2, 0, A2, c2, rfl, rfl, rfl, by go_num, by omega, HP.out.good, by have := HP.out.len; first | omega | (rw [List.length_nil] at this; omega) | (rw [hlen] at this; omega), by omega, by omega, I.pick (by repeat (first | exact .here | apply At.there))⟩
              case measure => simp [intOf]; omega
            · have HZn := Lib.hid (HP.out.from_ mn (by omega))
              obtain ⟨qs, hqs⟩ : ∃ q : Int, Sty.zone s mn = q := ⟨_, rfl⟩
              have HZs := Lib.hid hqs
              clear hqs
              go_wp2_with (first | (first | ((with_reducible refine gguard ?_); (first | refine w_guardT (by rfl) (fun hb => ?_) (fun hb => ?_) | refine w_guardF (by rfl) (fun hb => ?_) (fun hb => ?_)) <;> first | (cases hb; done) | cases hb | ((try rw [hb]) <;> (try simp at hb) <;> go_prune <;> (try (with_reducible replace hb := eqPair hb)))) | (((with_reducible refine gbox ?_); first | refine w_boxA I (by rfl) ?_ | refine w_box1 I (by (conv => lhs; whnf) <;> rfl) (by rfl) ?_); clear I; intro g w I) | ((with_reducible refine galloc ?_); refine w_alloc I ?_; clear I; intro g w I) | ((with_reducible refine gload ?_); first | refine w_loadB I (by rfl) (by first | (with_reducible repeat (first | exact .here | apply At.there)); done | repeat (first | exact .here | apply At.there)) (by rfl) ?_ | refine w_loadBR I (by rfl) (by first | (with_reducible repeat (first | exact .here | apply At.there)); done | repeat (first | exact .here | apply At.there)) (by rfl) ?_ | refine w_load0 I (by rfl) (by assumption) ?_) | ((with_reducible refine gstore ?_); (first | refine w_storeB I (by rfl) (by (conv => lhs; whnf) <;> rfl) (by first | (with_reducible repeat (first | exact .here | apply Upd.there)); done | repeat (first | exact .here | apply Upd.there)) (by rfl) (by rfl) (by simp only [List.set_cons_zero, List.set_cons_succ] <;> rfl) ?_ | refine w_storeBR I (by rfl) (by rfl) (by first | (with_reducible repeat (first | exact .here | apply Upd.there)); done | repeat (first | exact .here | apply Upd.there)) (by rfl) (by rfl) (by rfl) ?_); clear I; intro w I)) | (go_at_call 12; go_must (refine (stays_Enter_no _ s 0 nw2 _ (I.slv .here encS_len) (by omega) (Sty.enter_zero s nw2)).mono ?_; rintro _ w1 ⟨v2, rfl, S⟩; replace I := I.then0 S; clear S)) | (go_at_call 13; go_must (refine (stays_Leave_at _ s nw2 next _ (I.slv .here encS_len) (by omega) HSt.out).mono ?_; rintro _ w1 ⟨A2, c2, rfl, S⟩; replace I := I.then1 S; clear S)) | (go_at_call 14; ((with_reducible refine (stays_Zone_is _ next mn 0 _ (I.slv .here encS_len) HZn.out).mono ?_); rintro _ w1 ⟨rfl, S⟩; replace I := I.still S; clear S)) | (go_at_call 14; ((with_reducible refine (stays_Zone_is _ s mn qs _ (I.slv (.there .here) encS_len) HZs.out).mono ?_); rintro _ w1 ⟨rfl, S⟩; replace I := I.still S; clear S)) | (go_at_call 15; go_must (refine (stays_Right _ next _ (I.slv .here encS_len)).mono ?_; rintro _ w1 ⟨rfl, S⟩; rw [HRi.out]; replace I := I.still S; clear S)))
              all_goals try omega
              go_roundw
              case rel => exact ⟨k + 1, next, nw2, 0, A2, c2, rfl, rfl, rfl, by go_num, by omega, HP.out.good, by have := HP.out.len; first | omega | (rw [List.length_nil] at this; omega) | (rw [hlen] at this; omega), by omega, by omega, I.pick (by repeat (first | exact .here | apply At.there))⟩
              case measure => simp [intOf]; omega
          · have hid : decide (0 < inn) = false := decide_eq_false hi
            have HSt := Lib.hid (Sty.leave_of (HQ.out.resolve_right (fun q => (show ¬ Sty.May s inn 0 nw2 by rintro (⟨h1, _⟩ | ⟨_, h1⟩) <;> omega) q.1)).2)
            clear HQ
            go_wp2_with (first | (first | ((with_reducible refine gguard ?_); (first | refine w_guardT (by rfl) (fun hb => ?_) (fun hb => ?_) | refine w_guardF (by rfl) (fun hb => ?_) (fun hb => ?_)) <;> first | (cases hb; done) | cases hb | ((try rw [hb]) <;> (try simp at hb) <;> go_prune <;> (try (with_reducible replace hb := eqPair hb)))) | (((with_reducible refine gbox ?_); first | refine w_boxA I (by rfl) ?_ | refine w_box1 I (by (conv => lhs; whnf) <;> rfl) (by rfl) ?_); clear I; intro g w I) | ((with_reducible refine galloc ?_); refine w_alloc I ?_; clear I; intro g w I) | ((with_reducible refine gload ?_); first | refine w_loadB I (by rfl) (by first | (with_reducible repeat (first | exact .here | apply At.there)); done | repeat (first | exact .here | apply At.there)) (by rfl) ?_ | refine w_loadBR I (by rfl) (by first | (with_reducible repeat (first | exact .here | apply At.there)); done | repeat (first | exact .here | apply At.there)) (by rfl) ?_ | refine w_load0 I (by rfl) (by assumption) ?_) | ((with_reducible refine gstore ?_); (first | refine w_storeB I (by rfl) (by (conv => lhs; whnf) <;> rfl) (by first | (with_reducible repeat (first | exact .here | apply Upd.there)); done | repeat (first | exact .here | apply Upd.there)) (by rfl) (by rfl) (by simp only [List.set_cons_zero, List.set_cons_succ] <;> rfl) ?_ | refine w_storeBR I (by rfl) (by rfl) (by first | (with_reducible repeat (first | exact .here | apply Upd.there)); done | repeat (first | exact .here | apply Upd.there)) (by rfl) (by rfl) (by rfl) ?_); clear I; intro w I)) | (go_at_call 12; go_must (refine (stays_Enter_no _ s 0 nw2 _ (I.slv .here encS_len) (by omega) (Sty.enter_zero s nw2)).mono ?_; rintro _ w1 ⟨v2, rfl, S⟩; replace I := I.then0 S; clear S)) | (go_at_call 13; go_must (refine (stays_Leave_no _ s nw2 _ (I.slv .here encS_len) (by omega) HSt.out).mono ?_; rintro _ w1 ⟨v3, rfl, S⟩; replace I := I.then0 S; clear S)))
            all_goals try omega
            go_roundw
            case rel => exact ⟨k + 1, s, nw2, inn, A, c1, rfl, rfl, rfl, by go_num, by omega, HG.out.mono (by omega), by omega, by omega, by omega, I⟩
            case measure => simp [intOf]; omega
        · have hze : (z == 0) = false := by simpa using hzz
          have hzd : decide (0 < z) = true := decide_eq_true (by omega)
          have HQ1 : Hid (∀ r, Sty.step s z nw2 = r → Sty.enter s z nw2 = r) := Lib.hid (fun r h => Sty.enter_of h hzz)
          clear hzv
          by_cases hi : 0 < inn
          · have hid : decide (0 < inn) = true := decide_eq_true hi
            obtain ⟨next, hst, HP⟩ := HQ.out.resolve_left (fun q => q.1 (.inl ⟨by omega, .inl hi⟩)) |>.2
            have HP := Lib.hid HP
            have HRi := Lib.hid HP.out.good.right
            have HSt := Lib.hid (HQ1.out _ hst)
            clear hst HQ
            by_cases hm : (mn : Int) < nw2
            · obtain ⟨qs, hqs⟩ : ∃ q : Int, Sty.zone s mn = q := ⟨_, rfl⟩
              have HZn := Lib.hid ((HP.out.ahead mn hm).trans hqs)
              have HZs := Lib.hid hqs
              clear hqs
              go_wp2_with (first | (first | ((with_reducible refine gguard ?_); (first | refine w_guardT (by rfl) (fun hb => ?_) (fun hb => ?_) | refine w_guardF (by rfl) (fun hb => ?_) (fun hb => ?_)) <;> first | (cases hb; done) | cases hb | ((try rw [hb]) <;> (try simp at hb) <;> go_prune <;> (try (with_reducible replace hb := eqPair hb)))) | (((with_reducible refine gbox ?_); first | refine w_boxA I (by rfl) ?_ | refine w_box1 I (by (conv => lhs; whnf) <;> rfl) (by rfl) ?_); clear I; intro g w I) | ((with_reducible refine galloc ?_); refine w_alloc I ?_; clear I; intro g w I) | ((with_reducible refine gload ?_); first | refine w_loadB I (by rfl) (by first | (with_reducible repeat (first | exact .here | apply At.there)); done | repeat (first | exact .here | apply At.there)) (by rfl) ?_ | refine w_loadBR I (by rfl) (by first | (with_reducible repeat (first | exact .here | apply At.there)); done | repeat (first | exact .here | apply At.there)) (by rfl) ?_ | refine w_load0 I (by rfl) (by assumption) ?_) | ((with_reducible refine gstore ?_); (first | refine w_storeB I (by rfl) (by (conv => lhs; whnf) <;> rfl) (by first | (with_reducible repeat (first | exact .here | apply Upd.there)); done | repeat (first | exact .here | apply Upd.there)) (by rfl) (by rfl) (by simp only [List.set_cons_zero, List.set_cons_succ] <;> rfl) ?_ | refine w_storeBR I (by rfl) (by rfl) (by first | (with_reducible repeat (first | exact .here | apply Upd.there)); done | repeat (first | exact .here | apply Upd.there)) (by rfl) (by rfl) (by rfl) ?_); clear I; intro w I)) | (go_at_call 12; go_must (refine (stays_Enter_at _ s z nw2 next _ (I.slv .here encS_len) (by omega) HSt.out).mono ?_; rintro _ w1 ⟨A2, c2, rfl, S⟩; replace I := I.then1 S; clear S)) | (go_at_call 14; ((with_reducible refine (stays_Zone_is _ next mn qs _ (I.slv .here encS_len) HZn.out).mono ?_); rintro _ w1 ⟨rfl, S⟩; replace I := I.still S; clear S)) | (go_at_call 14; ((with_reducible refine (stays_Zone_is _ s mn qs _ (I.slv (.there .here) encS_len) HZs.out).mono ?_); rintro _ w1 ⟨rfl, S⟩; replace I := I.still S; clear S)) | (go_at_call 15; go_must (refine (stays_Right _ next _ (I.slv .here encS_len)).mono ?_; rintro _ w1 ⟨rfl, S⟩; rw [HRi.out]; replace I := I.still S; clear S)))
              all_goals try omega
              go_roundw
              case rel => exact ⟨k + 1, next, nw2, z, A2, c2, rfl, rfl, rfl, by go_num, by omega, HP.out.good, by have := HP.out.len; first | omega | (rw [List.length_nil] at this; omega) | (rw [hlen] at this; omega), by omega, by omega, I.pick (by repeat (first | exact .here | apply At.there))⟩
              case measure => simp [intOf]; omega
            · have HZn := Lib.hid (HP.out.from_ mn (by omega))
              obtain ⟨qs, hqs⟩ : ∃ q : Int, Sty.zone s mn = q := ⟨_, rfl⟩
              have HZs := Lib.hid hqs
              clear hqs
              go_wp2_with (first | (first | ((with_reducible refine gguard ?_); (first | refine w_guardT (by rfl) (fun hb => ?_) (fun hb => ?_) | refine w_guardF (by rfl) (fun hb => ?_) (fun hb => ?_)) <;> first | (cases hb; done) | cases hb | ((try rw [hb]) <;> (try simp at hb) <;> go_prune <;> (try (with_reducible replace hb := eqPair hb)))) | (((with_reducible refine gbox ?_); first | refine w_boxA I (by rfl) ?_ | refine w_box1 I (by (conv => lhs; whnf) <;> rfl) (by rfl) ?_); clear I; intro g w I) | ((with_reducible refine galloc ?_); refine w_alloc I ?_; clear I; intro g w I) | ((with_reducible refine gload ?_); first | refine w_loadB I (by rfl) (by first | (with_reducible repeat (first | exact .here | apply At.there)); done | repeat (first | exact .here | apply At.there)) (by rfl) ?_ | refine w_loadBR I (by rfl) (by first | (with_reducible repeat (first | exact .here | apply At.there)); done | repeat (first | exact .here | apply At.there)) (by rfl) ?_ | refine w_load0 I (by rfl) (by assumption) ?_) | ((with_reducible refine gstore ?_); (first | refine w_storeB I (by rfl) (by (conv => lhs; whnf) <;> rfl) (by first | (with_reducible repeat (first | exact .here | apply Upd.there)); done | repeat (first | exact .here | apply Upd.there)) (by rfl) (by rfl) (by simp only [List.set_cons_zero, List.set_cons_succ] <;> rfl) ?_ | refine w_storeBR I (by rfl) (by rfl) (by first | (with_reducible repeat (first | exact .here | apply Upd.there)); done | repeat (first | exact .here | apply Upd.there)) (by rfl) (by rfl) (by rfl) ?_); clear I; intro w I)) | (go_at_call 12; go_must (refine (stays_Enter_at _ s z nw2 next _ (I.slv .here encS_len) (by omega) HSt.out).mono ?_; rintro _ w1 ⟨A2, c2, rfl, S⟩; replace I := I.then1 S; clear S)) | (go_at_call 14; ((with_reducible refine (stays_Zone_is _ next mn z _ (I.slv .here encS_len) HZn.out).mono ?_); rintro _ w1 ⟨rfl, S⟩; replace I := I.still S; clear S)) | (go_at_call 14; ((with_reducible refine (stays_Zone_is _ s mn qs _ (I.slv (.there .here) encS_len) HZs.out).mono ?_); rintro _ w1 ⟨rfl, S⟩; replace I := I.still S; clear S)) | (go_at_call 15; go_must (refine (stays_Right _ next _ (I.slv .here encS_len)).mono ?_; rintro _ w1 ⟨rfl, S⟩; rw [HRi.out]; replace I := I.still S; clear S)))
              all_goals try omega
              go_roundw
              case rel => exact ⟨k + 1, next, nw2, z, A2, c2, rfl, rfl, rfl, by go_num, by omega, HP.out.good, by have := HP.out.len; first | omega | (rw [List.length_nil] at this; omega) | (rw [hlen] at this; omega), by omega, by omega, I.pick (by repeat (first | exact .here | apply At.there))⟩
              case measure => simp [intOf]; omega
          · have hid : decide (0 < inn) = false := decide_eq_false hi
            rcases List.eq_nil_or_concat s with rfl | ⟨t, y, rfl⟩
            · simp only [List.length_nil] at I hsk ⊢
              obtain ⟨next, hst, HP⟩ := HQ.out.resolve_left (fun q => q.1 (.inl ⟨by omega, .inr (.inl rfl)⟩)) |>.2
              have HP := Lib.hid HP
              have HRi := Lib.hid HP.out.good.right
              have HSt := Lib.hid (HQ1.out _ hst)
              clear hst HQ
              by_cases hm : (mn : Int) < nw2
              · obtain ⟨qs, hqs⟩ : ∃ q : Int, Sty.zone [] mn = q := ⟨_, rfl⟩
                have HZn := Lib.hid ((HP.out.ahead mn hm).trans hqs)
                have HZs := Lib.hid hqs
                clear hqs
                go_wp2_with (first | (first | ((with_reducible refine gguard ?_); (first | refine w_guardT (by rfl) (fun hb => ?_) (fun hb => ?_) | refine w_guardF (by rfl) (fun hb => ?_) (fun hb => ?_)) <;> first | (cases hb; done) | cases hb | ((try rw [hb]) <;> (try simp at hb) <;> go_prune <;> (try (with_reducible replace hb := eqPair hb)))) | (((with_reducible refine gbox ?_); first | refine w_boxA I (by rfl) ?_ | refine w_box1 I (by (conv => lhs; whnf) <;> rfl) (by rfl) ?_); clear I; intro g w I) | ((with_reducible refine galloc ?_); refine w_alloc I ?_; clear I; intro g w I) | ((with_reducible refine gload ?_); first | refine w_loadB I (by rfl) (by first | (with_reducible repeat (first | exact .here | apply At.there)); done | repeat (first | exact .here | apply At.there)) (by rfl) ?_ | refine w_loadBR I (by rfl) (by first | (with_reducible repeat (first | exact .here | apply At.there)); done | repeat (first | exact .here | apply At.there)) (by rfl) ?_ | refine w_load0 I (by rfl) (by assumption) ?_) | ((with_reducible refine gstore ?_); (first | refine w_storeB I (by rfl) (by (conv => lhs; whnf) <;> rfl) (by first | (with_reducible repeat (first | exact .here | apply Upd.there)); done | repeat (first | exact .here | apply Upd.there)) (by rfl) (by rfl) (by simp only [List.set_cons_zero, List.set_cons_succ] <;> rfl) ?_ | refine w_storeBR I (by rfl) (by rfl) (by first | (with_reducible repeat (first | exact .here | apply Upd.there)); done | repeat (first | exact .here | apply Upd.there)) (by rfl) (by rfl) (by rfl) ?_); clear I; intro w I)) | (go_at_call 12; go_must (refine (stays_Enter_at _ [] z nw2 next _ (I.slv .here encS_len) (by simp) HSt.out).mono ?_; rintro _ w1 ⟨A2, c2, rfl, S⟩; replace I := I.then1 S; clear S)) | (go_at_call 14; ((with_reducible refine (stays_Zone_is _ next mn qs _ (I.slv .here encS_len) HZn.out).mono ?_); rintro _ w1 ⟨rfl, S⟩; replace I := I.still S; clear S)) | (go_at_call 14; ((with_reducible refine (stays_Zone_is _ [] mn qs _ (I.slv (.there .here) encS_len) HZs.out).mono ?_); rintro _ w1 ⟨rfl, S⟩; replace I := I.still S; clear S)) | (go_at_call 15; go_must (refine (stays_Right _ next _ (I.slv .here encS_len)).mono ?_; rintro _ w1 ⟨rfl, S⟩; rw [HRi.out]; replace I := I.still S; clear S)))
                all_goals try omega
                go_roundw
                case rel => exact ⟨k + 1, next, nw2, z, A2, c2, rfl, rfl, rfl, by go_num, by omega, HP.out.good, by have := HP.out.len; first | omega | (rw [List.length_nil] at this; omega) | (rw [hlen] at this; omega), by omega, by omega, I.pick (by repeat (first | exact .here | apply At.there))⟩
                case measure => simp [intOf]; omega
              · have HZn := Lib.hid (HP.out.from_ mn (by omega))
                obtain ⟨qs, hqs⟩ : ∃ q : Int, Sty.zone [] mn = q := ⟨_, rfl⟩
                have HZs := Lib.hid hqs
                clear hqs
                go_wp2_with (first | (first | ((with_reducible refine gguard ?_); (first | refine w_guardT (by rfl) (fun hb => ?_) (fun hb => ?_) | refine w_guardF (by rfl) (fun hb => ?_) (fun hb => ?_)) <;> first | (cases hb; done) | cases hb | ((try rw [hb]) <;> (try simp at hb) <;> go_prune <;> (try (with_reducible replace hb := eqPair hb)))) | (((with_reducible refine gbox ?_); first | refine w_boxA I (by rfl) ?_ | refine w_box1 I (by (conv => lhs; whnf) <;> rfl) (by rfl) ?_); clear I; intro g w I) | ((with_reducible refine galloc ?_); refine w_alloc I ?_; clear I; intro g w I) | ((with_reducible refine gload ?_); first | refine w_loadB I (by rfl) (by first | (with_reducible repeat (first | exact .here | apply At.there)); done | repeat (first | exact .here | apply At.there)) (by rfl) ?_ | refine w_loadBR I (by rfl) (by first | (with_reducible repeat (first | exact .here | apply At.there)); done | repeat (first | exact .here | apply At.there)) (by rfl) ?_ | refine w_load0 I (by rfl) (by assumption) ?_) | ((with_reducible refine gstore ?_); (first | refine w_storeB I (by rfl) (by (conv => lhs; whnf) <;> rfl) (by first | (with_reducible repeat (first | exact .here | apply Upd.there)); done | repeat (first | exact .here | apply Upd.there)) (by rfl) (by rfl) (by simp only [List.set_cons_zero, List.set_cons_succ] <;> rfl) ?_ | refine w_storeBR I (by rfl) (by rfl) (by first | (with_reducible repeat (first | exact .here | apply Upd.there)); done | repeat (first | exact .here | apply Upd.there)) (by rfl) (by rfl) (by rfl) ?_); clear I; intro w I)) | (go_at_call 12; go_must (refine (stays_Enter_at _ [] z nw2 next _ (I.slv .here encS_len) (by simp) HSt.out).mono ?_; rintro _ w1 ⟨A2, c2, rfl, S⟩; replace I := I.then1 S; clear S)) | (go_at_call 14; ((with_reducible refine (stays_Zone_is _ next mn z _ (I.slv .here encS_len) HZn.out).mono ?_); rintro _ w1 ⟨rfl, S⟩; replace I := I.still S; clear S)) | (go_at_call 14; ((with_reducible refine (stays_Zone_is _ [] mn qs _ (I.slv (.there .here) encS_len) HZs.out).mono ?_); rintro _ w1 ⟨rfl, S⟩; replace I := I.still S; clear S)) | (go_at_call 15; go_must (refine (stays_Right _ next _ (I.slv .here encS_len)).mono ?_; rintro _ w1 ⟨rfl, S⟩; rw [HRi.out]; replace I := I.still S; clear S)))
                all_goals try omega
                go_roundw
                case rel => exact ⟨k + 1, next, nw2, z, A2, c2, rfl, rfl, rfl, by go_num, by omega, HP.out.good, by have := HP.out.len; first | omega | (rw [List.length_nil] at this; omega) | (rw [hlen] at this; omega), by omega, by omega, I.pick (by repeat (first | exact .here | apply At.there))⟩
                case measure => simp [intOf]; omega
            · rw [List.concat_eq_append] at *
              have hlen : (t ++ [y]).length = t.length + 1 := by simp
              obtain ⟨g, cp, e, _, _, hcap⟩ := (I.own .here).base_of (by simp)
              injection e with e1 _ e2
              subst e1 e2
              have hcl := (I.own .here).cell encS_len t.length (by simp) 2 (.int .i64 y.to_) (by simp [encS])
              rw [hlen] at I hsk ⊢
              have q1 := IntWalk.i64_in (t.length : Int) (by omega)
              have q2 : IntKind.i64.wrap ((t.length : Int) + 1 - 1) = (t.length : Int) := by rw [IntWalk.i64_in _ (by omega)]; omega
              have hi0 : (0 : Int) ≤ (t.length : Int) := by omega
              have hi1 : (t.length : Int) < (t.length : Int) + 1 := by omega
              by_cases hy : y.to_ = nw2
              · have hyb : (y.to_ == nw2) = true := by simpa using hy
                obtain ⟨next, hst, HP⟩ := HQ.out.resolve_left (fun q => q.1 (.inl ⟨by omega, .inr (.inr ⟨y, List.getLast?_concat, hy⟩)⟩)) |>.2
                have HP := Lib.hid HP
                have HRi := Lib.hid HP.out.good.right
                have HSt := Lib.hid (HQ1.out _ hst)
                clear hst HQ
                by_cases hm : (mn : Int) < nw2
                · obtain ⟨qs, hqs⟩ : ∃ q : Int, Sty.zone (t ++ [y]) mn = q := ⟨_, rfl⟩
                  have HZn := Lib.hid ((HP.out.ahead mn hm).trans hqs)
                  have HZs := Lib.hid hqs
                  clear hqs
                  go_wp2_with (first | (first | ((with_reducible refine gguard ?_); (first | refine w_guardT (by rfl) (fun hb => ?_) (fun hb => ?_) | refine w_guardF (by rfl) (fun hb => ?_) (fun hb => ?_)) <;> first | (cases hb; done) | cases hb | ((try rw [hb]) <;> (try simp at hb) <;> go_prune <;> (try (with_reducible replace hb := eqPair hb)))) | (((with_reducible refine gbox ?_); first | refine w_boxA I (by rfl) ?_ | refine w_box1 I (by (conv => lhs; whnf) <;> rfl) (by rfl) ?_); clear I; intro g w I) | ((with_reducible refine galloc ?_); refine w_alloc I ?_; clear I; intro g w I) | ((with_reducible refine gload ?_); first | refine w_loadB I (by rfl) (by first | (with_reducible repeat (first | exact .here | apply At.there)); done | repeat (first | exact .here | apply At.there)) (by rfl) ?_ | refine w_loadBR I (by rfl) (by first | (with_reducible repeat (first | exact .here | apply At.there)); done | repeat (first | exact .here | apply At.there)) (by rfl) ?_ | refine w_load0 I (by rfl) (by assumption) ?_) | ((with_reducible refine gstore ?_); (first | refine w_storeB I (by rfl) (by (conv => lhs; whnf) <;> rfl) (by first | (with_reducible repeat (first | exact .here | apply Upd.there)); done | repeat (first | exact .here | apply Upd.there)) (by rfl) (by rfl) (by simp only [List.set_cons_zero, List.set_cons_succ] <;> rfl) ?_ | refine w_storeBR I (by rfl) (by rfl) (by first | (with_reducible repeat (first | exact .here | apply Upd.there)); done | repeat (first | exact .here | apply Upd.there)) (by rfl) (by rfl) (by rfl) ?_); clear I; intro w I)) | (go_at_call 12; go_must (refine (stays_Enter_at _ (t ++ [y]) z nw2 next _ (I.slv .here encS_len) (by omega) HSt.out).mono ?_; rintro _ w1 ⟨A2, c2, rfl, S⟩; replace I := I.then1 S; clear S; have hcl := (I.own (.there .here)).cell encS_len t.length (by simp) 2 (.int .i64 y.to_) (by simp [encS]))) | (go_at_call 14; ((with_reducible refine (stays_Zone_is _ next mn qs _ (I.slv .here encS_len) HZn.out).mono ?_); rintro _ w1 ⟨rfl, S⟩; replace I := I.still S; clear S)) | (go_at_call 14; ((with_reducible refine (stays_Zone_is _ (t ++ [y]) mn qs _ (I.slv (.there .here) encS_len) HZs.out).mono ?_); rintro _ w1 ⟨rfl, S⟩; replace I := I.still S; clear S)) | (go_at_call 15; go_must (refine (stays_Right _ next _ (I.slv .here encS_len)).mono ?_; rintro _ w1 ⟨rfl, S⟩; rw [HRi.out]; replace I := I.still S; clear S)))
                  all_goals try omega
                  go_roundw
                  case rel => exact ⟨k + 1, next, nw2, z, A2, c2, rfl, rfl, rfl, by go_num, by omega, HP.out.good, by have := HP.out.len; first | omega | (rw [List.length_nil] at this; omega) | (rw [hlen] at this; omega), by omega, by omega, I.pick (by repeat (first | exact .here | apply At.there))⟩
                  case measure => simp [intOf]; omega
                · have HZn := Lib.hid (HP.out.from_ mn (by omega))
                  obtain ⟨qs, hqs⟩ : ∃ q : Int, Sty.zone (t ++ [y]) mn = q := ⟨_, rfl⟩
                  have HZs := Lib.hid hqs
                  clear hqs
                  go_wp2_with (first | (first | ((with_reducible refine gguard ?_); (first | refine w_guardT (by rfl) (fun hb => ?_) (fun hb => ?_) | refine w_guardF (by rfl) (fun hb => ?_) (fun hb => ?_)) <;> first | (cases hb; done) | cases hb | ((try rw [hb]) <;> (try simp at hb) <;> go_prune <;> (try (with_reducible replace hb := eqPair hb)))) | (((with_reducible refine gbox ?_); first | refine w_boxA I (by rfl) ?_ | refine w_box1 I (by (conv => lhs; whnf) <;> rfl) (by rfl) ?_); clear I; intro g w I) | ((with_reducible refine galloc ?_); refine w_alloc I ?_; clear I; intro g w I) | ((with_reducible refine gload ?_); first | refine w_loadB I (by rfl) (by first | (with_reducible repeat (first | exact .here | apply At.there)); done | repeat (first | exact .here | apply At.there)) (by rfl) ?_ | refine w_loadBR I (by rfl) (by first | (with_reducible repeat (first | exact .here | apply At.there)); done | repeat (first | exact .here | apply At.there)) (by rfl) ?_ | refine w_load0 I (by rfl) (by assumption) ?_) | ((with_reducible refine gstore ?_); (first | refine w_storeB I (by rfl) (by (conv => lhs; whnf) <;> rfl) (by first | (with_reducible repeat (first | exact .here | apply Upd.there)); done | repeat (first | exact .here | apply Upd.there)) (by rfl) (by rfl) (by simp only [List.set_cons_zero, List.set_cons_succ] <;> rfl) ?_ | refine w_storeBR I (by rfl) (by rfl) (by first | (with_reducible repeat (first | exact .here | apply Upd.there)); done | repeat (first | exact .here | apply Upd.there)) (by rfl) (by rfl) (by rfl) ?_); clear I; intro w I)) | (go_at_call 12; go_must (refine (stays_Enter_at _ (t ++ [y]) z nw2 next _ (I.slv .here encS_len) (by omega) HSt.out).mono ?_; rintro _ w1 ⟨A2, c2, rfl, S⟩; replace I := I.then1 S; clear S; have hcl := (I.own (.there .here)).cell encS_len t.length (by simp) 2 (.int .i64 y.to_) (by simp [encS]))) | (go_at_call 14; ((with_reducible refine (stays_Zone_is _ next mn z _ (I.slv .here encS_len) HZn.out).mono ?_); rintro _ w1 ⟨rfl, S⟩; replace I := I.still S; clear S)) | (go_at_call 14; ((with_reducible refine (stays_Zone_is _ (t ++ [y]) mn qs _ (I.slv (.there .here) encS_len) HZs.out).mono ?_); rintro _ w1 ⟨rfl, S⟩; replace I := I.still S; clear S)) | (go_at_call 15; go_must (refine (stays_Right _ next _ (I.slv .here encS_len)).mono ?_; rintro _ w1 ⟨rfl, S⟩; rw [HRi.out]; replace I := I.still S; clear S)))
                  all_goals try omega
                  go_roundw
                  case rel => exact ⟨k + 1, next, nw2, z, A2, c2, rfl, rfl, rfl, by go_num, by omega, HP.out.good, by have := HP.out.len; first | omega | (rw [List.length_nil] at this; omega) | (rw [hlen] at this; omega), by omega, by omega, I.pick (by repeat (first | exact .here | apply At.there))⟩
                  case measure => simp [intOf]; omega
              · have hyb : (y.to_ == nw2) = false := by simpa using hy
                have HSt := Lib.hid (HQ1.out _ (HQ.out.resolve_right (fun q => (show ¬ Sty.May (t ++ [y]) inn z nw2 by
                                  rintro (⟨_, h1 | h1 | ⟨q, h1, h2⟩⟩ | ⟨h1, _⟩)
                                  · exact hi h1
                                  · simp at h1
                                  · rw [List.getLast?_concat] at h1; injection h1 with h1; subst h1; exact hy h2
                                  · exact hzz h1) q.1)).2)
                clear HQ
                go_wp2_with (first | (first | ((with_reducible refine gguard ?_); (first | refine w_guardT (by rfl) (fun hb => ?_) (fun hb => ?_) | refine w_guardF (by rfl) (fun hb => ?_) (fun hb => ?_)) <;> first | (cases hb; done) | cases hb | ((try rw [hb]) <;> (try simp at hb) <;> go_prune <;> (try (with_reducible replace hb := eqPair hb)))) | (((with_reducible refine gbox ?_); first | refine w_boxA I (by rfl) ?_ | refine w_box1 I (by (conv => lhs; whnf) <;> rfl) (by rfl) ?_); clear I; intro g w I) | ((with_reducible refine galloc ?_); refine w_alloc I ?_; clear I; intro g w I) | ((with_reducible refine gload ?_); first | refine w_loadB I (by rfl) (by first | (with_reducible repeat (first | exact .here | apply At.there)); done | repeat (first | exact .here | apply At.there)) (by rfl) ?_ | refine w_loadBR I (by rfl) (by first | (with_reducible repeat (first | exact .here | apply At.there)); done | repeat (first | exact .here | apply At.there)) (by rfl) ?_ | refine w_load0 I (by rfl) (by assumption) ?_) | ((with_reducible refine gstore ?_); (first | refine w_storeB I (by rfl) (by (conv => lhs; whnf) <;> rfl) (by first | (with_reducible repeat (first | exact .here | apply Upd.there)); done | repeat (first | exact .here | apply Upd.there)) (by rfl) (by rfl) (by simp only [List.set_cons_zero, List.set_cons_succ] <;> rfl) ?_ | refine w_storeBR I (by rfl) (by rfl) (by first | (with_reducible repeat (first | exact .here | apply Upd.there)); done | repeat (first | exact .here | apply Upd.there)) (by rfl) (by rfl) (by rfl) ?_); clear I; intro w I)) | (go_at_call 12; go_must (refine (stays_Enter_no _ (t ++ [y]) z nw2 _ (I.slv .here encS_len) (by omega) HSt.out).mono ?_; rintro _ w1 ⟨v2, rfl, S⟩; replace I := I.then0 S; clear S; have hcl := (I.own .here).cell encS_len t.length (by simp) 2 (.int .i64 y.to_) (by simp [encS]))))
                all_goals try omega
                go_roundw
                case rel => exact ⟨k + 1, t ++ [y], nw2, inn, some ⟨g, 0, none⟩, c1, by rw [hlen], rfl, rfl, by go_num, by omega, HG.out.mono (by omega), by omega, by omega, by omega, by rw [hlen]; exact I⟩
                case measure => simp [intOf]; omega
      · obtain rfl : k = l.length := by omega
        have hkl : ¬ ((l.length : Int) < (l.length : Int)) := by omega
        obtain ⟨q, hq⟩ : ∃ q : Nat, mn % 600 = q := ⟨_, rfl⟩
        have hq1 : (mn : Int) % 600 = (q : Int) := by omega
        have hq2 : q < 600 := by omega
        have HMi := Lib.hid (Sty.minutes_cnt s hG.right q)
        have HUp := Lib.hid (Sty.upto_le s q 1000000 hG.right (fun y hy => by have := hG.to_le hn0 y hy; omega) (by omega))
        have HUl := Lib.hid (Sty.upto_len s q)
        have hsl : s.length ≤ 60 := by omega
        clear hG hq
        go_wp2_with (first | ((with_reducible refine gguard ?_); (first | refine w_guardT (by rfl) (fun hb => ?_) (fun hb => ?_) | refine w_guardF (by rfl) (fun hb => ?_) (fun hb => ?_)) <;> first | (cases hb; done) | cases hb | ((try rw [hb]) <;> (try simp at hb) <;> go_prune <;> (try (with_reducible replace hb := eqPair hb)))) | (((with_reducible refine gbox ?_); first | refine w_boxA I (by rfl) ?_ | refine w_box1 I (by (conv => lhs; whnf) <;> rfl) (by rfl) ?_); clear I; intro g w I) | ((with_reducible refine galloc ?_); refine w_alloc I ?_; clear I; intro g w I) | ((with_reducible refine gload ?_); first | refine w_loadB I (by rfl) (by first | (with_reducible repeat (first | exact .here | apply At.there)); done | repeat (first | exact .here | apply At.there)) (by rfl) ?_ | refine w_loadBR I (by rfl) (by first | (with_reducible repeat (first | exact .here | apply At.there)); done | repeat (first | exact .here | apply At.there)) (by rfl) ?_ | refine w_load0 I (by rfl) (by assumption) ?_) | ((with_reducible refine gstore ?_); (first | refine w_storeB I (by rfl) (by (conv => lhs; whnf) <;> rfl) (by first | (with_reducible repeat (first | exact .here | apply Upd.there)); done | repeat (first | exact .here | apply Upd.there)) (by rfl) (by rfl) (by simp only [List.set_cons_zero, List.set_cons_succ] <;> rfl) ?_ | refine w_storeBR I (by rfl) (by rfl) (by first | (with_reducible repeat (first | exact .here | apply Upd.there)); done | repeat (first | exact .here | apply Upd.there)) (by rfl) (by rfl) (by rfl) ?_); clear I; intro w I))
        go_loopw [15, 16] (fun nv mv wx => ∃ j : Nat, nv = .int .i64 (Sty.cnt s j) ∧ mv = .int .i64 j ∧ j ≤ q ∧ 0 ≤ Sty.cnt s j ∧ Sty.cnt s j ≤ j ∧ St w0 wx [OwnS 33 3 encS (.slice A s.length c1) s]) (fun _ mv _ => q - (intOf mv).toNat)
        case atStart => exact ⟨0, rfl, rfl, by omega, Int.le_refl _, Int.le_refl _, I⟩
        case round =>
          clear I
          obtain ⟨j, rfl, rfl, hj, hj0, hj1, I⟩ := hrel
          rename World => wz
          by_cases hjl : j < q
          · have hjq : (j : Int) < (q : Int) := by omega
            have qj := IntWalk.i64_in ((j : Int) + 1) (by omega)
            have HC := Lib.hid (show Sty.cnt s (j + 1) = Sty.cnt s j + (if 0 < Sty.zone s j then 1 else 0) from rfl)
            have HZ := Lib.hid (fun wx (h : Stays wx (.slice A s.length c1) s) => stays_Zone _ s j wx h)
            generalize Sty.zone s j = zq at HC HZ
            generalize Sty.cnt s j = cq at *
            by_cases hz : 0 < zq
            · have hzd : decide (0 < zq) = true := decide_eq_true hz
              have HE := Lib.hid (HC.out.trans (by rw [if_pos hz]))
              have qc := IntWalk.i64_in (cq + 1) (by omega)
              clear HC
              go_wp2_with (first | (first | ((with_reducible refine gguard ?_); (first | refine w_guardT (by rfl) (fun hb => ?_) (fun hb => ?_) | refine w_guardF (by rfl) (fun hb => ?_) (fun hb => ?_)) <;> first | (cases hb; done) | cases hb | ((try rw [hb]) <;> (try simp at hb) <;> go_prune <;> (try (with_reducible replace hb := eqPair hb)))) | (((with_reducible refine gbox ?_); first | refine w_boxA I (by rfl) ?_ | refine w_box1 I (by (conv => lhs; whnf) <;> rfl) (by rfl) ?_); clear I; intro g w I) | ((with_reducible refine galloc ?_); refine w_alloc I ?_; clear I; intro g w I) | ((with_reducible refine gload ?_); first | refine w_loadB I (by rfl) (by first | (with_reducible repeat (first | exact .here | apply At.there)); done | repeat (first | exact .here | apply At.there)) (by rfl) ?_ | refine w_loadBR I (by rfl) (by first | (with_reducible repeat (first | exact .here | apply At.there)); done | repeat (first | exact .here | apply At.there)) (by rfl) ?_ | refine w_load0 I (by rfl) (by assumption) ?_) | ((with_reducible refine gstore ?_); (first | refine w_storeB I (by rfl) (by (conv => lhs; whnf) <;> rfl) (by first | (with_reducible repeat (first | exact .here | apply Upd.there)); done | repeat (first | exact .here | apply Upd.there)) (by rfl) (by rfl) (by simp only [List.set_cons_zero, List.set_cons_succ] <;> rfl) ?_ | refine w_storeBR I (by rfl) (by rfl) (by first | (with_reducible repeat (first | exact .here | apply Upd.there)); done | repeat (first | exact .here | apply Upd.there)) (by rfl) (by rfl) (by rfl) ?_); clear I; intro w I)) | (go_at_call 14; go_must (refine (HZ.out _ (I.slv .here encS_len)).mono ?_; rintro _ w1 ⟨rfl, S⟩; replace I := I.still S; clear S)))
              all_goals try omega
              go_roundw
              case rel => exact ⟨j + 1, by rw [HE.out], by go_num, by omega, by rw [HE.out]; omega, by rw [HE.out]; omega, I⟩
              case measure => simp [intOf]; omega
            · have hzd : decide (0 < zq) = false := decide_eq_false hz
              have HE := Lib.hid (HC.out.trans (by rw [if_neg hz, Int.add_zero]))
              clear HC
              go_wp2_with (first | (first | ((with_reducible refine gguard ?_); (first | refine w_guardT (by rfl) (fun hb => ?_) (fun hb => ?_) | refine w_guardF (by rfl) (fun hb => ?_) (fun hb => ?_)) <;> first | (cases hb; done) | cases hb | ((try rw [hb]) <;> (try simp at hb) <;> go_prune <;> (try (with_reducible replace hb := eqPair hb)))) | (((with_reducible refine gbox ?_); first | refine w_boxA I (by rfl) ?_ | refine w_box1 I (by (conv => lhs; whnf) <;> rfl) (by rfl) ?_); clear I; intro g w I) | ((with_reducible refine galloc ?_); refine w_alloc I ?_; clear I; intro g w I) | ((with_reducible refine gload ?_); first | refine w_loadB I (by rfl) (by first | (with_reducible repeat (first | exact .here | apply At.there)); done | repeat (first | exact .here | apply At.there)) (by rfl) ?_ | refine w_loadBR I (by rfl) (by first | (with_reducible repeat (first | exact .here | apply At.there)); done | repeat (first | exact .here | apply At.there)) (by rfl) ?_ | refine w_load0 I (by rfl) (by assumption) ?_) | ((with_reducible refine gstore ?_); (first | refine w_storeB I (by rfl) (by (conv => lhs; whnf) <;> rfl) (by first | (with_reducible repeat (first | exact .here | apply Upd.there)); done | repeat (first | exact .here | apply Upd.there)) (by rfl) (by rfl) (by simp only [List.set_cons_zero, List.set_cons_succ] <;> rfl) ?_ | refine w_storeBR I (by rfl) (by rfl) (by first | (with_reducible repeat (first | exact .here | apply Upd.there)); done | repeat (first | exact .here | apply Upd.there)) (by rfl) (by rfl) (by rfl) ?_); clear I; intro w I)) | (go_at_call 14; go_must (refine (HZ.out _ (I.slv .here encS_len)).mono ?_; rintro _ w1 ⟨rfl, S⟩; replace I := I.still S; clear S)))
              all_goals try omega
              go_roundw
              case rel => exact ⟨j + 1, by rw [HE.out], by go_num, by omega, by rw [HE.out]; omega, by rw [HE.out]; omega, I⟩
              case measure => simp [intOf]; omega
          · obtain rfl : j = q := by omega
            have hjq : ¬ ((j : Int) < (j : Int)) := by omega
            go_wp2_with (first | (first | ((with_reducible refine gguard ?_); (first | refine w_guardT (by rfl) (fun hb => ?_) (fun hb => ?_) | refine w_guardF (by rfl) (fun hb => ?_) (fun hb => ?_)) <;> first | (cases hb; done) | cases hb | ((try rw [hb]) <;> (try simp at hb) <;> go_prune <;> (try (with_reducible replace hb := eqPair hb)))) | (((with_reducible refine gbox ?_); first | refine w_boxA I (by rfl) ?_ | refine w_box1 I (by (conv => lhs; whnf) <;> rfl) (by rfl) ?_); clear I; intro g w I) | ((with_reducible refine galloc ?_); refine w_alloc I ?_; clear I; intro g w I) | ((with_reducible refine gload ?_); first | refine w_loadB I (by rfl) (by first | (with_reducible repeat (first | exact .here | apply At.there)); done | repeat (first | exact .here | apply At.there)) (by rfl) ?_ | refine w_loadBR I (by rfl) (by first | (with_reducible repeat (first | exact .here | apply At.there)); done | repeat (first | exact .here | apply At.there)) (by rfl) ?_ | refine w_load0 I (by rfl) (by assumption) ?_) | ((with_reducible refine gstore ?_); (first | refine w_storeB I (by rfl) (by (conv => lhs; whnf) <;> rfl) (by first | (with_reducible repeat (first | exact .here | apply Upd.there)); done | repeat (first | exact .here | apply Upd.there)) (by rfl) (by rfl) (by simp only [List.set_cons_zero, List.set_cons_succ] <;> rfl) ?_ | refine w_storeBR I (by rfl) (by rfl) (by first | (with_reducible repeat (first | exact .here | apply Upd.there)); done | repeat (first | exact .here | apply Upd.there)) (by rfl) (by rfl) (by rfl) ?_); clear I; intro w I)) | (go_at_call 11; go_must (refine (law09_alive _).mono ?_; rintro _ w1 ⟨rfl, S⟩; replace I := I.still S; clear S)) | (go_at_call 16; go_must (refine (stays_Minutes _ s j _ (I.slv .here encS_len) (by omega) HUp.out (Nat.le_trans HUl.out (by omega))).mono ?_; rintro _ w1 ⟨rfl, S⟩; replace I := I.still S; clear S; rw [HMi.out])))
            go_ret
            exact ⟨rfl, I.fr⟩

set_option maxRecDepth 100000 in
theorem walk {H : Type} {enc : TypeId × Value → H} (W : World) (base : Nat) (args : Array Value) (ds : List (DataW H)) (ps : List MemPlace) (hval : ∀ (j : Nat) t v, Try.f3.params[j]? = some t → args[j]? = some v → Value.okWide Try.prog W .any base t v)
    (hA : DataW.TrodAll enc Try.prog W 0 (fun _ => true) true Try.f3.params.toList args.toList ds ps) : Calls Try.prog 3 args W fun e W' => e = .returned (.bool true) ∧ Fr W W' := by
  rw [Try.params3] at hA
  obtain ⟨v0, vs0, d0, ds0, p0, q0, hargs, rfl, rfl, h0, r0⟩ := trodAll_cons hA
  obtain ⟨v1, vs1, d1, ds1, p1, q1, rfl, rfl, rfl, h1, r1⟩ := trodAll_cons r0
  obtain ⟨rfl, rfl, rfl⟩ := trodAll_nil r1
  obtain rfl : args = #[v0, v1] := by cases args; simp_all
  rw [Try.params3] at hval
  obtain ⟨l, h⟩ := open_slv_arg Try.underlying22 (hval 0 _ v0 rfl rfl) h0 opens_steps
  obtain ⟨a1, rfl, rfl, rfl, w1⟩ := open_int Try.underlying23 (hval 1 _ v1 rfl rfl) h1
  have b1 : 0 ≤ a1 ∧ a1 ≤ 65535 := by simpa [Lit.wf, IntKind.min, IntKind.max, IntKind.signed, IntKind.bits] using w1
  obtain ⟨n1, rfl⟩ := Int.eq_ofNat_of_zero_le b1.1
  exact law v0 l n1 W h (by omega)

theorem own : ownKnob Try.prog.godebug = none := by kernel_rfl

set_option maxRecDepth 100000 in
theorem lifted (os : Os) (started : os.Started) (H : Type) (enc : TypeId × Value → H) :
    ReturnsInHanded {} Try.checked os 3 .any (Rows.staysSomewhereSpec.pre6 enc Try.prog Try.f3 Rows.staysSomewhereRow.domain false) (Rows.staysSomewhereSpec.post enc Try.prog Try.f3 false true false false) :=
  Hf.law_lifted (C := Try.checked) own started (by kernel_rfl) Try.func3
    (ChangeSpec.witness6 (enc := enc) (C := Try.checked) false ⟨#[], #[.slice none 0 0, .int .u16 0], []⟩ 8 (by kernel_rfl) (by kernel_rfl) (by kernel_rfl) (by kernel_rfl))
    rfl (by kernel_rfl) Try.underlying4 (by kernel_rfl) (by kernel_rfl)
    (by intro ds h; rw [Try.params3] at h; match ds, h with | [_, _], _ => rfl) walk

theorem over : Rows.staysSomewhereRow.holds Try.pinned (OpenSpec.ofChange Rows.staysSomewhereSpec) :=
  OpenClaim.holds_of_wide 3 Try.f3 rfl rfl rfl rfl rfl rfl rfl ⟨rfl, rfl, rfl, rfl, rfl⟩ rfl rfl rfl rfl rfl (by kernel_rfl) Try.func3 (by kernel_rfl)
    (of_decide_eq_true (by kernel_rfl)) (by unfold Func.isWrapper; first | (rw [if_pos (by decide +kernel)]; kernel_rfl) | (rw [if_neg (by decide +kernel)]; exact ⟨rfl, rfl⟩))
    (fun os started H enc _ => lifted os started H enc)

/-- The statement. -/
theorem proved : Rows.StaysSomewhereSaid := over
#print axioms proved
end Go.Proofs.Ytpnpgeilhafepaa.staysSomewhere
