
/- Octets (layer 4): the reference's reader, and readers that are nil. -/
import Derived.Test.YtpnpgeilhafepaaDoorOctQ
namespace Go.Proofs.YtpnpgeilhafepaaDoor
open Go.RowKit Go.Hf

/-- The reference's reader, of bytes bs. -/
def RRe (g : Nat) (v : Value) (bs : List UInt8) (s : List UInt8 × Int) : Asr := ExS fun p : Nat => AllS [IsS (p ≤ bs.length ∧ s.1 = bs.drop p), Blk g [v, .int .i64 p, .int .i64 s.2] 67]
theorem RRe.open {g : Nat} {v : Value} {bs : List UInt8} {s : List UInt8 × Int} {w0 w : World} {L R : List Asr} (I : St w0 w L) (hA : At (RRe g v bs s) L R) : ∃ p : Nat, p ≤ bs.length ∧ s.1 = bs.drop p ∧ St w0 w (Blk g [v, .int .i64 p, .int .i64 s.2] 67 :: R) := by
  obtain ⟨p, I⟩ := (I.take hA).ex
  have I := I.all
  have h := I.is
  exact ⟨p, h.1, h.2, I.drop1⟩
theorem RRe.mk {g p : Nat} {v : Value} {bs b : List UInt8} {e : Int} {w0 w : World} {L R : List Asr} (I : St w0 w L) (h : At (Blk g [v, .int .i64 p, .int .i64 e] 67) L R) (hp : p ≤ bs.length) (hb : b = bs.drop p) : St w0 w (RRe g v bs (b, e) :: R) :=
  St.mkEx p (St.mkAll (M := [_, _]) (St.mkIs ⟨hp, hb⟩ (I.take h)))

set_option maxRecDepth 100000 in
set_option maxHeartbeats 1000000 in
theorem ref04_take (g : Nat) (v : Value) (bs : List UInt8) (s : List UInt8 × Int) (n : Nat) (hn : n < 18446744073709551616) (hl : bs.length ≤ 1000000) (w0 w : World) (L R : List Asr) (hB : Bytes w0 v bs) (I : St w0 w L) (hA : At (RRe g v bs s) L R) :
    Calls Tryd.prog 57 #[.pointer (some ⟨g, 0, none⟩), .int .u64 n] w fun en w' => ∃ v', en = .returned v' ∧ Bytes w0 v' (Oct.take s n).1 ∧ St w0 w' (RRe g v bs (Oct.take s n).2 :: R) := by
  obtain ⟨p, hp, hs, I⟩ := RRe.open I hA
  clear hA
  unfold Oct.take
  obtain ⟨b, e⟩ := s
  dsimp only at hs I ⊢
  subst hs
  have HB := Lib.hid hB
  obtain ⟨A, _, c, rfl, rfl, hmc, hcm, _, _⟩ := hB
  unfold maxLen at hcm
  by_cases he : e = 0
  · subst he
    rw [if_neg (by simp)]
    have hlen : (bs.drop p).length = bs.length - p := List.length_drop
    have F := I.facts
    dsimp only [AllF, Asr.facts, Blk, OwnS] at F
    have q1 := IntWalk.i64_in ((bs.length : Int) - (p : Int)) (by omega)
    have q2 : IntKind.u64.wrap ((bs.length : Int) - (p : Int)) = (bs.length : Int) - (p : Int) := by
      have := u64_nat (bs.length - p) (by omega)
      have e : ((bs.length - p : Nat) : Int) = (bs.length : Int) - (p : Int) := by omega
      rw [e] at this; exact this
    by_cases hk : bs.length - p < n
    · rw [if_pos (by rw [hlen]; omega)]
      have hkI : (bs.length : Int) - (p : Int) < (n : Int) := by omega
      have HP := Lib.hid hp
      clear hk hlen hp
      go_enter Tryd.func57, Tryd.ntmps57
      go_wp2_with fail
      go_quiet (fail)
      clear q1 q2 F
      replace I := I.drewN ‹Nat›
      go_wp2_with (first | ((with_reducible refine gguard ?_); (first | refine w_guardT (by rfl) (fun hb => ?_) (fun hb => ?_) | refine w_guardF (by rfl) (fun hb => ?_) (fun hb => ?_)) <;> first | (cases hb; done) | cases hb | ((try rw [hb]) <;> (try simp at hb) <;> go_prune <;> (try (with_reducible replace hb := eqPair hb)))) | (((with_reducible refine gbox ?_); first | refine w_boxA I (by rfl) ?_ | refine w_box1 I (by (conv => lhs; whnf) <;> rfl) (by rfl) ?_); clear I; intro g w I) | ((with_reducible refine galloc ?_); refine w_alloc I ?_; clear I; intro g w I) | ((with_reducible refine gload ?_); first | refine w_loadB I (by rfl) (by first | (with_reducible repeat (first | exact .here | apply At.there)); done | repeat (first | exact .here | apply At.there)) (by rfl) ?_ | refine w_loadBR I (by rfl) (by first | (with_reducible repeat (first | exact .here | apply At.there)); done | repeat (first | exact .here | apply At.there)) (by rfl) ?_ | refine w_load0 I (by rfl) (by assumption) ?_) | ((with_reducible refine gstore ?_); (first | refine w_storeB I (by rfl) (by (conv => lhs; whnf) <;> rfl) (by first | (with_reducible repeat (first | exact .here | apply Upd.there)); done | repeat (first | exact .here | apply Upd.there)) (by rfl) (by rfl) (by simp only [List.set_cons_zero, List.set_cons_succ] <;> rfl) ?_ | refine w_storeBR I (by rfl) (by rfl) (by first | (with_reducible repeat (first | exact .here | apply Upd.there)); done | repeat (first | exact .here | apply Upd.there)) (by rfl) (by rfl) (by rfl) ?_); clear I; intro w I))
      go_ret
      exact ⟨_, rfl, SlV.nil _ _ _, RRe.mk I (by first | (with_reducible repeat (first | exact .here | apply At.there)); done | repeat (first | exact .here | apply At.there)) HP.out rfl⟩
    · rw [if_neg (by rw [hlen]; omega)]
      have hkI : ¬ (bs.length : Int) - (p : Int) < (n : Int) := by omega
      have hto : ((n : Int).toNat) = n := by omega
      rw [hto]
      have q3 := IntWalk.i64_in (n : Int) (by omega)
      have q4 := IntWalk.i64_in ((p : Int) + (n : Int)) (by omega)
      have q5 : ((p : Int) + (n : Int)).toNat = p + n := by omega
      have q6 : (p : Int) + (n : Int) ≤ (c : Int) := by omega
      have q7 : (0 : Int) ≤ (p : Int) + (n : Int) := by omega
      have q8 : (p : Int) ≤ (p : Int) + (n : Int) := by omega
      have q9 : (0 : Int) ≤ (p : Int) := by omega
      have qa : ((p + n : Nat) : Int) = (p : Int) + (n : Int) := by omega
      have qb : (p : Int) ≤ ((p + n : Nat) : Int) := by omega
      have HRd := Lib.hid (SlV.take (SlV.drop HB.out p (by omega)) n (by omega))
      have HD : Hid (p + n ≤ bs.length) := Lib.hid (by omega)
      have HL : Hid ((bs.drop p).drop n = bs.drop (p + n)) := Lib.hid (by rw [List.drop_drop])
      clear hk hlen hto hp
      have J := I
      by_cases hcp : c = p
      · obtain rfl : n = 0 := by have := HD.out; omega
        subst hcp
        go_enter Tryd.func57, Tryd.ntmps57
        go_wp2_with fail
        go_quiet (fail)
        obtain ⟨n1, rfl⟩ : ∃ y : Nat, y = nq := ⟨_, rfl⟩
        go_wp2_with fail
        go_quiet (fail)
        clear F
        replace I := I.drewN (n1 + nq)
        go_wp2_with (first | ((with_reducible refine gguard ?_); (first | refine w_guardT (by rfl) (fun hb => ?_) (fun hb => ?_) | refine w_guardF (by rfl) (fun hb => ?_) (fun hb => ?_)) <;> first | (cases hb; done) | cases hb | ((try rw [hb]) <;> (try simp at hb) <;> go_prune <;> (try (with_reducible replace hb := eqPair hb)))) | (((with_reducible refine gbox ?_); first | refine w_boxA I (by rfl) ?_ | refine w_box1 I (by (conv => lhs; whnf) <;> rfl) (by rfl) ?_); clear I; intro g w I) | ((with_reducible refine galloc ?_); refine w_alloc I ?_; clear I; intro g w I) | ((with_reducible refine gload ?_); first | refine w_loadB I (by rfl) (by first | (with_reducible repeat (first | exact .here | apply At.there)); done | repeat (first | exact .here | apply At.there)) (by rfl) ?_ | refine w_loadBR I (by rfl) (by first | (with_reducible repeat (first | exact .here | apply At.there)); done | repeat (first | exact .here | apply At.there)) (by rfl) ?_ | refine w_load0 I (by rfl) (by assumption) ?_) | ((with_reducible refine gstore ?_); (first | refine w_storeB I (by rfl) (by (conv => lhs; whnf) <;> rfl) (by first | (with_reducible repeat (first | exact .here | apply Upd.there)); done | repeat (first | exact .here | apply Upd.there)) (by rfl) (by rfl) (by simp only [List.set_cons_zero, List.set_cons_succ] <;> rfl) ?_ | refine w_storeBR I (by rfl) (by rfl) (by first | (with_reducible repeat (first | exact .here | apply Upd.there)); done | repeat (first | exact .here | apply Upd.there)) (by rfl) (by rfl) (by rfl) ?_); clear I; intro w I))
        go_ret
        refine ⟨_, rfl, ?_, RRe.mk I (by first | (with_reducible repeat (first | exact .here | apply At.there)); done | repeat (first | exact .here | apply At.there)) (by have := HD.out; omega) (by simp)⟩
        exact ⟨A, 0, 0, rfl, by simp, by omega, by omega, fun _ => rfl, SlA.nil _ _ _ _⟩
      · have hcp2 : ¬ ((c : Int) = (p : Int)) := by omega
        go_enter Tryd.func57, Tryd.ntmps57
        go_wp2_with fail
        go_quiet (fail)
        obtain ⟨n1, rfl⟩ : ∃ y : Nat, y = nq := ⟨_, rfl⟩
        go_wp2_with fail
        go_quiet (fail)
        clear F
        replace I := I.drewN (n1 + nq)
        go_wp2_with (first | ((with_reducible refine gguard ?_); (first | refine w_guardT (by rfl) (fun hb => ?_) (fun hb => ?_) | refine w_guardF (by rfl) (fun hb => ?_) (fun hb => ?_)) <;> first | (cases hb; done) | cases hb | ((try rw [hb]) <;> (try simp at hb) <;> go_prune <;> (try (with_reducible replace hb := eqPair hb)))) | (((with_reducible refine gbox ?_); first | refine w_boxA I (by rfl) ?_ | refine w_box1 I (by (conv => lhs; whnf) <;> rfl) (by rfl) ?_); clear I; intro g w I) | ((with_reducible refine galloc ?_); refine w_alloc I ?_; clear I; intro g w I) | ((with_reducible refine gload ?_); first | refine w_loadB I (by rfl) (by first | (with_reducible repeat (first | exact .here | apply At.there)); done | repeat (first | exact .here | apply At.there)) (by rfl) ?_ | refine w_loadBR I (by rfl) (by first | (with_reducible repeat (first | exact .here | apply At.there)); done | repeat (first | exact .here | apply At.there)) (by rfl) ?_ | refine w_load0 I (by rfl) (by assumption) ?_) | ((with_reducible refine gstore ?_); (first | refine w_storeB I (by rfl) (by (conv => lhs; whnf) <;> rfl) (by first | (with_reducible repeat (first | exact .here | apply Upd.there)); done | repeat (first | exact .here | apply Upd.there)) (by rfl) (by rfl) (by simp only [List.set_cons_zero, List.set_cons_succ] <;> rfl) ?_ | refine w_storeBR I (by rfl) (by rfl) (by first | (with_reducible repeat (first | exact .here | apply Upd.there)); done | repeat (first | exact .here | apply Upd.there)) (by rfl) (by rfl) (by rfl) ?_); clear I; intro w I))
        go_ret
        refine ⟨_, rfl, ?_, RRe.mk (p := p + n) (by first | exact I | (rw [qa]; exact I)) (by first | (with_reducible repeat (first | exact .here | apply At.there)); done | repeat (first | exact .here | apply At.there)) HD.out HL.out⟩
        have h := HRd.out
        rw [if_neg hcp, Nat.mul_one] at h
        exact h
  · rw [if_pos he]
    have hb : (e != 0) = true := by simpa using he
    clear he
    go_enter Tryd.func57, Tryd.ntmps57
    go_wp2_with (first | ((with_reducible refine gguard ?_); (first | refine w_guardT (by rfl) (fun hb => ?_) (fun hb => ?_) | refine w_guardF (by rfl) (fun hb => ?_) (fun hb => ?_)) <;> first | (cases hb; done) | cases hb | ((try rw [hb]) <;> (try simp at hb) <;> go_prune <;> (try (with_reducible replace hb := eqPair hb)))) | (((with_reducible refine gbox ?_); first | refine w_boxA I (by rfl) ?_ | refine w_box1 I (by (conv => lhs; whnf) <;> rfl) (by rfl) ?_); clear I; intro g w I) | ((with_reducible refine galloc ?_); refine w_alloc I ?_; clear I; intro g w I) | ((with_reducible refine gload ?_); first | refine w_loadB I (by rfl) (by first | (with_reducible repeat (first | exact .here | apply At.there)); done | repeat (first | exact .here | apply At.there)) (by rfl) ?_ | refine w_loadBR I (by rfl) (by first | (with_reducible repeat (first | exact .here | apply At.there)); done | repeat (first | exact .here | apply At.there)) (by rfl) ?_ | refine w_load0 I (by rfl) (by assumption) ?_) | ((with_reducible refine gstore ?_); (first | refine w_storeB I (by rfl) (by (conv => lhs; whnf) <;> rfl) (by first | (with_reducible repeat (first | exact .here | apply Upd.there)); done | repeat (first | exact .here | apply Upd.there)) (by rfl) (by rfl) (by simp only [List.set_cons_zero, List.set_cons_succ] <;> rfl) ?_ | refine w_storeBR I (by rfl) (by rfl) (by first | (with_reducible repeat (first | exact .here | apply Upd.there)); done | repeat (first | exact .here | apply Upd.there)) (by rfl) (by rfl) (by rfl) ?_); clear I; intro w I))
    go_ret
    exact ⟨_, rfl, SlV.nil _ _ _, RRe.mk I (by first | (with_reducible repeat (first | exact .here | apply At.there)); done | repeat (first | exact .here | apply At.there)) hp rfl⟩

theorem ref04_Value (v : Value) (b : List UInt8) (w : World) (h : Bytes w v b) (h8 : b.length ≤ 8) : Calls Tryd.prog 59 #[v] w fun en w' => en = .returned (.int .u64 (Oct.val b)) ∧ w = w' := by
  obtain ⟨A, _, c, rfl, rfl, hmc, hcm, hA0, hs⟩ := h
  unfold maxLen at hcm
  have HS := Lib.hid hs
  clear hs
  go_enter Tryd.func59, Tryd.ntmps59
  go_wp2_with fail
  go_loop [3, 4] (fun u i => ∃ j : Nat, i = .int .i64 j ∧ j ≤ b.length ∧ u = .int .u64 (Oct.val (b.take j))) (fun _ i => b.length - (intOf i).toNat)
  case atStart => exact ⟨0, rfl, by omega, rfl⟩
  case round =>
    obtain ⟨j, rfl, hj, rfl⟩ := hrel
    by_cases hlt : j < b.length
    · obtain ⟨bb, o, rfl, hc⟩ := HS.out.atB j hlt
      have HV : Hid (Oct.val (b.take (j + 1)) = 256 * Oct.val (b.take j) + b[j].toNat) := Lib.hid (by rw [List.take_succ_eq_append_getElem hlt, Oct.val_snoc])
      have hu : Oct.val (b.take j) < 72057594037927936 := by
        have h1 := Oct.val_lt (b.take j)
        rw [List.length_take] at h1
        have h2 : 256 ^ (min j b.length) ≤ 256 ^ 7 := Nat.pow_le_pow_right (by decide) (by omega)
        have : (256 : Nat) ^ 7 = 72057594037927936 := by decide
        omega
      have hbt := b[j].toNat_lt
      generalize b[j] = x at *
      generalize Oct.val (b.take j) = u at *
      have hjl : (j : Int) < (b.length : Int) := by omega
      go_wp2_with fail
      go_round
      case rel => exact ⟨j + 1, by go_num, by omega, by rw [HV.out]; go_num⟩
      case measure => simp [intOf]; omega
    · obtain rfl : j = b.length := by omega
      rw [List.take_length]
      go_wp2_with fail
      go_ret
      exact ⟨rfl, rfl⟩
theorem ref04_RNum (g : Nat) (v : Value) (bs : List UInt8) (s : List UInt8 × Int) (k : Int) (hl : bs.length ≤ 1000000) (w0 w : World) (L R : List Asr) (hB : Bytes w0 v bs) (I : St w0 w L) (hA : At (RRe g v bs s) L R) :
    Calls Tryd.prog 56 #[.pointer (some ⟨g, 0, none⟩), .int .i64 k] w fun en w' => en = .returned (.int .u64 (Oct.num s k).1) ∧ St w0 w' (RRe g v bs (Oct.num s k).2 :: R) := by
  unfold Oct.num
  by_cases he : s.2 = 0
  · have hb : (s.2 != 0) = false := by simp [he]
    by_cases hk : k < 1 ∨ 8 < k
    · rw [if_pos hk, if_pos he]
      obtain ⟨p, hp, hs, I⟩ := RRe.open I hA
      have HP := Lib.hid hp
      have HS := Lib.hid hs
      clear hA he hp hs
      go_enter Tryd.func56, Tryd.ntmps56
      go_wp2_with (first | ((with_reducible refine gguard ?_); (first | refine w_guardT (by rfl) (fun hb => ?_) (fun hb => ?_) | refine w_guardF (by rfl) (fun hb => ?_) (fun hb => ?_)) <;> first | (cases hb; done) | cases hb | ((try rw [hb]) <;> (try simp at hb) <;> go_prune <;> (try (with_reducible replace hb := eqPair hb)))) | (((with_reducible refine gbox ?_); first | refine w_boxA I (by rfl) ?_ | refine w_box1 I (by (conv => lhs; whnf) <;> rfl) (by rfl) ?_); clear I; intro g w I) | ((with_reducible refine galloc ?_); refine w_alloc I ?_; clear I; intro g w I) | ((with_reducible refine gload ?_); first | refine w_loadB I (by rfl) (by first | (with_reducible repeat (first | exact .here | apply At.there)); done | repeat (first | exact .here | apply At.there)) (by rfl) ?_ | refine w_loadBR I (by rfl) (by first | (with_reducible repeat (first | exact .here | apply At.there)); done | repeat (first | exact .here | apply At.there)) (by rfl) ?_ | refine w_load0 I (by rfl) (by assumption) ?_) | ((with_reducible refine gstore ?_); (first | refine w_storeB I (by rfl) (by (conv => lhs; whnf) <;> rfl) (by first | (with_reducible repeat (first | exact .here | apply Upd.there)); done | repeat (first | exact .here | apply Upd.there)) (by rfl) (by rfl) (by simp only [List.set_cons_zero, List.set_cons_succ] <;> rfl) ?_ | refine w_storeBR I (by rfl) (by rfl) (by first | (with_reducible repeat (first | exact .here | apply Upd.there)); done | repeat (first | exact .here | apply Upd.there)) (by rfl) (by rfl) (by rfl) ?_); clear I; intro w I))
      all_goals first | (go_ret; exact ⟨rfl, RRe.mk I (by first | (with_reducible repeat (first | exact .here | apply At.there)); done | repeat (first | exact .here | apply At.there)) HP.out HS.out⟩) | omega
    · rw [if_neg hk]
      obtain ⟨j, rfl⟩ : ∃ j : Nat, k = j := ⟨k.toNat, by omega⟩
      have HT := Lib.hid (fun wx (I : St w0 wx L) => ref04_take g v bs s j (by omega) hl w0 wx L R hB I hA)
      have hq := u64_nat j (by omega)
      have hlen := Oct.take_len s j (by omega)
      have k1 : (1 : Int) ≤ (j : Int) := by omega
      have k8 : (j : Int) ≤ 8 := by omega
      have HA := Lib.hid hA
      have HI := Lib.hid I
      generalize Oct.take s j = q at HT hlen ⊢
      obtain ⟨b, s2⟩ := q
      dsimp only at hlen ⊢
      have HL : Hid (b.length ≤ 8) := Lib.hid (by omega)
      obtain ⟨p, hp, hs, I⟩ := RRe.open I hA
      clear hA he hp hs hlen hk
      have F := I.facts
      dsimp only [AllF, Asr.facts, Blk, OwnS] at F
      go_enter Tryd.func56, Tryd.ntmps56
      go_wp2_with (first | (go_at_call 57; go_must (refine (HT.out _ HI.out).mono ?_; rintro _ w1 ⟨v', rfl, hv, S⟩; clear F; replace hv := Lib.hid hv)) | (go_at_call 59; go_must (refine (ref04_Value _ b _ (hv.out.frF S.fr) HL.out).mono ?_; rintro _ w1 ⟨rfl, rfl⟩)))
      go_ret
      exact ⟨rfl, S⟩
  · have e1 : (if k < 1 ∨ 8 < k then ((0 : Nat), (s.1, if s.2 = 0 then (1 : Int) else s.2)) else (Oct.val (Oct.take s k).1, (Oct.take s k).2)) = (0, s) := by
      rw [if_neg he]
      split
      · rfl
      · unfold Oct.take; rw [if_pos he]; rfl
    rw [e1]
    have hb : (s.2 != 0) = true := by simpa using he
    obtain ⟨p, hp, hs, I⟩ := RRe.open I hA
    have HP := Lib.hid hp
    have HS := Lib.hid hs
    clear hA he hp hs e1
    go_enter Tryd.func56, Tryd.ntmps56
    go_wp2_with (first | ((with_reducible refine gguard ?_); (first | refine w_guardT (by rfl) (fun hb => ?_) (fun hb => ?_) | refine w_guardF (by rfl) (fun hb => ?_) (fun hb => ?_)) <;> first | (cases hb; done) | cases hb | ((try rw [hb]) <;> (try simp at hb) <;> go_prune <;> (try (with_reducible replace hb := eqPair hb)))) | (((with_reducible refine gbox ?_); first | refine w_boxA I (by rfl) ?_ | refine w_box1 I (by (conv => lhs; whnf) <;> rfl) (by rfl) ?_); clear I; intro g w I) | ((with_reducible refine galloc ?_); refine w_alloc I ?_; clear I; intro g w I) | ((with_reducible refine gload ?_); first | refine w_loadB I (by rfl) (by first | (with_reducible repeat (first | exact .here | apply At.there)); done | repeat (first | exact .here | apply At.there)) (by rfl) ?_ | refine w_loadBR I (by rfl) (by first | (with_reducible repeat (first | exact .here | apply At.there)); done | repeat (first | exact .here | apply At.there)) (by rfl) ?_ | refine w_load0 I (by rfl) (by assumption) ?_) | ((with_reducible refine gstore ?_); (first | refine w_storeB I (by rfl) (by (conv => lhs; whnf) <;> rfl) (by first | (with_reducible repeat (first | exact .here | apply Upd.there)); done | repeat (first | exact .here | apply Upd.there)) (by rfl) (by rfl) (by simp only [List.set_cons_zero, List.set_cons_succ] <;> rfl) ?_ | refine w_storeBR I (by rfl) (by rfl) (by first | (with_reducible repeat (first | exact .here | apply Upd.there)); done | repeat (first | exact .here | apply Upd.there)) (by rfl) (by rfl) (by rfl) ?_); clear I; intro w I))
    go_ret
    exact ⟨rfl, RRe.mk I (by first | (with_reducible repeat (first | exact .here | apply At.there)); done | repeat (first | exact .here | apply At.there)) HP.out HS.out⟩

theorem ref04_RInt (g : Nat) (v : Value) (bs : List UInt8) (s : List UInt8 × Int) (hl : bs.length ≤ 1000000) (w0 w : World) (L R : List Asr) (hB : Bytes w0 v bs) (I : St w0 w L) (hA : At (RRe g v bs s) L R) :
    Calls Tryd.prog 45 #[.pointer (some ⟨g, 0, none⟩)] w fun en w' => en = .returned (.int .i64 (Oct.int s).1) ∧ St w0 w' (RRe g v bs (Oct.int s).2 :: R) := by
  unfold Oct.int
  have hq := i64_conv _ (Oct.num_lt s 8)
  have HC := Lib.hid (ref04_RNum g v bs s 8 hl w0 w L R hB I hA)
  generalize Oct.num s 8 = q at *
  obtain ⟨n, s2⟩ := q
  dsimp only at hq ⊢
  have HQ := Lib.hid hq
  clear hq
  go_enter Tryd.func45, Tryd.ntmps45
  go_wp2_with (go_at_call 56; go_must (refine (HC.out).mono ?_; rintro _ w1 ⟨rfl, S⟩))
  go_ret
  refine ⟨congrArg (fun z => Ending.returned (.int .i64 z)) ?_, S⟩
  have h := HQ.out
  rw [IntWalk.i64_left] at h
  exact h
theorem num_err (s : List UInt8 × Int) (k : Int) : (Oct.num s k).1 = 0 ∨ (Oct.num s k).2.2 = 0 := by
  unfold Oct.num
  split
  · exact .inl rfl
  · unfold Oct.take
    split
    · exact .inl rfl
    · split
      · exact .inl rfl
      · exact .inr rfl
theorem ref04_RRun (g : Nat) (v : Value) (bs : List UInt8) (s : List UInt8 × Int) (hl : bs.length ≤ 1000000) (w0 w : World) (L R : List Asr) (hB : Bytes w0 v bs) (I : St w0 w L) (hA : At (RRe g v bs s) L R) :
    Calls Tryd.prog 46 #[.pointer (some ⟨g, 0, none⟩)] w fun en w' => ∃ v', en = .returned v' ∧ Bytes w0 v' (Oct.run s).1 ∧ St w0 w' (RRe g v bs (Oct.run s).2 :: R) := by
  unfold Oct.run
  have HC := Lib.hid (ref04_RNum g v bs s 4 hl w0 w L R hB I hA)
  have hq4 := Oct.num_lt4 s
  clear I hA
  generalize Oct.num s 4 = q at *
  obtain ⟨n, s2⟩ := q
  dsimp only at hq4 ⊢
  have HT := Lib.hid (fun wx L R (I : St w0 wx L) (hA : At (RRe g v bs s2) L R) => ref04_take g v bs s2 n (by omega) hl w0 wx L R hB I hA)
  clear hq4
  go_enter Tryd.func46, Tryd.ntmps46
  go_wp2_with (first | (go_at_call 56; go_must (refine (HC.out).mono ?_; rintro _ w1 ⟨rfl, I⟩)) | (go_at_call 57; go_must (refine (HT.out _ _ _ I .here).mono ?_; rintro _ w1 ⟨v', rfl, hv, I2⟩; replace hv := Lib.hid hv)))
  go_ret
  exact ⟨_, rfl, hv.out, I2⟩
theorem ref04_RDone (g : Nat) (v : Value) (bs : List UInt8) (s : List UInt8 × Int) (w0 w : World) (L R : List Asr) (hB : Bytes w0 v bs) (I : St w0 w L) (hA : At (RRe g v bs s) L R) :
    Calls Tryd.prog 47 #[.pointer (some ⟨g, 0, none⟩)] w fun en w' => en = .returned (.int .i64 (Oct.done s)) ∧ Dr w w' := by
  obtain ⟨p, hp, hs, I⟩ := RRe.open I hA
  clear hA
  obtain ⟨A, _, c, rfl, rfl, hmc, hcm, _, _⟩ := hB
  unfold maxLen at hcm
  have F := I.facts
  dsimp only [AllF, Asr.facts, Blk, OwnS] at F
  unfold Oct.done Oct.left
  by_cases he : s.2 = 0
  · rw [if_neg (by simp [he] : ¬ s.2 ≠ 0), hs, List.length_drop, he]
    have hb : (s.2 != 0) = false := by simp [he]
    clear hs
    by_cases hlt : p < bs.length
    · rw [if_pos (by omega)]
      have hl : (p : Int) < (bs.length : Int) := by omega
      clear he hlt hp
      go_enter Tryd.func47, Tryd.ntmps47
      go_wp2_with fail
      go_quiet (fail)
      go_wp2_with fail
      go_ret
      exact ⟨rfl, (Dr.refl _).drewN _⟩
    · rw [if_neg (by omega)]
      have hl : ¬ (p : Int) < (bs.length : Int) := by omega
      clear he hlt hp
      go_enter Tryd.func47, Tryd.ntmps47
      go_wp2_with fail
      go_quiet (fail)
      go_wp2_with fail
      go_ret
      exact ⟨rfl, (Dr.refl _).drewN _⟩
  · rw [if_pos he, if_neg (by decide)]
    have hb : (s.2 != 0) = true := by simpa using he
    clear he hs
    go_enter Tryd.func47, Tryd.ntmps47
    go_wp2_with fail
    go_ret
    exact ⟨rfl, Dr.refl _⟩

/-! ### Readers that are nil -/
theorem nil_take (k : Int) (w : World) : Calls Tryd.prog 54 #[.pointer none, .int .i64 k] w fun en w' => en = .returned (.slice none 0 0) ∧ w = w' := by
  go_enter Tryd.func54, Tryd.ntmps54
  go_wp2_with fail
  go_ret
  exact ⟨rfl, rfl⟩
theorem nil_Num1 (w : World) : Calls Tryd.prog 41 #[.pointer none, .int .i64 1] w fun en w' => en = .returned (.int .u64 0) ∧ w = w' := by
  go_enter Tryd.func41, Tryd.ntmps41
  go_wp2_with (go_at_call 54; go_must (refine (nil_take _ _).mono ?_; rintro _ w1 ⟨rfl, rfl⟩))
  go_loop [5, 24] (fun u i => u = .int .u64 0 ∧ i = .int .i64 0) (fun _ _ => 0)
  case atStart => exact ⟨rfl, rfl⟩
  case round =>
    obtain ⟨rfl, rfl⟩ := hrel
    go_wp2_with fail
    go_ret
    exact ⟨rfl, rfl⟩
theorem nil_Num3 (w : World) : Calls Tryd.prog 41 #[.pointer none, .int .i64 3] w fun en w' => en = .returned (.int .u64 0) ∧ w = w' := by
  go_enter Tryd.func41, Tryd.ntmps41
  go_wp2_with (go_at_call 54; go_must (refine (nil_take _ _).mono ?_; rintro _ w1 ⟨rfl, rfl⟩))
  go_loop [5, 24] (fun u i => u = .int .u64 0 ∧ i = .int .i64 0) (fun _ _ => 0)
  case atStart => exact ⟨rfl, rfl⟩
  case round =>
    obtain ⟨rfl, rfl⟩ := hrel
    go_wp2_with fail
    go_ret
    exact ⟨rfl, rfl⟩
theorem nil_Num4 (w : World) : Calls Tryd.prog 41 #[.pointer none, .int .i64 4] w fun en w' => en = .returned (.int .u64 0) ∧ w = w' := by
  go_enter Tryd.func41, Tryd.ntmps41
  go_wp2_with (go_at_call 54; go_must (refine (nil_take _ _).mono ?_; rintro _ w1 ⟨rfl, rfl⟩))
  go_loop [5, 24] (fun u i => u = .int .u64 0 ∧ i = .int .i64 0) (fun _ _ => 0)
  case atStart => exact ⟨rfl, rfl⟩
  case round =>
    obtain ⟨rfl, rfl⟩ := hrel
    go_wp2_with fail
    go_ret
    exact ⟨rfl, rfl⟩
theorem nil_Num8 (w : World) : Calls Tryd.prog 41 #[.pointer none, .int .i64 8] w fun en w' => en = .returned (.int .u64 0) ∧ w = w' := by
  go_enter Tryd.func41, Tryd.ntmps41
  go_wp2_with (go_at_call 54; go_must (refine (nil_take _ _).mono ?_; rintro _ w1 ⟨rfl, rfl⟩))
  go_loop [5, 24] (fun u i => u = .int .u64 0 ∧ i = .int .i64 0) (fun _ _ => 0)
  case atStart => exact ⟨rfl, rfl⟩
  case round =>
    obtain ⟨rfl, rfl⟩ := hrel
    go_wp2_with fail
    go_ret
    exact ⟨rfl, rfl⟩
theorem nil_Int (w : World) : Calls Tryd.prog 42 #[.pointer none] w fun en w' => en = .returned (.int .i64 0) ∧ w = w' := by
  go_enter Tryd.func42, Tryd.ntmps42
  go_wp2_with (go_at_call 41; go_must (refine (nil_Num8 _).mono ?_; rintro _ w1 ⟨rfl, rfl⟩))
  go_ret
  exact ⟨rfl, rfl⟩
theorem nil_Run (w : World) : Calls Tryd.prog 43 #[.pointer none] w fun en w' => en = .returned (.slice none 0 0) ∧ w = w' := by
  go_enter Tryd.func43, Tryd.ntmps43
  go_wp2_with (first | (go_at_call 41; go_must (refine (nil_Num4 _).mono ?_; rintro _ w1 ⟨rfl, rfl⟩)) | (go_at_call 54; go_must (refine (nil_take _ _).mono ?_; rintro _ w1 ⟨rfl, rfl⟩)))
  go_ret
  exact ⟨rfl, rfl⟩
theorem nil_Left (w : World) : Calls Tryd.prog 55 #[.pointer none] w fun en w' => en = .returned (.int .i64 0) ∧ w = w' := by
  go_enter Tryd.func55, Tryd.ntmps55
  go_wp2_with fail
  go_ret
  exact ⟨rfl, rfl⟩
theorem nil_Done (w : World) : Calls Tryd.prog 44 #[.pointer none] w fun en w' => en = .returned (.int .i64 1) ∧ w = w' := by
  go_enter Tryd.func44, Tryd.ntmps44
  go_wp2_with fail
  go_ret
  exact ⟨rfl, rfl⟩
end Go.Proofs.YtpnpgeilhafepaaDoor
