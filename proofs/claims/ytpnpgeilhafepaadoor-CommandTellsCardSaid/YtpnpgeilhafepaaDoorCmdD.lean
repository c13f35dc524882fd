
/- Commands (layer 18): contract of Decode. -/
import Derived.Test.YtpnpgeilhafepaaDoorCmdC
import Derived.Test.YtpnpgeilhafepaaDoorOctQ
import Derived.BigRegion
import Derived.Deep.CutBlock
namespace Go.Proofs.YtpnpgeilhafepaaDoor
open Go.RowKit Go.Hf

namespace Cmd
def cells (l : List Int) : List Value := [.int .i64 (l.getD 0 0), .int .i64 (l.getD 1 0), .int .i64 (l.getD 2 0), .int .i64 (l.getD 3 0), .int .i64 (l.getD 4 0)]
theorem cells_snoc : ∀ (l : List Int) (x : Int) (k : Nat), l.length = k → k < 5 → cells (l ++ [x]) = (cells l).set k (.int .i64 x)
  | [], x, _, rfl, _ => rfl
  | [_], x, _, rfl, _ => rfl
  | [_, _], x, _, rfl, _ => rfl
  | [_, _, _], x, _, rfl, _ => rfl
  | [_, _, _, _], x, _, rfl, _ => rfl
  | _ :: _ :: _ :: _ :: _ :: l, x, _, rfl, h => by simp at h; omega
theorem num1_lt (s : List UInt8 × Int) : (Oct.num s 1).1 < 256 := by
  have h := Oct.take_len s 1 (by decide)
  unfold Oct.num
  rw [if_neg (by decide)]
  have h2 := Oct.val_lt (Oct.take s 1).1
  have : 256 ^ (Oct.take s 1).1.length ≤ 256 ^ 1 := Nat.pow_le_pow_right (by decide) (by omega)
  dsimp only
  omega
theorem take_left (s : List UInt8 × Int) (n : Int) : (Oct.take s n).2.1.length ≤ s.1.length := by
  unfold Oct.take
  split
  · exact Nat.le_refl _
  · split
    · exact Nat.le_refl _
    · simp
theorem num_left (s : List UInt8 × Int) (n : Int) : (Oct.num s n).2.1.length ≤ s.1.length := by
  unfold Oct.num
  split
  · exact Nat.le_refl _
  · exact take_left s n
theorem ints_succ (j : Nat) (s : List UInt8 × Int) : ints (j + 1) s = ((ints j s).1 ++ [(Oct.int (ints j s).2).1], (Oct.int (ints j s).2).2) := rfl
theorem ints_left (n : Nat) (s : List UInt8 × Int) : (ints n s).2.1.length ≤ s.1.length := by
  induction n with
  | zero => exact Nat.le_refl _
  | succ n ih =>
    show (Oct.int (ints n s).2).2.1.length ≤ _
    exact Nat.le_trans (num_left _ 8) ih
end Cmd

set_option maxRecDepth 100000 in
set_option maxHeartbeats 1600000 in
theorem command_Decode (v : Value) (b : List UInt8) (w0 : World) (hB : Bytes w0 v b) (hb : b.length ≤ 10000) (hT : Tab w0) : Calls Tryd.prog 10 #[v] w0 fun en w' => ∃ A n c, en = .returned (.tuple #[aggM (Cmd.decode b).1.1 A n c, .int .i64 (Cmd.decode b).2]) ∧ St w0 w' [OwnS 5 1 encB (.slice A n c) (Cmd.decode b).1.2] := by
  have HB := Lib.hid hB
  have HBL : Hid (b.length ≤ 1000000) := Lib.hid (by omega)
  clear hB hb
  have I := St.refl w0
  have HD : Hid (Cmd.decode b = if Oct.done (Cmd.behind (Oct.num (b, 0) 1).1 (Oct.num (b, 0) 1).2).2 = 0 ∧ Cmd.right (Cmd.behind (Oct.num (b, 0) 1).1 (Oct.num (b, 0) 1).2).1.1 (Cmd.behind (Oct.num (b, 0) 1).1 (Oct.num (b, 0) 1).2).1.2 = true then ((Cmd.behind (Oct.num (b, 0) 1).1 (Oct.num (b, 0) 1).2).1, 0) else ((Cmd.zero, []), 2)) := Lib.hid rfl
  have hk := Cmd.num1_lt (b, 0)
  have hsl := Nat.le_trans (Cmd.num_left (b, 0) 1) HBL.out
  have HNm := Lib.hid (fun g w L R (J : St w0 w L) (hA : At (Re g (b, 0)) L R) => octets_RNumA g (b, 0) 1 HBL.out w0 w L R J hA)
  generalize Oct.num (b, 0) 1 = q0 at HD hk hsl HNm
  obtain ⟨k, s1⟩ := q0
  dsimp only at HD hk hsl HNm
  have hki : IntKind.i64.wrap (k : Int) = (k : Int) := IntWalk.i64_in _ (by omega)
  obtain ⟨n, hn⟩ : ∃ n : Int, Cmd.numbers (k : Int) = n := ⟨_, rfl⟩
  have HN := Lib.hid hn
  have hv := Cmd.numbers_vals (k : Int)
  rw [hn] at hv
  clear hn
  have hn5 : n ≤ 5 := by omega
  obtain ⟨mx, hmx⟩ : ∃ mx : Nat, n.toNat = mx := ⟨_, rfl⟩
  have hmx2 : max (0 : Int) n = (mx : Int) := by omega
  have hmx5 : mx ≤ 5 := by omega
  have HBe : Hid (Cmd.behind (k : Int) s1 = ((Cmd.com k (Cmd.ints mx s1).1, (if (k : Int) = 0 then Oct.run (Cmd.ints mx s1).2 else ([], (Cmd.ints mx s1).2)).1), (if (k : Int) = 0 then Oct.run (Cmd.ints mx s1).2 else ([], (Cmd.ints mx s1).2)).2)) := Lib.hid (by unfold Cmd.behind; rw [HN.out, hmx])
  rw [HBe.out] at HD
  dsimp only at HD
  have HIL := Lib.hid (fun j => Nat.le_trans (Cmd.ints_left j s1) hsl)
  have HIn := Lib.hid (fun j => Cmd.ints_len j s1)
  have HIs := Lib.hid (fun j => Cmd.ints_succ j s1)
  have HI0 : Hid (Cmd.ints 0 s1 = ([], s1)) := Lib.hid rfl
  have HMC : Hid ((n ≤ 0 ∧ mx = 0) ∨ (0 < n ∧ n = (mx : Int))) := Lib.hid (by omega)
  clear hmx hv HBe hsl hmx2
  go_enter Tryd.func10, Tryd.ntmps10
  try dsimp only [List.append]
  go_upto_region 1 with (first | ((with_reducible refine galloc (ty := 25) ?_); refine w_alloc I ?_; clear I; intro g2 w I) | (first | ((with_reducible refine gguard ?_); (first | refine w_guardT (by rfl) (fun hb => ?_) (fun hb => ?_) | refine w_guardF (by rfl) (fun hb => ?_) (fun hb => ?_)) <;> first | (cases hb; done) | cases hb | ((try rw [hb]) <;> (try simp at hb) <;> go_prune <;> (try (with_reducible replace hb := eqPair hb)))) | (((with_reducible refine gbox ?_); first | refine w_boxA I (by rfl) ?_ | refine w_box1 I (by (conv => lhs; whnf) <;> rfl) (by rfl) ?_); clear I; intro g w I) | ((with_reducible refine galloc ?_); refine w_alloc I ?_; clear I; intro g w I) | ((with_reducible refine gload ?_); first | refine w_loadB I (by rfl) (by first | (with_reducible repeat (first | exact .here | apply At.there)); done | repeat (first | exact .here | apply At.there)) (by rfl) ?_ | refine w_loadBR I (by rfl) (by first | (with_reducible repeat (first | exact .here | apply At.there)); done | repeat (first | exact .here | apply At.there)) (by rfl) ?_ | refine w_load0 I (by rfl) (by assumption) ?_) | ((with_reducible refine gstore ?_); (first | refine w_storeB I (by rfl) (by (conv => lhs; whnf) <;> rfl) (by first | (with_reducible repeat (first | exact .here | apply Upd.there)); done | repeat (first | exact .here | apply Upd.there)) (by rfl) (by rfl) (by simp only [List.set_cons_zero, List.set_cons_succ] <;> rfl) ?_ | refine w_storeBR I (by rfl) (by rfl) (by first | (with_reducible repeat (first | exact .here | apply Upd.there)); done | repeat (first | exact .here | apply Upd.there)) (by rfl) (by rfl) (by rfl) ?_); clear I; intro w I)))
  go_wp2_with (first | ((with_reducible refine galloc (ty := 50) ?_); refine w_alloc I ?_; clear I; intro ga w I) | ((with_reducible refine galloc (ty := 25) ?_); refine w_alloc I ?_; clear I; intro g5 w I) | (first | ((with_reducible refine gguard ?_); (first | refine w_guardT (by rfl) (fun hb => ?_) (fun hb => ?_) | refine w_guardF (by rfl) (fun hb => ?_) (fun hb => ?_)) <;> first | (cases hb; done) | cases hb | ((try rw [hb]) <;> (try simp at hb) <;> go_prune <;> (try (with_reducible replace hb := eqPair hb)))) | (((with_reducible refine gbox ?_); first | refine w_boxA I (by rfl) ?_ | refine w_box1 I (by (conv => lhs; whnf) <;> rfl) (by rfl) ?_); clear I; intro g w I) | ((with_reducible refine galloc ?_); refine w_alloc I ?_; clear I; intro g w I) | ((with_reducible refine gload ?_); first | refine w_loadB I (by rfl) (by first | (with_reducible repeat (first | exact .here | apply At.there)); done | repeat (first | exact .here | apply At.there)) (by rfl) ?_ | refine w_loadBR I (by rfl) (by first | (with_reducible repeat (first | exact .here | apply At.there)); done | repeat (first | exact .here | apply At.there)) (by rfl) ?_ | refine w_load0 I (by rfl) (by assumption) ?_) | ((with_reducible refine gstore ?_); (first | refine w_storeB I (by rfl) (by (conv => lhs; whnf) <;> rfl) (by first | (with_reducible repeat (first | exact .here | apply Upd.there)); done | repeat (first | exact .here | apply Upd.there)) (by rfl) (by rfl) (by simp only [List.set_cons_zero, List.set_cons_succ] <;> rfl) ?_ | refine w_storeBR I (by rfl) (by rfl) (by first | (with_reducible repeat (first | exact .here | apply Upd.there)); done | repeat (first | exact .here | apply Upd.there)) (by rfl) (by rfl) (by rfl) ?_); clear I; intro w I)) | (go_at_call 40; go_must (refine (octets_NewReader _ b HBL.out _ _ _ I (HB.out.frF I.fr)).mono ?_; rintro _ w1 ⟨gr, rfl, S⟩; clear I; have I := S; clear S)) | (go_at_call 41; go_must (refine (HNm.out _ _ _ _ I (by first | (with_reducible repeat (first | exact .here | apply At.there)); done | repeat (first | exact .here | apply At.there))).mono ?_; rintro _ w1 ⟨rfl, S⟩; clear I; have I := S; clear S)) | (go_at_call 14; go_must (refine (command_Numbers _ _ (hT.fr I.fr)).mono ?_; rintro _ w1 ⟨rfl, rfl⟩; rw [HN.out])))
  all_goals try omega
  · obtain rfl : n = (mx : Int) := (HMC.out.resolve_left (by omega)).2
    have I2 : St w0 _ [Re gr s1, Blk ga (Cmd.cells []) 50, Blk g5 [.int .i64 (k : Int), .int .i64 0, .int .i64 0, .int .i64 0, .int .i64 0, .int .i64 0, .slice none 0 0] 25, Blk g2 [.int .i64 0, .int .i64 0, .int .i64 0, .int .i64 0, .int .i64 0, .int .i64 0, .slice none 0 0] 25] := ((I.take (A := Blk g5 [.int .i64 (k : Int), .int .i64 0, .int .i64 0, .int .i64 0, .int .i64 0, .int .i64 0, .slice none 0 0] 25) (by first | (with_reducible repeat (first | exact .here | apply At.there)); done | repeat (first | exact .here | apply At.there))).take (A := Blk ga (Cmd.cells []) 50) (.there .here)).take (A := Re gr s1) (by first | (with_reducible repeat (first | exact .here | apply At.there)); done | repeat (first | exact .here | apply At.there))
    clear I
    go_loopw [18] (fun i wr => ∃ (j : Nat) (L : List Int) (s : List UInt8 × Int), i = .int .i64 j ∧ j ≤ mx ∧ Hid (Cmd.ints j s1 = (L, s)) ∧ St w0 wr [Re gr s, Blk ga (Cmd.cells L) 50, Blk g5 [.int .i64 (k : Int), .int .i64 0, .int .i64 0, .int .i64 0, .int .i64 0, .int .i64 0, .slice none 0 0] 25, Blk g2 [.int .i64 0, .int .i64 0, .int .i64 0, .int .i64 0, .int .i64 0, .int .i64 0, .slice none 0 0] 25]) (fun i _ => 5 - (intOf i).toNat)
    case atStart => exact ⟨0, [], s1, rfl, by omega, HI0, I2⟩
    case round =>
      clear I2
      obtain ⟨j, L, s, rfl, hj, HL, I⟩ := hrel
      rename World => wr
      have HsL : Hid (s.1.length ≤ 1000000) := Lib.hid (by have := HIL.out j; rw [HL.out] at this; exact this)
      have HLl : Hid (L.length = j) := Lib.hid (by have := HIn.out j; rw [HL.out] at this; exact this)
      by_cases hlt : j < mx
      · have HNx : Hid (Cmd.ints (j + 1) s1 = (L ++ [(Oct.int s).1], (Oct.int s).2)) := Lib.hid (by rw [HIs.out, HL.out])
        have HI := Lib.hid (fun g w L' R (J : St w0 w L') (hA : At (Re g s) L' R) => octets_RInt g s HsL.out w0 w L' R J hA)
        generalize Oct.int s = q at HNx HI
        obtain ⟨x, s'⟩ := q
        dsimp only at HNx HI
        have HCS := Lib.hid (Cmd.cells_snoc L x j HLl.out (by omega))
        have h8 : j = 0 ∨ j = 1 ∨ j = 2 ∨ j = 3 ∨ j = 4 := by omega
        rcases h8 with rfl | rfl | rfl | rfl | rfl
        · have hlt2 : (0 : Int) < (mx : Int) := by omega
          unfold Cmd.cells at I
          go_wp2_with (first | (first | ((with_reducible refine gguard ?_); (first | refine w_guardT (by rfl) (fun hb => ?_) (fun hb => ?_) | refine w_guardF (by rfl) (fun hb => ?_) (fun hb => ?_)) <;> first | (cases hb; done) | cases hb | ((try rw [hb]) <;> (try simp at hb) <;> go_prune <;> (try (with_reducible replace hb := eqPair hb)))) | (((with_reducible refine gbox ?_); first | refine w_boxA I (by rfl) ?_ | refine w_box1 I (by (conv => lhs; whnf) <;> rfl) (by rfl) ?_); clear I; intro g w I) | ((with_reducible refine galloc ?_); refine w_alloc I ?_; clear I; intro g w I) | ((with_reducible refine gload ?_); first | refine w_loadB I (by rfl) (by first | (with_reducible repeat (first | exact .here | apply At.there)); done | repeat (first | exact .here | apply At.there)) (by rfl) ?_ | refine w_loadBR I (by rfl) (by first | (with_reducible repeat (first | exact .here | apply At.there)); done | repeat (first | exact .here | apply At.there)) (by rfl) ?_ | refine w_load0 I (by rfl) (by assumption) ?_) | ((with_reducible refine gstore ?_); (first | refine w_storeB I (by rfl) (by (conv => lhs; whnf) <;> rfl) (by first | (with_reducible repeat (first | exact .here | apply Upd.there)); done | repeat (first | exact .here | apply Upd.there)) (by rfl) (by rfl) (by simp only [List.set_cons_zero, List.set_cons_succ] <;> rfl) ?_ | refine w_storeBR I (by rfl) (by rfl) (by first | (with_reducible repeat (first | exact .here | apply Upd.there)); done | repeat (first | exact .here | apply Upd.there)) (by rfl) (by rfl) (by rfl) ?_); clear I; intro w I)) | (go_at_call 42; go_must (refine (HI.out gr _ _ _ I .here).mono ?_; rintro _ w1 ⟨rfl, S⟩; clear I; have I := S; clear S)))
          all_goals try omega
          go_roundw
          case rel => exact ⟨0 + 1, L ++ [x], s', rfl, by omega, HNx, by rw [HCS.out]; exact I⟩
          case measure => simp [intOf]
        · have hlt2 : (1 : Int) < (mx : Int) := by omega
          unfold Cmd.cells at I
          go_wp2_with (first | (first | ((with_reducible refine gguard ?_); (first | refine w_guardT (by rfl) (fun hb => ?_) (fun hb => ?_) | refine w_guardF (by rfl) (fun hb => ?_) (fun hb => ?_)) <;> first | (cases hb; done) | cases hb | ((try rw [hb]) <;> (try simp at hb) <;> go_prune <;> (try (with_reducible replace hb := eqPair hb)))) | (((with_reducible refine gbox ?_); first | refine w_boxA I (by rfl) ?_ | refine w_box1 I (by (conv => lhs; whnf) <;> rfl) (by rfl) ?_); clear I; intro g w I) | ((with_reducible refine galloc ?_); refine w_alloc I ?_; clear I; intro g w I) | ((with_reducible refine gload ?_); first | refine w_loadB I (by rfl) (by first | (with_reducible repeat (first | exact .here | apply At.there)); done | repeat (first | exact .here | apply At.there)) (by rfl) ?_ | refine w_loadBR I (by rfl) (by first | (with_reducible repeat (first | exact .here | apply At.there)); done | repeat (first | exact .here | apply At.there)) (by rfl) ?_ | refine w_load0 I (by rfl) (by assumption) ?_) | ((with_reducible refine gstore ?_); (first | refine w_storeB I (by rfl) (by (conv => lhs; whnf) <;> rfl) (by first | (with_reducible repeat (first | exact .here | apply Upd.there)); done | repeat (first | exact .here | apply Upd.there)) (by rfl) (by rfl) (by simp only [List.set_cons_zero, List.set_cons_succ] <;> rfl) ?_ | refine w_storeBR I (by rfl) (by rfl) (by first | (with_reducible repeat (first | exact .here | apply Upd.there)); done | repeat (first | exact .here | apply Upd.there)) (by rfl) (by rfl) (by rfl) ?_); clear I; intro w I)) | (go_at_call 42; go_must (refine (HI.out gr _ _ _ I .here).mono ?_; rintro _ w1 ⟨rfl, S⟩; clear I; have I := S; clear S)))
          all_goals try omega
          go_roundw
          case rel => exact ⟨1 + 1, L ++ [x], s', rfl, by omega, HNx, by rw [HCS.out]; exact I⟩
          case measure => simp [intOf]
        · have hlt2 : (2 : Int) < (mx : Int) := by omega
          unfold Cmd.cells at I
          go_wp2_with (first | (first | ((with_reducible refine gguard ?_); (first | refine w_guardT (by rfl) (fun hb => ?_) (fun hb => ?_) | refine w_guardF (by rfl) (fun hb => ?_) (fun hb => ?_)) <;> first | (cases hb; done) | cases hb | ((try rw [hb]) <;> (try simp at hb) <;> go_prune <;> (try (with_reducible replace hb := eqPair hb)))) | (((with_reducible refine gbox ?_); first | refine w_boxA I (by rfl) ?_ | refine w_box1 I (by (conv => lhs; whnf) <;> rfl) (by rfl) ?_); clear I; intro g w I) | ((with_reducible refine galloc ?_); refine w_alloc I ?_; clear I; intro g w I) | ((with_reducible refine gload ?_); first | refine w_loadB I (by rfl) (by first | (with_reducible repeat (first | exact .here | apply At.there)); done | repeat (first | exact .here | apply At.there)) (by rfl) ?_ | refine w_loadBR I (by rfl) (by first | (with_reducible repeat (first | exact .here | apply At.there)); done | repeat (first | exact .here | apply At.there)) (by rfl) ?_ | refine w_load0 I (by rfl) (by assumption) ?_) | ((with_reducible refine gstore ?_); (first | refine w_storeB I (by rfl) (by (conv => lhs; whnf) <;> rfl) (by first | (with_reducible repeat (first | exact .here | apply Upd.there)); done | repeat (first | exact .here | apply Upd.there)) (by rfl) (by rfl) (by simp only [List.set_cons_zero, List.set_cons_succ] <;> rfl) ?_ | refine w_storeBR I (by rfl) (by rfl) (by first | (with_reducible repeat (first | exact .here | apply Upd.there)); done | repeat (first | exact .here | apply Upd.there)) (by rfl) (by rfl) (by rfl) ?_); clear I; intro w I)) | (go_at_call 42; go_must (refine (HI.out gr _ _ _ I .here).mono ?_; rintro _ w1 ⟨rfl, S⟩; clear I; have I := S; clear S)))
          all_goals try omega
          go_roundw
          case rel => exact ⟨2 + 1, L ++ [x], s', rfl, by omega, HNx, by rw [HCS.out]; exact I⟩
          case measure => simp [intOf]
        · have hlt2 : (3 : Int) < (mx : Int) := by omega
          unfold Cmd.cells at I
          go_wp2_with (first | (first | ((with_reducible refine gguard ?_); (first | refine w_guardT (by rfl) (fun hb => ?_) (fun hb => ?_) | refine w_guardF (by rfl) (fun hb => ?_) (fun hb => ?_)) <;> first | (cases hb; done) | cases hb | ((try rw [hb]) <;> (try simp at hb) <;> go_prune <;> (try (with_reducible replace hb := eqPair hb)))) | (((with_reducible refine gbox ?_); first | refine w_boxA I (by rfl) ?_ | refine w_box1 I (by (conv => lhs; whnf) <;> rfl) (by rfl) ?_); clear I; intro g w I) | ((with_reducible refine galloc ?_); refine w_alloc I ?_; clear I; intro g w I) | ((with_reducible refine gload ?_); first | refine w_loadB I (by rfl) (by first | (with_reducible repeat (first | exact .here | apply At.there)); done | repeat (first | exact .here | apply At.there)) (by rfl) ?_ | refine w_loadBR I (by rfl) (by first | (with_reducible repeat (first | exact .here | apply At.there)); done | repeat (first | exact .here | apply At.there)) (by rfl) ?_ | refine w_load0 I (by rfl) (by assumption) ?_) | ((with_reducible refine gstore ?_); (first | refine w_storeB I (by rfl) (by (conv => lhs; whnf) <;> rfl) (by first | (with_reducible repeat (first | exact .here | apply Upd.there)); done | repeat (first | exact .here | apply Upd.there)) (by rfl) (by rfl) (by simp only [List.set_cons_zero, List.set_cons_succ] <;> rfl) ?_ | refine w_storeBR I (by rfl) (by rfl) (by first | (with_reducible repeat (first | exact .here | apply Upd.there)); done | repeat (first | exact .here | apply Upd.there)) (by rfl) (by rfl) (by rfl) ?_); clear I; intro w I)) | (go_at_call 42; go_must (refine (HI.out gr _ _ _ I .here).mono ?_; rintro _ w1 ⟨rfl, S⟩; clear I; have I := S; clear S)))
          all_goals try omega
          go_roundw
          case rel => exact ⟨3 + 1, L ++ [x], s', rfl, by omega, HNx, by rw [HCS.out]; exact I⟩
          case measure => simp [intOf]
        · have hlt2 : (4 : Int) < (mx : Int) := by omega
          unfold Cmd.cells at I
          go_wp2_with (first | (first | ((with_reducible refine gguard ?_); (first | refine w_guardT (by rfl) (fun hb => ?_) (fun hb => ?_) | refine w_guardF (by rfl) (fun hb => ?_) (fun hb => ?_)) <;> first | (cases hb; done) | cases hb | ((try rw [hb]) <;> (try simp at hb) <;> go_prune <;> (try (with_reducible replace hb := eqPair hb)))) | (((with_reducible refine gbox ?_); first | refine w_boxA I (by rfl) ?_ | refine w_box1 I (by (conv => lhs; whnf) <;> rfl) (by rfl) ?_); clear I; intro g w I) | ((with_reducible refine galloc ?_); refine w_alloc I ?_; clear I; intro g w I) | ((with_reducible refine gload ?_); first | refine w_loadB I (by rfl) (by first | (with_reducible repeat (first | exact .here | apply At.there)); done | repeat (first | exact .here | apply At.there)) (by rfl) ?_ | refine w_loadBR I (by rfl) (by first | (with_reducible repeat (first | exact .here | apply At.there)); done | repeat (first | exact .here | apply At.there)) (by rfl) ?_ | refine w_load0 I (by rfl) (by assumption) ?_) | ((with_reducible refine gstore ?_); (first | refine w_storeB I (by rfl) (by (conv => lhs; whnf) <;> rfl) (by first | (with_reducible repeat (first | exact .here | apply Upd.there)); done | repeat (first | exact .here | apply Upd.there)) (by rfl) (by rfl) (by simp only [List.set_cons_zero, List.set_cons_succ] <;> rfl) ?_ | refine w_storeBR I (by rfl) (by rfl) (by first | (with_reducible repeat (first | exact .here | apply Upd.there)); done | repeat (first | exact .here | apply Upd.there)) (by rfl) (by rfl) (by rfl) ?_); clear I; intro w I)) | (go_at_call 42; go_must (refine (HI.out gr _ _ _ I .here).mono ?_; rintro _ w1 ⟨rfl, S⟩; clear I; have I := S; clear S)))
          all_goals try omega
          go_roundw
          case rel => exact ⟨4 + 1, L ++ [x], s', rfl, by omega, HNx, by rw [HCS.out]; exact I⟩
          case measure => simp [intOf]
      · obtain rfl : j = mx := by omega
        have hlt3 : ¬ ((j : Int) < (j : Int)) := by omega
        clear HIL HIn HIs HI0
        go_upto_region 9 with (first | ((with_reducible refine gguard ?_); (first | refine w_guardT (by rfl) (fun hb => ?_) (fun hb => ?_) | refine w_guardF (by rfl) (fun hb => ?_) (fun hb => ?_)) <;> first | (cases hb; done) | cases hb | ((try rw [hb]) <;> (try simp at hb) <;> go_prune <;> (try (with_reducible replace hb := eqPair hb)))) | (((with_reducible refine gbox ?_); first | refine w_boxA I (by rfl) ?_ | refine w_box1 I (by (conv => lhs; whnf) <;> rfl) (by rfl) ?_); clear I; intro g w I) | ((with_reducible refine galloc ?_); refine w_alloc I ?_; clear I; intro g w I) | ((with_reducible refine gload ?_); first | refine w_loadB I (by rfl) (by first | (with_reducible repeat (first | exact .here | apply At.there)); done | repeat (first | exact .here | apply At.there)) (by rfl) ?_ | refine w_loadBR I (by rfl) (by first | (with_reducible repeat (first | exact .here | apply At.there)); done | repeat (first | exact .here | apply At.there)) (by rfl) ?_ | refine w_load0 I (by rfl) (by assumption) ?_) | ((with_reducible refine gstore ?_); (first | refine w_storeB I (by rfl) (by (conv => lhs; whnf) <;> rfl) (by first | (with_reducible repeat (first | exact .here | apply Upd.there)); done | repeat (first | exact .here | apply Upd.there)) (by rfl) (by rfl) (by simp only [List.set_cons_zero, List.set_cons_succ] <;> rfl) ?_ | refine w_storeBR I (by rfl) (by rfl) (by first | (with_reducible repeat (first | exact .here | apply Upd.there)); done | repeat (first | exact .here | apply Upd.there)) (by rfl) (by rfl) (by rfl) ?_); clear I; intro w I))
        rw [HL.out] at HD
        dsimp only at HD
        have HC : Hid (Cmd.com (k : Int) L = ⟨k, L.getD 0 0, L.getD 1 0, L.getD 2 0, L.getD 3 0, L.getD 4 0⟩) := Lib.hid rfl
        rw [HC.out] at HD
        unfold Cmd.cells at I
        clear HC HLl
        generalize L.getD 0 0 = x0 at *
        generalize L.getD 1 0 = x1 at *
        generalize L.getD 2 0 = x2 at *
        generalize L.getD 3 0 = x3 at *
        generalize L.getD 4 0 = x4 at *
        have hne : g5 ≠ ga := by
          intro e
          subst e
          have h1 := I.blk (g := g5) (t := 25) (.there (.there .here))
          have h2 := I.blk (g := g5) (t := 50) (.there .here)
          rw [h1] at h2
          injection h2 with h2
          injection h2 with _ h2
          exact absurd h2 (by decide)
        have hne2 : ga ≠ g5 := fun e => hne e.symm
        go_cut [] from 26 to 40 (fun wx => St w0 wx [Re gr s, Blk ga [.int .i64 x0, .int .i64 x1, .int .i64 x2, .int .i64 x3, .int .i64 x4] 50, Blk g5 [.int .i64 (k : Int), .int .i64 x0, .int .i64 x1, .int .i64 x2, .int .i64 x3, .int .i64 x4, .slice none 0 0] 25, Blk g2 [.int .i64 0, .int .i64 0, .int .i64 0, .int .i64 0, .int .i64 0, .int .i64 0, .slice none 0 0] 25])
        case first =>
          have F := I.facts
          dsimp only [AllF, Asr.facts, Blk, OwnS] at F
          go_big_region
          have I5 := (((((I.set (g := g5) (i := 1) (v := .int .i64 x0) (by first | (with_reducible repeat (first | exact .here | apply Upd.there)); done | repeat (first | exact .here | apply Upd.there)) rfl).set (g := g5) (i := 2) (v := .int .i64 x1) (by first | (with_reducible repeat (first | exact .here | apply Upd.there)); done | repeat (first | exact .here | apply Upd.there)) rfl).set (g := g5) (i := 3) (v := .int .i64 x2) (by first | (with_reducible repeat (first | exact .here | apply Upd.there)); done | repeat (first | exact .here | apply Upd.there)) rfl).set (g := g5) (i := 4) (v := .int .i64 x3) (by first | (with_reducible repeat (first | exact .here | apply Upd.there)); done | repeat (first | exact .here | apply Upd.there)) rfl).set (g := g5) (i := 5) (v := .int .i64 x4) (by first | (with_reducible repeat (first | exact .here | apply Upd.there)); done | repeat (first | exact .here | apply Upd.there)) rfl).drew
          simp only [List.set_cons_zero, List.set_cons_succ] at I5
          go_wp2_with fail
          go_meet
          case rel => exact I5
        case rest =>
        clear I hne hne2
        have I := hcut
        clear hcut HMC hlt hlt3 hj HN hn5 HNm hmx5 HL
        by_cases hk0 : (k : Int) = 0
        · have hkb : ((k : Int) == 0) = true := by simpa using hk0
          obtain ⟨q, hq⟩ : ∃ q, Oct.run s = q := ⟨_, rfl⟩
          have HRn := Lib.hid hq
          rw [if_pos hk0, hq] at HD
          have hbl : q.1.length ≤ 9223372036854775807 := by
            have h1 : (Oct.run s).1.length ≤ s.1.length := by
              show (Oct.take (Oct.num s 4).2 (Oct.num s 4).1).1.length ≤ _
              refine Nat.le_trans ?_ (Cmd.num_left s 4)
              unfold Oct.take
              split
              · exact Nat.zero_le _
              · split
                · exact Nat.zero_le _
                · rw [List.length_take]; omega
            rw [hq] at h1
            have := HsL.out
            omega
          obtain ⟨bs, s2⟩ := q
          dsimp only at HD hbl
          have HbL := Lib.hid hbl
          clear hk0 hq hbl
          by_cases hdz : Oct.done s2 = 0
          · have HDn := Lib.hid hdz
            cases hrt : Cmd.right ⟨k, x0, x1, x2, x3, x4⟩ bs with
            | false =>
              have HRt := Lib.hid hrt
              have HF : Hid (Cmd.decode b = ((Cmd.zero, []), 2)) := Lib.hid (HD.out.trans (if_neg (by rw [hrt]; simp)))
              clear hdz hrt HD
              go_wp2_with (first | (first | ((with_reducible refine gguard ?_); (first | refine w_guardT (by rfl) (fun hb => ?_) (fun hb => ?_) | refine w_guardF (by rfl) (fun hb => ?_) (fun hb => ?_)) <;> first | (cases hb; done) | cases hb | ((try rw [hb]) <;> (try simp at hb) <;> go_prune <;> (try (with_reducible replace hb := eqPair hb)))) | (((with_reducible refine gbox ?_); first | refine w_boxA I (by rfl) ?_ | refine w_box1 I (by (conv => lhs; whnf) <;> rfl) (by rfl) ?_); clear I; intro g w I) | ((with_reducible refine galloc ?_); refine w_alloc I ?_; clear I; intro g w I) | ((with_reducible refine gload ?_); first | refine w_loadB I (by rfl) (by first | (with_reducible repeat (first | exact .here | apply At.there)); done | repeat (first | exact .here | apply At.there)) (by rfl) ?_ | refine w_loadBR I (by rfl) (by first | (with_reducible repeat (first | exact .here | apply At.there)); done | repeat (first | exact .here | apply At.there)) (by rfl) ?_ | refine w_load0 I (by rfl) (by assumption) ?_) | ((with_reducible refine gstore ?_); (first | refine w_storeB I (by rfl) (by (conv => lhs; whnf) <;> rfl) (by first | (with_reducible repeat (first | exact .here | apply Upd.there)); done | repeat (first | exact .here | apply Upd.there)) (by rfl) (by rfl) (by simp only [List.set_cons_zero, List.set_cons_succ] <;> rfl) ?_ | refine w_storeBR I (by rfl) (by rfl) (by first | (with_reducible repeat (first | exact .here | apply Upd.there)); done | repeat (first | exact .here | apply Upd.there)) (by rfl) (by rfl) (by rfl) ?_); clear I; intro w I)) | (go_at_call 43; go_must (refine (octets_RRun gr s HsL.out _ _ _ _ I (by first | (with_reducible repeat (first | exact .here | apply At.there)); done | repeat (first | exact .here | apply At.there))).mono ?_; rintro _ w1 ⟨A9, m9, c9, rfl, S⟩; clear I; have I := S; clear S; rw [HRn.out] at I; obtain ⟨_, c8, e8, _⟩ := (I.own .here).reads encB_len; injection e8 with e7 e8 e9; subst e7 e8 e9)) | (go_at_call 44; go_must (refine (octets_RDone gr s2 _ _ _ _ I (by first | (with_reducible repeat (first | exact .here | apply At.there)); done | repeat (first | exact .here | apply At.there))).mono ?_; rintro _ w1 ⟨rfl, rfl⟩; rw [HDn.out])) | (go_at_call 16; go_must (refine (command_Right ⟨k, x0, x1, x2, x3, x4⟩ A9 bs.length c9 bs rfl HbL.out _ (hT.fr I.fr)).mono ?_; rintro _ w1 ⟨rfl, hf⟩; rw [HRt.out]; replace I := I.still hf; clear hf)))
              exact ret_2 rfl (by first | (exact ResV.t _ (by rfl)) | (exact ResV.row I (by rfl) (by first | (with_reducible repeat (first | exact .here | apply At.there)); done | repeat (first | exact .here | apply At.there)) (by rfl)) | (exact ResV.one I (by rfl) (by first | (with_reducible repeat (first | exact .here | apply At.there)); done | repeat (first | exact .here | apply At.there)))) (by first | (exact ResV.t _ (by rfl)) | (exact ResV.row I (by rfl) (by first | (with_reducible repeat (first | exact .here | apply At.there)); done | repeat (first | exact .here | apply At.there)) (by rfl)) | (exact ResV.one I (by rfl) (by first | (with_reducible repeat (first | exact .here | apply At.there)); done | repeat (first | exact .here | apply At.there)))) rfl ⟨none, 0, 0, by rw [HF.out]; rfl, by rw [HF.out]; exact I.nil.nilOwn _ _ _⟩
            | true =>
              have HRt := Lib.hid hrt
              have HF : Hid (Cmd.decode b = ((⟨k, x0, x1, x2, x3, x4⟩, bs), 0)) := Lib.hid (HD.out.trans (if_pos ⟨hdz, hrt⟩))
              clear hdz hrt HD
              go_wp2_with (first | (first | ((with_reducible refine gguard ?_); (first | refine w_guardT (by rfl) (fun hb => ?_) (fun hb => ?_) | refine w_guardF (by rfl) (fun hb => ?_) (fun hb => ?_)) <;> first | (cases hb; done) | cases hb | ((try rw [hb]) <;> (try simp at hb) <;> go_prune <;> (try (with_reducible replace hb := eqPair hb)))) | (((with_reducible refine gbox ?_); first | refine w_boxA I (by rfl) ?_ | refine w_box1 I (by (conv => lhs; whnf) <;> rfl) (by rfl) ?_); clear I; intro g w I) | ((with_reducible refine galloc ?_); refine w_alloc I ?_; clear I; intro g w I) | ((with_reducible refine gload ?_); first | refine w_loadB I (by rfl) (by first | (with_reducible repeat (first | exact .here | apply At.there)); done | repeat (first | exact .here | apply At.there)) (by rfl) ?_ | refine w_loadBR I (by rfl) (by first | (with_reducible repeat (first | exact .here | apply At.there)); done | repeat (first | exact .here | apply At.there)) (by rfl) ?_ | refine w_load0 I (by rfl) (by assumption) ?_) | ((with_reducible refine gstore ?_); (first | refine w_storeB I (by rfl) (by (conv => lhs; whnf) <;> rfl) (by first | (with_reducible repeat (first | exact .here | apply Upd.there)); done | repeat (first | exact .here | apply Upd.there)) (by rfl) (by rfl) (by simp only [List.set_cons_zero, List.set_cons_succ] <;> rfl) ?_ | refine w_storeBR I (by rfl) (by rfl) (by first | (with_reducible repeat (first | exact .here | apply Upd.there)); done | repeat (first | exact .here | apply Upd.there)) (by rfl) (by rfl) (by rfl) ?_); clear I; intro w I)) | (go_at_call 43; go_must (refine (octets_RRun gr s HsL.out _ _ _ _ I (by first | (with_reducible repeat (first | exact .here | apply At.there)); done | repeat (first | exact .here | apply At.there))).mono ?_; rintro _ w1 ⟨A9, m9, c9, rfl, S⟩; clear I; have I := S; clear S; rw [HRn.out] at I; obtain ⟨_, c8, e8, _⟩ := (I.own .here).reads encB_len; injection e8 with e7 e8 e9; subst e7 e8 e9)) | (go_at_call 44; go_must (refine (octets_RDone gr s2 _ _ _ _ I (by first | (with_reducible repeat (first | exact .here | apply At.there)); done | repeat (first | exact .here | apply At.there))).mono ?_; rintro _ w1 ⟨rfl, rfl⟩; rw [HDn.out])) | (go_at_call 16; go_must (refine (command_Right ⟨k, x0, x1, x2, x3, x4⟩ A9 bs.length c9 bs rfl HbL.out _ (hT.fr I.fr)).mono ?_; rintro _ w1 ⟨rfl, hf⟩; rw [HRt.out]; replace I := I.still hf; clear hf)))
              exact ret_2 rfl (by first | (exact ResV.t _ (by rfl)) | (exact ResV.row I (by rfl) (by first | (with_reducible repeat (first | exact .here | apply At.there)); done | repeat (first | exact .here | apply At.there)) (by rfl)) | (exact ResV.one I (by rfl) (by first | (with_reducible repeat (first | exact .here | apply At.there)); done | repeat (first | exact .here | apply At.there)))) (by first | (exact ResV.t _ (by rfl)) | (exact ResV.row I (by rfl) (by first | (with_reducible repeat (first | exact .here | apply At.there)); done | repeat (first | exact .here | apply At.there)) (by rfl)) | (exact ResV.one I (by rfl) (by first | (with_reducible repeat (first | exact .here | apply At.there)); done | repeat (first | exact .here | apply At.there)))) rfl ⟨_, _, _, by rw [HF.out]; rfl, by rw [HF.out]; exact I.pick (by first | (with_reducible repeat (first | exact .here | apply At.there)); done | repeat (first | exact .here | apply At.there))⟩
          · obtain ⟨dz, hdq⟩ : ∃ dz : Int, Oct.done s2 = dz := ⟨_, rfl⟩
            have HDn := Lib.hid hdq
            have HF : Hid (Cmd.decode b = ((Cmd.zero, []), 2)) := Lib.hid (HD.out.trans (if_neg (fun h => hdz h.1)))
            rw [hdq] at hdz
            have hdb : (dz != 0) = true := by simpa using hdz
            clear hdz hdq HD
            go_wp2_with (first | (first | ((with_reducible refine gguard ?_); (first | refine w_guardT (by rfl) (fun hb => ?_) (fun hb => ?_) | refine w_guardF (by rfl) (fun hb => ?_) (fun hb => ?_)) <;> first | (cases hb; done) | cases hb | ((try rw [hb]) <;> (try simp at hb) <;> go_prune <;> (try (with_reducible replace hb := eqPair hb)))) | (((with_reducible refine gbox ?_); first | refine w_boxA I (by rfl) ?_ | refine w_box1 I (by (conv => lhs; whnf) <;> rfl) (by rfl) ?_); clear I; intro g w I) | ((with_reducible refine galloc ?_); refine w_alloc I ?_; clear I; intro g w I) | ((with_reducible refine gload ?_); first | refine w_loadB I (by rfl) (by first | (with_reducible repeat (first | exact .here | apply At.there)); done | repeat (first | exact .here | apply At.there)) (by rfl) ?_ | refine w_loadBR I (by rfl) (by first | (with_reducible repeat (first | exact .here | apply At.there)); done | repeat (first | exact .here | apply At.there)) (by rfl) ?_ | refine w_load0 I (by rfl) (by assumption) ?_) | ((with_reducible refine gstore ?_); (first | refine w_storeB I (by rfl) (by (conv => lhs; whnf) <;> rfl) (by first | (with_reducible repeat (first | exact .here | apply Upd.there)); done | repeat (first | exact .here | apply Upd.there)) (by rfl) (by rfl) (by simp only [List.set_cons_zero, List.set_cons_succ] <;> rfl) ?_ | refine w_storeBR I (by rfl) (by rfl) (by first | (with_reducible repeat (first | exact .here | apply Upd.there)); done | repeat (first | exact .here | apply Upd.there)) (by rfl) (by rfl) (by rfl) ?_); clear I; intro w I)) | (go_at_call 43; go_must (refine (octets_RRun gr s HsL.out _ _ _ _ I (by first | (with_reducible repeat (first | exact .here | apply At.there)); done | repeat (first | exact .here | apply At.there))).mono ?_; rintro _ w1 ⟨A9, m9, c9, rfl, S⟩; clear I; have I := S; clear S; rw [HRn.out] at I; obtain ⟨_, c8, e8, _⟩ := (I.own .here).reads encB_len; injection e8 with e7 e8 e9; subst e7 e8 e9)) | (go_at_call 44; go_must (refine (octets_RDone gr s2 _ _ _ _ I (by first | (with_reducible repeat (first | exact .here | apply At.there)); done | repeat (first | exact .here | apply At.there))).mono ?_; rintro _ w1 ⟨rfl, rfl⟩; rw [HDn.out])))
            exact ret_2 rfl (by first | (exact ResV.t _ (by rfl)) | (exact ResV.row I (by rfl) (by first | (with_reducible repeat (first | exact .here | apply At.there)); done | repeat (first | exact .here | apply At.there)) (by rfl)) | (exact ResV.one I (by rfl) (by first | (with_reducible repeat (first | exact .here | apply At.there)); done | repeat (first | exact .here | apply At.there)))) (by first | (exact ResV.t _ (by rfl)) | (exact ResV.row I (by rfl) (by first | (with_reducible repeat (first | exact .here | apply At.there)); done | repeat (first | exact .here | apply At.there)) (by rfl)) | (exact ResV.one I (by rfl) (by first | (with_reducible repeat (first | exact .here | apply At.there)); done | repeat (first | exact .here | apply At.there)))) rfl ⟨none, 0, 0, by rw [HF.out]; rfl, by rw [HF.out]; exact I.nil.nilOwn _ _ _⟩
        · have hkb : ((k : Int) == 0) = false := by simpa using hk0
          rw [if_neg hk0] at HD
          dsimp only at HD
          have HbL : Hid (0 ≤ 9223372036854775807) := Lib.hid (by decide)
          clear hk0
          by_cases hdz : Oct.done s = 0
          · have HDn := Lib.hid hdz
            cases hrt : Cmd.right ⟨k, x0, x1, x2, x3, x4⟩ [] with
            | false =>
              have HRt := Lib.hid hrt
              have HF : Hid (Cmd.decode b = ((Cmd.zero, []), 2)) := Lib.hid (HD.out.trans (if_neg (by rw [hrt]; simp)))
              clear hdz hrt HD
              go_wp2_with (first | (first | ((with_reducible refine gguard ?_); (first | refine w_guardT (by rfl) (fun hb => ?_) (fun hb => ?_) | refine w_guardF (by rfl) (fun hb => ?_) (fun hb => ?_)) <;> first | (cases hb; done) | cases hb | ((try rw [hb]) <;> (try simp at hb) <;> go_prune <;> (try (with_reducible replace hb := eqPair hb)))) | (((with_reducible refine gbox ?_); first | refine w_boxA I (by rfl) ?_ | refine w_box1 I (by (conv => lhs; whnf) <;> rfl) (by rfl) ?_); clear I; intro g w I) | ((with_reducible refine galloc ?_); refine w_alloc I ?_; clear I; intro g w I) | ((with_reducible refine gload ?_); first | refine w_loadB I (by rfl) (by first | (with_reducible repeat (first | exact .here | apply At.there)); done | repeat (first | exact .here | apply At.there)) (by rfl) ?_ | refine w_loadBR I (by rfl) (by first | (with_reducible repeat (first | exact .here | apply At.there)); done | repeat (first | exact .here | apply At.there)) (by rfl) ?_ | refine w_load0 I (by rfl) (by assumption) ?_) | ((with_reducible refine gstore ?_); (first | refine w_storeB I (by rfl) (by (conv => lhs; whnf) <;> rfl) (by first | (with_reducible repeat (first | exact .here | apply Upd.there)); done | repeat (first | exact .here | apply Upd.there)) (by rfl) (by rfl) (by simp only [List.set_cons_zero, List.set_cons_succ] <;> rfl) ?_ | refine w_storeBR I (by rfl) (by rfl) (by first | (with_reducible repeat (first | exact .here | apply Upd.there)); done | repeat (first | exact .here | apply Upd.there)) (by rfl) (by rfl) (by rfl) ?_); clear I; intro w I)) | (go_at_call 44; go_must (refine (octets_RDone gr s _ _ _ _ I (by first | (with_reducible repeat (first | exact .here | apply At.there)); done | repeat (first | exact .here | apply At.there))).mono ?_; rintro _ w1 ⟨rfl, rfl⟩; rw [HDn.out])) | (go_at_call 16; go_must (refine (command_Right ⟨k, x0, x1, x2, x3, x4⟩ none 0 0 [] rfl HbL.out _ (hT.fr I.fr)).mono ?_; rintro _ w1 ⟨rfl, hf⟩; rw [HRt.out]; replace I := I.still hf; clear hf)))
              exact ret_2 rfl (by first | (exact ResV.t _ (by rfl)) | (exact ResV.row I (by rfl) (by first | (with_reducible repeat (first | exact .here | apply At.there)); done | repeat (first | exact .here | apply At.there)) (by rfl)) | (exact ResV.one I (by rfl) (by first | (with_reducible repeat (first | exact .here | apply At.there)); done | repeat (first | exact .here | apply At.there)))) (by first | (exact ResV.t _ (by rfl)) | (exact ResV.row I (by rfl) (by first | (with_reducible repeat (first | exact .here | apply At.there)); done | repeat (first | exact .here | apply At.there)) (by rfl)) | (exact ResV.one I (by rfl) (by first | (with_reducible repeat (first | exact .here | apply At.there)); done | repeat (first | exact .here | apply At.there)))) rfl ⟨none, 0, 0, by rw [HF.out]; rfl, by rw [HF.out]; exact I.nil.nilOwn _ _ _⟩
            | true =>
              have HRt := Lib.hid hrt
              have HF : Hid (Cmd.decode b = ((⟨k, x0, x1, x2, x3, x4⟩, []), 0)) := Lib.hid (HD.out.trans (if_pos ⟨hdz, hrt⟩))
              clear hdz hrt HD
              go_wp2_with (first | (first | ((with_reducible refine gguard ?_); (first | refine w_guardT (by rfl) (fun hb => ?_) (fun hb => ?_) | refine w_guardF (by rfl) (fun hb => ?_) (fun hb => ?_)) <;> first | (cases hb; done) | cases hb | ((try rw [hb]) <;> (try simp at hb) <;> go_prune <;> (try (with_reducible replace hb := eqPair hb)))) | (((with_reducible refine gbox ?_); first | refine w_boxA I (by rfl) ?_ | refine w_box1 I (by (conv => lhs; whnf) <;> rfl) (by rfl) ?_); clear I; intro g w I) | ((with_reducible refine galloc ?_); refine w_alloc I ?_; clear I; intro g w I) | ((with_reducible refine gload ?_); first | refine w_loadB I (by rfl) (by first | (with_reducible repeat (first | exact .here | apply At.there)); done | repeat (first | exact .here | apply At.there)) (by rfl) ?_ | refine w_loadBR I (by rfl) (by first | (with_reducible repeat (first | exact .here | apply At.there)); done | repeat (first | exact .here | apply At.there)) (by rfl) ?_ | refine w_load0 I (by rfl) (by assumption) ?_) | ((with_reducible refine gstore ?_); (first | refine w_storeB I (by rfl) (by (conv => lhs; whnf) <;> rfl) (by first | (with_reducible repeat (first | exact .here | apply Upd.there)); done | repeat (first | exact .here | apply Upd.there)) (by rfl) (by rfl) (by simp only [List.set_cons_zero, List.set_cons_succ] <;> rfl) ?_ | refine w_storeBR I (by rfl) (by rfl) (by first | (with_reducible repeat (first | exact .here | apply Upd.there)); done | repeat (first | exact .here | apply Upd.there)) (by rfl) (by rfl) (by rfl) ?_); clear I; intro w I)) | (go_at_call 44; go_must (refine (octets_RDone gr s _ _ _ _ I (by first | (with_reducible repeat (first | exact .here | apply At.there)); done | repeat (first | exact .here | apply At.there))).mono ?_; rintro _ w1 ⟨rfl, rfl⟩; rw [HDn.out])) | (go_at_call 16; go_must (refine (command_Right ⟨k, x0, x1, x2, x3, x4⟩ none 0 0 [] rfl HbL.out _ (hT.fr I.fr)).mono ?_; rintro _ w1 ⟨rfl, hf⟩; rw [HRt.out]; replace I := I.still hf; clear hf)))
              exact ret_2 rfl (by first | (exact ResV.t _ (by rfl)) | (exact ResV.row I (by rfl) (by first | (with_reducible repeat (first | exact .here | apply At.there)); done | repeat (first | exact .here | apply At.there)) (by rfl)) | (exact ResV.one I (by rfl) (by first | (with_reducible repeat (first | exact .here | apply At.there)); done | repeat (first | exact .here | apply At.there)))) (by first | (exact ResV.t _ (by rfl)) | (exact ResV.row I (by rfl) (by first | (with_reducible repeat (first | exact .here | apply At.there)); done | repeat (first | exact .here | apply At.there)) (by rfl)) | (exact ResV.one I (by rfl) (by first | (with_reducible repeat (first | exact .here | apply At.there)); done | repeat (first | exact .here | apply At.there)))) rfl ⟨_, _, _, by rw [HF.out]; rfl, by rw [HF.out]; exact I.nil.nilOwn _ _ _⟩
          · obtain ⟨dz, hdq⟩ : ∃ dz : Int, Oct.done s = dz := ⟨_, rfl⟩
            have HDn := Lib.hid hdq
            have HF : Hid (Cmd.decode b = ((Cmd.zero, []), 2)) := Lib.hid (HD.out.trans (if_neg (fun h => hdz h.1)))
            rw [hdq] at hdz
            have hdb : (dz != 0) = true := by simpa using hdz
            clear hdz hdq HD
            go_wp2_with (first | (first | ((with_reducible refine gguard ?_); (first | refine w_guardT (by rfl) (fun hb => ?_) (fun hb => ?_) | refine w_guardF (by rfl) (fun hb => ?_) (fun hb => ?_)) <;> first | (cases hb; done) | cases hb | ((try rw [hb]) <;> (try simp at hb) <;> go_prune <;> (try (with_reducible replace hb := eqPair hb)))) | (((with_reducible refine gbox ?_); first | refine w_boxA I (by rfl) ?_ | refine w_box1 I (by (conv => lhs; whnf) <;> rfl) (by rfl) ?_); clear I; intro g w I) | ((with_reducible refine galloc ?_); refine w_alloc I ?_; clear I; intro g w I) | ((with_reducible refine gload ?_); first | refine w_loadB I (by rfl) (by first | (with_reducible repeat (first | exact .here | apply At.there)); done | repeat (first | exact .here | apply At.there)) (by rfl) ?_ | refine w_loadBR I (by rfl) (by first | (with_reducible repeat (first | exact .here | apply At.there)); done | repeat (first | exact .here | apply At.there)) (by rfl) ?_ | refine w_load0 I (by rfl) (by assumption) ?_) | ((with_reducible refine gstore ?_); (first | refine w_storeB I (by rfl) (by (conv => lhs; whnf) <;> rfl) (by first | (with_reducible repeat (first | exact .here | apply Upd.there)); done | repeat (first | exact .here | apply Upd.there)) (by rfl) (by rfl) (by simp only [List.set_cons_zero, List.set_cons_succ] <;> rfl) ?_ | refine w_storeBR I (by rfl) (by rfl) (by first | (with_reducible repeat (first | exact .here | apply Upd.there)); done | repeat (first | exact .here | apply Upd.there)) (by rfl) (by rfl) (by rfl) ?_); clear I; intro w I)) | (go_at_call 44; go_must (refine (octets_RDone gr s _ _ _ _ I (by first | (with_reducible repeat (first | exact .here | apply At.there)); done | repeat (first | exact .here | apply At.there))).mono ?_; rintro _ w1 ⟨rfl, rfl⟩; rw [HDn.out])))
            exact ret_2 rfl (by first | (exact ResV.t _ (by rfl)) | (exact ResV.row I (by rfl) (by first | (with_reducible repeat (first | exact .here | apply At.there)); done | repeat (first | exact .here | apply At.there)) (by rfl)) | (exact ResV.one I (by rfl) (by first | (with_reducible repeat (first | exact .here | apply At.there)); done | repeat (first | exact .here | apply At.there)))) (by first | (exact ResV.t _ (by rfl)) | (exact ResV.row I (by rfl) (by first | (with_reducible repeat (first | exact .here | apply At.there)); done | repeat (first | exact .here | apply At.there)) (by rfl)) | (exact ResV.one I (by rfl) (by first | (with_reducible repeat (first | exact .here | apply At.there)); done | repeat (first | exact .here | apply At.there)))) rfl ⟨none, 0, 0, by rw [HF.out]; rfl, by rw [HF.out]; exact I.nil.nilOwn _ _ _⟩
  · obtain rfl : mx = 0 := (HMC.out.resolve_right (by omega)).2
    have I2 : St w0 _ [Re gr s1, Blk ga (Cmd.cells []) 50, Blk g5 [.int .i64 (k : Int), .int .i64 0, .int .i64 0, .int .i64 0, .int .i64 0, .int .i64 0, .slice none 0 0] 25, Blk g2 [.int .i64 0, .int .i64 0, .int .i64 0, .int .i64 0, .int .i64 0, .int .i64 0, .slice none 0 0] 25] := ((I.take (A := Blk g5 [.int .i64 (k : Int), .int .i64 0, .int .i64 0, .int .i64 0, .int .i64 0, .int .i64 0, .slice none 0 0] 25) (by first | (with_reducible repeat (first | exact .here | apply At.there)); done | repeat (first | exact .here | apply At.there))).take (A := Blk ga (Cmd.cells []) 50) (.there .here)).take (A := Re gr s1) (by first | (with_reducible repeat (first | exact .here | apply At.there)); done | repeat (first | exact .here | apply At.there))
    clear I
    go_loopw [18] (fun i wr => i = .int .i64 0 ∧ St w0 wr [Re gr s1, Blk ga (Cmd.cells []) 50, Blk g5 [.int .i64 (k : Int), .int .i64 0, .int .i64 0, .int .i64 0, .int .i64 0, .int .i64 0, .slice none 0 0] 25, Blk g2 [.int .i64 0, .int .i64 0, .int .i64 0, .int .i64 0, .int .i64 0, .int .i64 0, .slice none 0 0] 25]) (fun _ _ => 0)
    case atStart => exact ⟨rfl, I2⟩
    case round =>
      clear I2
      obtain ⟨rfl, I⟩ := hrel
      rename World => wr
      obtain ⟨L, hLe⟩ : ∃ L : List Int, L = [] := ⟨_, rfl⟩
      rw [← hLe] at I HI0
      have HL := HI0
      have HsL : Hid (s1.1.length ≤ 1000000) := Lib.hid (by have := HIL.out 0; rw [HL.out] at this; exact this)
      generalize s1 = s at *
      have hlt : True := trivial
      have hlt3 : True := trivial
      have hj : True := trivial
      have HLl : True := trivial
      clear hLe
      clear HIL HIn HIs HI0
      go_upto_region 9 with (first | ((with_reducible refine gguard ?_); (first | refine w_guardT (by rfl) (fun hb => ?_) (fun hb => ?_) | refine w_guardF (by rfl) (fun hb => ?_) (fun hb => ?_)) <;> first | (cases hb; done) | cases hb | ((try rw [hb]) <;> (try simp at hb) <;> go_prune <;> (try (with_reducible replace hb := eqPair hb)))) | (((with_reducible refine gbox ?_); first | refine w_boxA I (by rfl) ?_ | refine w_box1 I (by (conv => lhs; whnf) <;> rfl) (by rfl) ?_); clear I; intro g w I) | ((with_reducible refine galloc ?_); refine w_alloc I ?_; clear I; intro g w I) | ((with_reducible refine gload ?_); first | refine w_loadB I (by rfl) (by first | (with_reducible repeat (first | exact .here | apply At.there)); done | repeat (first | exact .here | apply At.there)) (by rfl) ?_ | refine w_loadBR I (by rfl) (by first | (with_reducible repeat (first | exact .here | apply At.there)); done | repeat (first | exact .here | apply At.there)) (by rfl) ?_ | refine w_load0 I (by rfl) (by assumption) ?_) | ((with_reducible refine gstore ?_); (first | refine w_storeB I (by rfl) (by (conv => lhs; whnf) <;> rfl) (by first | (with_reducible repeat (first | exact .here | apply Upd.there)); done | repeat (first | exact .here | apply Upd.there)) (by rfl) (by rfl) (by simp only [List.set_cons_zero, List.set_cons_succ] <;> rfl) ?_ | refine w_storeBR I (by rfl) (by rfl) (by first | (with_reducible repeat (first | exact .here | apply Upd.there)); done | repeat (first | exact .here | apply Upd.there)) (by rfl) (by rfl) (by rfl) ?_); clear I; intro w I))
      rw [HL.out] at HD
      dsimp only at HD
      have HC : Hid (Cmd.com (k : Int) L = ⟨k, L.getD 0 0, L.getD 1 0, L.getD 2 0, L.getD 3 0, L.getD 4 0⟩) := Lib.hid rfl
      rw [HC.out] at HD
      unfold Cmd.cells at I
      clear HC HLl
      generalize L.getD 0 0 = x0 at *
      generalize L.getD 1 0 = x1 at *
      generalize L.getD 2 0 = x2 at *
      generalize L.getD 3 0 = x3 at *
      generalize L.getD 4 0 = x4 at *
      have hne : g5 ≠ ga := by
        intro e
        subst e
        have h1 := I.blk (g := g5) (t := 25) (.there (.there .here))
        have h2 := I.blk (g := g5) (t := 50) (.there .here)
        rw [h1] at h2
        injection h2 with h2
        injection h2 with _ h2
        exact absurd h2 (by decide)
      have hne2 : ga ≠ g5 := fun e => hne e.symm
      go_cut [] from 26 to 40 (fun wx => St w0 wx [Re gr s, Blk ga [.int .i64 x0, .int .i64 x1, .int .i64 x2, .int .i64 x3, .int .i64 x4] 50, Blk g5 [.int .i64 (k : Int), .int .i64 x0, .int .i64 x1, .int .i64 x2, .int .i64 x3, .int .i64 x4, .slice none 0 0] 25, Blk g2 [.int .i64 0, .int .i64 0, .int .i64 0, .int .i64 0, .int .i64 0, .int .i64 0, .slice none 0 0] 25])
      case first =>
        have F := I.facts
        dsimp only [AllF, Asr.facts, Blk, OwnS] at F
        go_big_region
        have I5 := (((((I.set (g := g5) (i := 1) (v := .int .i64 x0) (by first | (with_reducible repeat (first | exact .here | apply Upd.there)); done | repeat (first | exact .here | apply Upd.there)) rfl).set (g := g5) (i := 2) (v := .int .i64 x1) (by first | (with_reducible repeat (first | exact .here | apply Upd.there)); done | repeat (first | exact .here | apply Upd.there)) rfl).set (g := g5) (i := 3) (v := .int .i64 x2) (by first | (with_reducible repeat (first | exact .here | apply Upd.there)); done | repeat (first | exact .here | apply Upd.there)) rfl).set (g := g5) (i := 4) (v := .int .i64 x3) (by first | (with_reducible repeat (first | exact .here | apply Upd.there)); done | repeat (first | exact .here | apply Upd.there)) rfl).set (g := g5) (i := 5) (v := .int .i64 x4) (by first | (with_reducible repeat (first | exact .here | apply Upd.there)); done | repeat (first | exact .here | apply Upd.there)) rfl).drew
        simp only [List.set_cons_zero, List.set_cons_succ] at I5
        go_wp2_with fail
        go_meet
        case rel => exact I5
      case rest =>
      clear I hne hne2
      have I := hcut
      clear hcut HMC hlt hlt3 hj HN hn5 HNm hmx5 HL
      by_cases hk0 : (k : Int) = 0
      · have hkb : ((k : Int) == 0) = true := by simpa using hk0
        obtain ⟨q, hq⟩ : ∃ q, Oct.run s = q := ⟨_, rfl⟩
        have HRn := Lib.hid hq
        rw [if_pos hk0, hq] at HD
        have hbl : q.1.length ≤ 9223372036854775807 := by
          have h1 : (Oct.run s).1.length ≤ s.1.length := by
            show (Oct.take (Oct.num s 4).2 (Oct.num s 4).1).1.length ≤ _
            refine Nat.le_trans ?_ (Cmd.num_left s 4)
            unfold Oct.take
            split
            · exact Nat.zero_le _
            · split
              · exact Nat.zero_le _
              · rw [List.length_take]; omega
          rw [hq] at h1
          have := HsL.out
          omega
        obtain ⟨bs, s2⟩ := q
        dsimp only at HD hbl
        have HbL := Lib.hid hbl
        clear hk0 hq hbl
        by_cases hdz : Oct.done s2 = 0
        · have HDn := Lib.hid hdz
          cases hrt : Cmd.right ⟨k, x0, x1, x2, x3, x4⟩ bs with
          | false =>
            have HRt := Lib.hid hrt
            have HF : Hid (Cmd.decode b = ((Cmd.zero, []), 2)) := Lib.hid (HD.out.trans (if_neg (by rw [hrt]; simp)))
            clear hdz hrt HD
            go_wp2_with (first | (first | ((with_reducible refine gguard ?_); (first | refine w_guardT (by rfl) (fun hb => ?_) (fun hb => ?_) | refine w_guardF (by rfl) (fun hb => ?_) (fun hb => ?_)) <;> first | (cases hb; done) | cases hb | ((try rw [hb]) <;> (try simp at hb) <;> go_prune <;> (try (with_reducible replace hb := eqPair hb)))) | (((with_reducible refine gbox ?_); first | refine w_boxA I (by rfl) ?_ | refine w_box1 I (by (conv => lhs; whnf) <;> rfl) (by rfl) ?_); clear I; intro g w I) | ((with_reducible refine galloc ?_); refine w_alloc I ?_; clear I; intro g w I) | ((with_reducible refine gload ?_); first | refine w_loadB I (by rfl) (by first | (with_reducible repeat (first | exact .here | apply At.there)); done | repeat (first | exact .here | apply At.there)) (by rfl) ?_ | refine w_loadBR I (by rfl) (by first | (with_reducible repeat (first | exact .here | apply At.there)); done | repeat (first | exact .here | apply At.there)) (by rfl) ?_ | refine w_load0 I (by rfl) (by assumption) ?_) | ((with_reducible refine gstore ?_); (first | refine w_storeB I (by rfl) (by (conv => lhs; whnf) <;> rfl) (by first | (with_reducible repeat (first | exact .here | apply Upd.there)); done | repeat (first | exact .here | apply Upd.there)) (by rfl) (by rfl) (by simp only [List.set_cons_zero, List.set_cons_succ] <;> rfl) ?_ | refine w_storeBR I (by rfl) (by rfl) (by first | (with_reducible repeat (first | exact .here | apply Upd.there)); done | repeat (first | exact .here | apply Upd.there)) (by rfl) (by rfl) (by rfl) ?_); clear I; intro w I)) | (go_at_call 43; go_must (refine (octets_RRun gr s HsL.out _ _ _ _ I (by first | (with_reducible repeat (first | exact .here | apply At.there)); done | repeat (first | exact .here | apply At.there))).mono ?_; rintro _ w1 ⟨A9, m9, c9, rfl, S⟩; clear I; have I := S; clear S; rw [HRn.out] at I; obtain ⟨_, c8, e8, _⟩ := (I.own .here).reads encB_len; injection e8 with e7 e8 e9; subst e7 e8 e9)) | (go_at_call 44; go_must (refine (octets_RDone gr s2 _ _ _ _ I (by first | (with_reducible repeat (first | exact .here | apply At.there)); done | repeat (first | exact .here | apply At.there))).mono ?_; rintro _ w1 ⟨rfl, rfl⟩; rw [HDn.out])) | (go_at_call 16; go_must (refine (command_Right ⟨k, x0, x1, x2, x3, x4⟩ A9 bs.length c9 bs rfl HbL.out _ (hT.fr I.fr)).mono ?_; rintro _ w1 ⟨rfl, hf⟩; rw [HRt.out]; replace I := I.still hf; clear hf)))
            exact ret_2 rfl (by first | (exact ResV.t _ (by rfl)) | (exact ResV.row I (by rfl) (by first | (with_reducible repeat (first | exact .here | apply At.there)); done | repeat (first | exact .here | apply At.there)) (by rfl)) | (exact ResV.one I (by rfl) (by first | (with_reducible repeat (first | exact .here | apply At.there)); done | repeat (first | exact .here | apply At.there)))) (by first | (exact ResV.t _ (by rfl)) | (exact ResV.row I (by rfl) (by first | (with_reducible repeat (first | exact .here | apply At.there)); done | repeat (first | exact .here | apply At.there)) (by rfl)) | (exact ResV.one I (by rfl) (by first | (with_reducible repeat (first | exact .here | apply At.there)); done | repeat (first | exact .here | apply At.there)))) rfl ⟨none, 0, 0, by rw [HF.out]; rfl, by rw [HF.out]; exact I.nil.nilOwn _ _ _⟩
          | true =>
            have HRt := Lib.hid hrt
            have HF : Hid (Cmd.decode b = ((⟨k, x0, x1, x2, x3, x4⟩, bs), 0)) := Lib.hid (HD.out.trans (if_pos ⟨hdz, hrt⟩))
            clear hdz hrt HD
            go_wp2_with (first | (first | ((with_reducible refine gguard ?_); (first | refine w_guardT (by rfl) (fun hb => ?_) (fun hb => ?_) | refine w_guardF (by rfl) (fun hb => ?_) (fun hb => ?_)) <;> first | (cases hb; done) | cases hb | ((try rw [hb]) <;> (try simp at hb) <;> go_prune <;> (try (with_reducible replace hb := eqPair hb)))) | (((with_reducible refine gbox ?_); first | refine w_boxA I (by rfl) ?_ | refine w_box1 I (by (conv => lhs; whnf) <;> rfl) (by rfl) ?_); clear I; intro g w I) | ((with_reducible refine galloc ?_); refine w_alloc I ?_; clear I; intro g w I) | ((with_reducible refine gload ?_); first | refine w_loadB I (by rfl) (by first | (with_reducible repeat (first | exact .here | apply At.there)); done | repeat (first | exact .here | apply At.there)) (by rfl) ?_ | refine w_loadBR I (by rfl) (by first | (with_reducible repeat (first | exact .here | apply At.there)); done | repeat (first | exact .here | apply At.there)) (by rfl) ?_ | refine w_load0 I (by rfl) (by assumption) ?_) | ((with_reducible refine gstore ?_); (first | refine w_storeB I (by rfl) (by (conv => lhs; whnf) <;> rfl) (by first | (with_reducible repeat (first | exact .here | apply Upd.there)); done | repeat (first | exact .here | apply Upd.there)) (by rfl) (by rfl) (by simp only [List.set_cons_zero, List.set_cons_succ] <;> rfl) ?_ | refine w_storeBR I (by rfl) (by rfl) (by first | (with_reducible repeat (first | exact .here | apply Upd.there)); done | repeat (first | exact .here | apply Upd.there)) (by rfl) (by rfl) (by rfl) ?_); clear I; intro w I)) | (go_at_call 43; go_must (refine (octets_RRun gr s HsL.out _ _ _ _ I (by first | (with_reducible repeat (first | exact .here | apply At.there)); done | repeat (first | exact .here | apply At.there))).mono ?_; rintro _ w1 ⟨A9, m9, c9, rfl, S⟩; clear I; have I := S; clear S; rw [HRn.out] at I; obtain ⟨_, c8, e8, _⟩ := (I.own .here).reads encB_len; injection e8 with e7 e8 e9; subst e7 e8 e9)) | (go_at_call 44; go_must (refine (octets_RDone gr s2 _ _ _ _ I (by first | (with_reducible repeat (first | exact .here | apply At.there)); done | repeat (first | exact .here | apply At.there))).mono ?_; rintro _ w1 ⟨rfl, rfl⟩; rw [HDn.out])) | (go_at_call 16; go_must (refine (command_Right ⟨k, x0, x1, x2, x3, x4⟩ A9 bs.length c9 bs rfl HbL.out _ (hT.fr I.fr)).mono ?_; rintro _ w1 ⟨rfl, hf⟩; rw [HRt.out]; replace I := I.still hf; clear hf)))
            exact ret_2 rfl (by first | (exact ResV.t _ (by rfl)) | (exact ResV.row I (by rfl) (by first | (with_reducible repeat (first | exact .here | apply At.there)); done | repeat (first | exact .here | apply At.there)) (by rfl)) | (exact ResV.one I (by rfl) (by first | (with_reducible repeat (first | exact .here | apply At.there)); done | repeat (first | exact .here | apply At.there)))) (by first | (exact ResV.t _ (by rfl)) | (exact ResV.row I (by rfl) (by first | (with_reducible repeat (first | exact .here | apply At.there)); done | repeat (first | exact .here | apply At.there)) (by rfl)) | (exact ResV.one I (by rfl) (by first | (with_reducible repeat (first | exact .here | apply At.there)); done | repeat (first | exact .here | apply At.there)))) rfl ⟨_, _, _, by rw [HF.out]; rfl, by rw [HF.out]; exact I.pick (by first | (with_reducible repeat (first | exact .here | apply At.there)); done | repeat (first | exact .here | apply At.there))⟩
        · obtain ⟨dz, hdq⟩ : ∃ dz : Int, Oct.done s2 = dz := ⟨_, rfl⟩
          have HDn := Lib.hid hdq
          have HF : Hid (Cmd.decode b = ((Cmd.zero, []), 2)) := Lib.hid (HD.out.trans (if_neg (fun h => hdz h.1)))
          rw [hdq] at hdz
          have hdb : (dz != 0) = true := by simpa using hdz
          clear hdz hdq HD
          go_wp2_with (first | (first | ((with_reducible refine gguard ?_); (first | refine w_guardT (by rfl) (fun hb => ?_) (fun hb => ?_) | refine w_guardF (by rfl) (fun hb => ?_) (fun hb => ?_)) <;> first | (cases hb; done) | cases hb | ((try rw [hb]) <;> (try simp at hb) <;> go_prune <;> (try (with_reducible replace hb := eqPair hb)))) | (((with_reducible refine gbox ?_); first | refine w_boxA I (by rfl) ?_ | refine w_box1 I (by (conv => lhs; whnf) <;> rfl) (by rfl) ?_); clear I; intro g w I) | ((with_reducible refine galloc ?_); refine w_alloc I ?_; clear I; intro g w I) | ((with_reducible refine gload ?_); first | refine w_loadB I (by rfl) (by first | (with_reducible repeat (first | exact .here | apply At.there)); done | repeat (first | exact .here | apply At.there)) (by rfl) ?_ | refine w_loadBR I (by rfl) (by first | (with_reducible repeat (first | exact .here | apply At.there)); done | repeat (first | exact .here | apply At.there)) (by rfl) ?_ | refine w_load0 I (by rfl) (by assumption) ?_) | ((with_reducible refine gstore ?_); (first | refine w_storeB I (by rfl) (by (conv => lhs; whnf) <;> rfl) (by first | (with_reducible repeat (first | exact .here | apply Upd.there)); done | repeat (first | exact .here | apply Upd.there)) (by rfl) (by rfl) (by simp only [List.set_cons_zero, List.set_cons_succ] <;> rfl) ?_ | refine w_storeBR I (by rfl) (by rfl) (by first | (with_reducible repeat (first | exact .here | apply Upd.there)); done | repeat (first | exact .here | apply Upd.there)) (by rfl) (by rfl) (by rfl) ?_); clear I; intro w I)) | (go_at_call 43; go_must (refine (octets_RRun gr s HsL.out _ _ _ _ I (by first | (with_reducible repeat (first | exact .here | apply At.there)); done | repeat (first | exact .here | apply At.there))).mono ?_; rintro _ w1 ⟨A9, m9, c9, rfl, S⟩; clear I; have I := S; clear S; rw [HRn.out] at I; obtain ⟨_, c8, e8, _⟩ := (I.own .here).reads encB_len; injection e8 with e7 e8 e9; subst e7 e8 e9)) | (go_at_call 44; go_must (refine (octets_RDone gr s2 _ _ _ _ I (by first | (with_reducible repeat (first | exact .here | apply At.there)); done | repeat (first | exact .here | apply At.there))).mono ?_; rintro _ w1 ⟨rfl, rfl⟩; rw [HDn.out])))
          exact ret_2 rfl (by first | (exact ResV.t _ (by rfl)) | (exact ResV.row I (by rfl) (by first | (with_reducible repeat (first | exact .here | apply At.there)); done | repeat (first | exact .here | apply At.there)) (by rfl)) | (exact ResV.one I (by rfl) (by first | (with_reducible repeat (first | exact .here | apply At.there)); done | repeat (first | exact .here | apply At.there)))) (by first | (exact ResV.t _ (by rfl)) | (exact ResV.row I (by rfl) (by first | (with_reducible repeat (first | exact .here | apply At.there)); done | repeat (first | exact .here | apply At.there)) (by rfl)) | (exact ResV.one I (by rfl) (by first | (with_reducible repeat (first | exact .here | apply At.there)); done | repeat (first | exact .here | apply At.there)))) rfl ⟨none, 0, 0, by rw [HF.out]; rfl, by rw [HF.out]; exact I.nil.nilOwn _ _ _⟩
      · have hkb : ((k : Int) == 0) = false := by simpa using hk0
        rw [if_neg hk0] at HD
        dsimp only at HD
        have HbL : Hid (0 ≤ 9223372036854775807) := Lib.hid (by decide)
        clear hk0
        by_cases hdz : Oct.done s = 0
        · have HDn := Lib.hid hdz
          cases hrt : Cmd.right ⟨k, x0, x1, x2, x3, x4⟩ [] with
          | false =>
            have HRt := Lib.hid hrt
            have HF : Hid (Cmd.decode b = ((Cmd.zero, []), 2)) := Lib.hid (HD.out.trans (if_neg (by rw [hrt]; simp)))
            clear hdz hrt HD
            go_wp2_with (first | (first | ((with_reducible refine gguard ?_); (first | refine w_guardT (by rfl) (fun hb => ?_) (fun hb => ?_) | refine w_guardF (by rfl) (fun hb => ?_) (fun hb => ?_)) <;> first | (cases hb; done) | cases hb | ((try rw [hb]) <;> (try simp at hb) <;> go_prune <;> (try (with_reducible replace hb := eqPair hb)))) | (((with_reducible refine gbox ?_); first | refine w_boxA I (by rfl) ?_ | refine w_box1 I (by (conv => lhs; whnf) <;> rfl) (by rfl) ?_); clear I; intro g w I) | ((with_reducible refine galloc ?_); refine w_alloc I ?_; clear I; intro g w I) | ((with_reducible refine gload ?_); first | refine w_loadB I (by rfl) (by first | (with_reducible repeat (first | exact .here | apply At.there)); done | repeat (first | exact .here | apply At.there)) (by rfl) ?_ | refine w_loadBR I (by rfl) (by first | (with_reducible repeat (first | exact .here | apply At.there)); done | repeat (first | exact .here | apply At.there)) (by rfl) ?_ | refine w_load0 I (by rfl) (by assumption) ?_) | ((with_reducible refine gstore ?_); (first | refine w_storeB I (by rfl) (by (conv => lhs; whnf) <;> rfl) (by first | (with_reducible repeat (first | exact .here | apply Upd.there)); done | repeat (first | exact .here | apply Upd.there)) (by rfl) (by rfl) (by simp only [List.set_cons_zero, List.set_cons_succ] <;> rfl) ?_ | refine w_storeBR I (by rfl) (by rfl) (by first | (with_reducible repeat (first | exact .here | apply Upd.there)); done | repeat (first | exact .here | apply Upd.there)) (by rfl) (by rfl) (by rfl) ?_); clear I; intro w I)) | (go_at_call 44; go_must (refine (octets_RDone gr s _ _ _ _ I (by first | (with_reducible repeat (first | exact .here | apply At.there)); done | repeat (first | exact .here | apply At.there))).mono ?_; rintro _ w1 ⟨rfl, rfl⟩; rw [HDn.out])) | (go_at_call 16; go_must (refine (command_Right ⟨k, x0, x1, x2, x3, x4⟩ none 0 0 [] rfl HbL.out _ (hT.fr I.fr)).mono ?_; rintro _ w1 ⟨rfl, hf⟩; rw [HRt.out]; replace I := I.still hf; clear hf)))
            exact ret_2 rfl (by first | (exact ResV.t _ (by rfl)) | (exact ResV.row I (by rfl) (by first | (with_reducible repeat (first | exact .here | apply At.there)); done | repeat (first | exact .here | apply At.there)) (by rfl)) | (exact ResV.one I (by rfl) (by first | (with_reducible repeat (first | exact .here | apply At.there)); done | repeat (first | exact .here | apply At.there)))) (by first | (exact ResV.t _ (by rfl)) | (exact ResV.row I (by rfl) (by first | (with_reducible repeat (first | exact .here | apply At.there)); done | repeat (first | exact .here | apply At.there)) (by rfl)) | (exact ResV.one I (by rfl) (by first | (with_reducible repeat (first | exact .here | apply At.there)); done | repeat (first | exact .here | apply At.there)))) rfl ⟨none, 0, 0, by rw [HF.out]; rfl, by rw [HF.out]; exact I.nil.nilOwn _ _ _⟩
          | true =>
            have HRt := Lib.hid hrt
            have HF : Hid (Cmd.decode b = ((⟨k, x0, x1, x2, x3, x4⟩, []), 0)) := Lib.hid (HD.out.trans (if_pos ⟨hdz, hrt⟩))
            clear hdz hrt HD
            go_wp2_with (first | (first | ((with_reducible refine gguard ?_); (first | refine w_guardT (by rfl) (fun hb => ?_) (fun hb => ?_) | refine w_guardF (by rfl) (fun hb => ?_) (fun hb => ?_)) <;> first | (cases hb; done) | cases hb | ((try rw [hb]) <;> (try simp at hb) <;> go_prune <;> (try (with_reducible replace hb := eqPair hb)))) | (((with_reducible refine gbox ?_); first | refine w_boxA I (by rfl) ?_ | refine w_box1 I (by (conv => lhs; whnf) <;> rfl) (by rfl) ?_); clear I; intro g w I) | ((with_reducible refine galloc ?_); refine w_alloc I ?_; clear I; intro g w I) | ((with_reducible refine gload ?_); first | refine w_loadB I (by rfl) (by first | (with_reducible repeat (first | exact .here | apply At.there)); done | repeat (first | exact .here | apply At.there)) (by rfl) ?_ | refine w_loadBR I (by rfl) (by first | (with_reducible repeat (first | exact .here | apply At.there)); done | repeat (first | exact .here | apply At.there)) (by rfl) ?_ | refine w_load0 I (by rfl) (by assumption) ?_) | ((with_reducible refine gstore ?_); (first | refine w_storeB I (by rfl) (by (conv => lhs; whnf) <;> rfl) (by first | (with_reducible repeat (first | exact .here | apply Upd.there)); done | repeat (first | exact .here | apply Upd.there)) (by rfl) (by rfl) (by simp only [List.set_cons_zero, List.set_cons_succ] <;> rfl) ?_ | refine w_storeBR I (by rfl) (by rfl) (by first | (with_reducible repeat (first | exact .here | apply Upd.there)); done | repeat (first | exact .here | apply Upd.there)) (by rfl) (by rfl) (by rfl) ?_); clear I; intro w I)) | (go_at_call 44; go_must (refine (octets_RDone gr s _ _ _ _ I (by first | (with_reducible repeat (first | exact .here | apply At.there)); done | repeat (first | exact .here | apply At.there))).mono ?_; rintro _ w1 ⟨rfl, rfl⟩; rw [HDn.out])) | (go_at_call 16; go_must (refine (command_Right ⟨k, x0, x1, x2, x3, x4⟩ none 0 0 [] rfl HbL.out _ (hT.fr I.fr)).mono ?_; rintro _ w1 ⟨rfl, hf⟩; rw [HRt.out]; replace I := I.still hf; clear hf)))
            exact ret_2 rfl (by first | (exact ResV.t _ (by rfl)) | (exact ResV.row I (by rfl) (by first | (with_reducible repeat (first | exact .here | apply At.there)); done | repeat (first | exact .here | apply At.there)) (by rfl)) | (exact ResV.one I (by rfl) (by first | (with_reducible repeat (first | exact .here | apply At.there)); done | repeat (first | exact .here | apply At.there)))) (by first | (exact ResV.t _ (by rfl)) | (exact ResV.row I (by rfl) (by first | (with_reducible repeat (first | exact .here | apply At.there)); done | repeat (first | exact .here | apply At.there)) (by rfl)) | (exact ResV.one I (by rfl) (by first | (with_reducible repeat (first | exact .here | apply At.there)); done | repeat (first | exact .here | apply At.there)))) rfl ⟨_, _, _, by rw [HF.out]; rfl, by rw [HF.out]; exact I.nil.nilOwn _ _ _⟩
        · obtain ⟨dz, hdq⟩ : ∃ dz : Int, Oct.done s = dz := ⟨_, rfl⟩
          have HDn := Lib.hid hdq
          have HF : Hid (Cmd.decode b = ((Cmd.zero, []), 2)) := Lib.hid (HD.out.trans (if_neg (fun h => hdz h.1)))
          rw [hdq] at hdz
          have hdb : (dz != 0) = true := by simpa using hdz
          clear hdz hdq HD
          go_wp2_with (first | (first | ((with_reducible refine gguard ?_); (first | refine w_guardT (by rfl) (fun hb => ?_) (fun hb => ?_) | refine w_guardF (by rfl) (fun hb => ?_) (fun hb => ?_)) <;> first | (cases hb; done) | cases hb | ((try rw [hb]) <;> (try simp at hb) <;> go_prune <;> (try (with_reducible replace hb := eqPair hb)))) | (((with_reducible refine gbox ?_); first | refine w_boxA I (by rfl) ?_ | refine w_box1 I (by (conv => lhs; whnf) <;> rfl) (by rfl) ?_); clear I; intro g w I) | ((with_reducible refine galloc ?_); refine w_alloc I ?_; clear I; intro g w I) | ((with_reducible refine gload ?_); first | refine w_loadB I (by rfl) (by first | (with_reducible repeat (first | exact .here | apply At.there)); done | repeat (first | exact .here | apply At.there)) (by rfl) ?_ | refine w_loadBR I (by rfl) (by first | (with_reducible repeat (first | exact .here | apply At.there)); done | repeat (first | exact .here | apply At.there)) (by rfl) ?_ | refine w_load0 I (by rfl) (by assumption) ?_) | ((with_reducible refine gstore ?_); (first | refine w_storeB I (by rfl) (by (conv => lhs; whnf) <;> rfl) (by first | (with_reducible repeat (first | exact .here | apply Upd.there)); done | repeat (first | exact .here | apply Upd.there)) (by rfl) (by rfl) (by simp only [List.set_cons_zero, List.set_cons_succ] <;> rfl) ?_ | refine w_storeBR I (by rfl) (by rfl) (by first | (with_reducible repeat (first | exact .here | apply Upd.there)); done | repeat (first | exact .here | apply Upd.there)) (by rfl) (by rfl) (by rfl) ?_); clear I; intro w I)) | (go_at_call 44; go_must (refine (octets_RDone gr s _ _ _ _ I (by first | (with_reducible repeat (first | exact .here | apply At.there)); done | repeat (first | exact .here | apply At.there))).mono ?_; rintro _ w1 ⟨rfl, rfl⟩; rw [HDn.out])))
          exact ret_2 rfl (by first | (exact ResV.t _ (by rfl)) | (exact ResV.row I (by rfl) (by first | (with_reducible repeat (first | exact .here | apply At.there)); done | repeat (first | exact .here | apply At.there)) (by rfl)) | (exact ResV.one I (by rfl) (by first | (with_reducible repeat (first | exact .here | apply At.there)); done | repeat (first | exact .here | apply At.there)))) (by first | (exact ResV.t _ (by rfl)) | (exact ResV.row I (by rfl) (by first | (with_reducible repeat (first | exact .here | apply At.there)); done | repeat (first | exact .here | apply At.there)) (by rfl)) | (exact ResV.one I (by rfl) (by first | (with_reducible repeat (first | exact .here | apply At.there)); done | repeat (first | exact .here | apply At.there)))) rfl ⟨none, 0, 0, by rw [HF.out]; rfl, by rw [HF.out]; exact I.nil.nilOwn _ _ _⟩
end Go.Proofs.YtpnpgeilhafepaaDoor
