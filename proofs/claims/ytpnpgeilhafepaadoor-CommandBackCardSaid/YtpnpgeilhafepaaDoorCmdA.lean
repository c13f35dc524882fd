
/- Commands (layer 18): the live question. -/
import Derived.Test.YtpnpgeilhafepaaDoorCmdD
import Derived.Test.YtpnpgeilhafepaaDoorCmdE
import Derived.Test.YtpnpgeilhafepaaDoorCmdP
namespace Go.Proofs.YtpnpgeilhafepaaDoor
open Go.RowKit Go.Hf

namespace Cmd
def B0 : List UInt8 := [5, 0, 0, 0, 0, 0, 0, 0, 3, 255, 255, 255, 255, 255, 255, 255, 254]
def C0 : List UInt8 := [0, 0, 0, 0, 1, 7]
theorem b0_enc : encode ⟨5, 3, -2, 0, 0, 0⟩ [] = (B0, 0) := by decide +kernel
theorem c0_enc : encode ⟨0, 0, 0, 0, 0, 0⟩ [7] = (C0, 0) := by decide +kernel
theorem n0_enc : encode ⟨5, 0, 0, 1, 0, 0⟩ [] = ([], 1) := by decide +kernel
theorem b0_dec : decode B0 = ((⟨5, 3, -2, 0, 0, 0⟩, []), 0) := by decide +kernel
theorem b0_short : decode (B0.take 16) = ((zero, []), 2) := by decide +kernel
end Cmd
theorem own_b {g k m cp : Nat} {l : List UInt8} {b : UInt8} {w0 w : World} {L R : List Asr} (I : St w0 w L) (hA : At (OwnS 5 1 encB (.slice (some ⟨g, 0, none⟩) m cp) l) L R) (hb : l[k]? = some b) : w.cell? ⟨g, k, none⟩ = some (.int .u8 (b.toNat : Int)) := by
  obtain ⟨hk, rfl⟩ := List.getElem?_eq_some_iff.1 hb
  exact (I.own hA).cellB k hk
theorem cmd_enc_is (m : Com) (A : Option Addr) (n c : Nat) (bs x : List UInt8) (hx : Cmd.encode m bs = (x, 0)) (h0 : x ≠ []) (k : Nat) (hk : x.length = k) (w : World) (hB : Bytes w (.slice A n c) bs) (hT : Tab w) : Calls Tryd.prog 8 #[aggM m A n c] w fun e w' => ∃ g cp, e = .returned (.tuple #[.slice (some ⟨g, 0, none⟩) k cp, .int .i64 0]) ∧ k ≤ cp ∧ cp ≤ maxLen ∧ St w w' [OwnS 5 1 encB (.slice (some ⟨g, 0, none⟩) k cp) x] := by
  subst hk
  refine (command_Encode m A n c bs w hB hT).mono ?_
  rintro _ w1 ⟨v', rfl, S⟩
  rw [hx] at S ⊢
  obtain ⟨g, cp, rfl, _, _, hc⟩ := (S.own .here).base_of h0
  obtain ⟨_, _, e, _, hm, _⟩ := (S.own .here).reads encB_len
  injection e with _ _ e
  subst e
  exact ⟨g, cp, rfl, hc, hm, S⟩
theorem cmd_enc_no (m : Com) (A : Option Addr) (n c : Nat) (bs : List UInt8) (hx : Cmd.encode m bs = ([], 1)) (w : World) (hB : Bytes w (.slice A n c) bs) (hT : Tab w) : Calls Tryd.prog 8 #[aggM m A n c] w fun e w' => ∃ v', e = .returned (.tuple #[v', .int .i64 1]) ∧ St w w' [OwnS 5 1 encB v' []] := by
  refine (command_Encode m A n c bs w hB hT).mono ?_
  rintro _ w1 ⟨v', rfl, S⟩
  rw [hx] at S ⊢
  exact ⟨v', rfl, S⟩
theorem cmd_dec_is (v : Value) (b : List UInt8) (m : Com) (bs : List UInt8) (n : Int) (w0 : World) (h : Bytes w0 v b) (hb : b.length ≤ 10000) (hT : Tab w0) (he : Cmd.decode b = ((m, bs), n)) : Calls Tryd.prog 10 #[v] w0 fun e w' => ∃ A k c, e = .returned (.tuple #[aggM m A k c, .int .i64 n]) ∧ St w0 w' [OwnS 5 1 encB (.slice A k c) bs] := by
  have := command_Decode v b w0 h hb hT
  rw [he] at this
  exact this

set_option maxRecDepth 100000 in
set_option maxHeartbeats 4000000 in
theorem law18_alive (w0 : World) (hT : Tab w0) : Calls Tryd.prog 7 #[] w0 fun e w' => e = .returned (.bool true) ∧ Fr w0 w' := by
  have I := St.refl w0
  have HT := Lib.hid hT
  clear hT
  go_enter Tryd.func7, Tryd.ntmps7
  try dsimp only [List.append]
  go_wp2_with (first | ((with_reducible refine gload (ty := 5) ?_); first | refine w_load1 (p := ⟨gb, 0, none⟩) (by rfl) (own_b (l := Cmd.B0) I (by first | (with_reducible repeat (first | exact .here | apply At.there)); done | repeat (first | exact .here | apply At.there)) (by rfl)) ?_ | refine w_load1 (p := ⟨gb, 8, none⟩) (by rfl) (own_b (l := Cmd.B0) I (by first | (with_reducible repeat (first | exact .here | apply At.there)); done | repeat (first | exact .here | apply At.there)) (by rfl)) ?_ | refine w_load1 (p := ⟨gb, 16, none⟩) (by rfl) (own_b (l := Cmd.B0) I (by first | (with_reducible repeat (first | exact .here | apply At.there)); done | repeat (first | exact .here | apply At.there)) (by rfl)) ?_ | refine w_load1 (p := ⟨gc, 4, none⟩) (by rfl) (own_b (l := Cmd.C0) I (by first | (with_reducible repeat (first | exact .here | apply At.there)); done | repeat (first | exact .here | apply At.there)) (by rfl)) ?_ | refine w_load1 (p := ⟨gc, 5, none⟩) (by rfl) (own_b (l := Cmd.C0) I (by first | (with_reducible repeat (first | exact .here | apply At.there)); done | repeat (first | exact .here | apply At.there)) (by rfl)) ?_) | (first | ((with_reducible refine gguard ?_); (first | refine w_guardT (by rfl) (fun hb => ?_) (fun hb => ?_) | refine w_guardF (by rfl) (fun hb => ?_) (fun hb => ?_)) <;> first | (cases hb; done) | cases hb | ((try rw [hb]) <;> (try simp at hb) <;> go_prune <;> (try (with_reducible replace hb := eqPair hb)))) | (((with_reducible refine gbox ?_); first | refine w_boxA I (by rfl) ?_ | refine w_box1 I (by (conv => lhs; whnf) <;> rfl) (by rfl) ?_); clear I; intro g w I) | ((with_reducible refine galloc ?_); refine w_alloc I ?_; clear I; intro g w I) | ((with_reducible refine gload ?_); first | refine w_loadB I (by rfl) (by first | (with_reducible repeat (first | exact .here | apply At.there)); done | repeat (first | exact .here | apply At.there)) (by rfl) ?_ | refine w_loadBR I (by rfl) (by first | (with_reducible repeat (first | exact .here | apply At.there)); done | repeat (first | exact .here | apply At.there)) (by rfl) ?_ | refine w_load0 I (by rfl) (by assumption) ?_) | ((with_reducible refine gstore ?_); (first | refine w_storeB I (by rfl) (by (conv => lhs; whnf) <;> rfl) (by first | (with_reducible repeat (first | exact .here | apply Upd.there)); done | repeat (first | exact .here | apply Upd.there)) (by rfl) (by rfl) (by simp only [List.set_cons_zero, List.set_cons_succ] <;> rfl) ?_ | refine w_storeBR I (by rfl) (by rfl) (by first | (with_reducible repeat (first | exact .here | apply Upd.there)); done | repeat (first | exact .here | apply Upd.there)) (by rfl) (by rfl) (by rfl) ?_); clear I; intro w I)) | (((with_reducible refine gbs ?_); refine w_bs1 (enc := encB) (b := (7 : UInt8)) encB_len I (by rfl) (by rfl) (by rfl) ?_); clear I; intro g w I) | (go_at_call 8; ((with_reducible refine (cmd_enc_is ⟨5, 3, -2, 0, 0, 0⟩ none 0 0 [] Cmd.B0 Cmd.b0_enc (by decide) 17 rfl _ (SlV.nil _ _ _) (HT.out.fr I.fr)).mono ?_); rintro _ w1 ⟨gb, cb, rfl, hcb, hcbm, S⟩; replace I := I.then1 S; clear S)) | (go_at_call 8; ((with_reducible refine (cmd_enc_is ⟨0, 0, 0, 0, 0, 0⟩ _ _ _ [7] Cmd.C0 Cmd.c0_enc (by decide) 6 rfl _ (I.slv (by first | (with_reducible repeat (first | exact .here | apply At.there)); done | repeat (first | exact .here | apply At.there)) encB_len) (HT.out.fr I.fr)).mono ?_); rintro _ w1 ⟨gc, cc, rfl, hcc, hccm, S⟩; replace I := I.then1 S; clear S)) | (go_at_call 8; ((with_reducible refine (cmd_enc_no ⟨5, 0, 0, 1, 0, 0⟩ none 0 0 [] Cmd.n0_enc _ (SlV.nil _ _ _) (HT.out.fr I.fr)).mono ?_); rintro _ w1 ⟨vn, rfl, S⟩; replace I := I.then0 S.nil; clear S)) | (go_at_call 10; ((with_reducible refine (cmd_dec_is _ Cmd.B0 _ _ _ _ (I.slv (by first | (with_reducible repeat (first | exact .here | apply At.there)); done | repeat (first | exact .here | apply At.there)) encB_len) (by decide) (HT.out.fr I.fr) Cmd.b0_dec).mono ?_); rintro _ w1 ⟨A1, k1, c1, rfl, S⟩; replace I := I.then0 S.nil; clear S)) | (go_at_call 10; ((with_reducible refine (cmd_dec_is _ (Cmd.B0.take 16) _ _ _ _ (SlV.take (I.slv (l := Cmd.B0) (by first | (with_reducible repeat (first | exact .here | apply At.there)); done | repeat (first | exact .here | apply At.there)) encB_len) 16 (by decide)) (by decide) (HT.out.fr I.fr) Cmd.b0_short).mono ?_); rintro _ w1 ⟨A2, k2, c2, rfl, S⟩; replace I := I.then0 S.nil; clear S)) | (go_at_call 14; go_must (refine (command_Numbers _ _ (HT.out.fr I.fr)).mono ?_; rintro _ w1 ⟨rfl, rfl⟩; skip)))
  all_goals try omega
  trace_state
  go_ret
  exact ⟨rfl, I.fr⟩
end Go.Proofs.YtpnpgeilhafepaaDoor
