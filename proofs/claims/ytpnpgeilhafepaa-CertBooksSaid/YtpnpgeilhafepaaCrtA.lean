
/- Certificates (layer 17): the live question. -/
import Derived.Test.YtpnpgeilhafepaaCrtF
import Derived.Test.YtpnpgeilhafepaaStN
namespace Go.Proofs.Ytpnpgeilhafepaa
open Go.RowKit Go.Hf

namespace Crt
def B0 : List UInt8 := Crc.sealed (raw ⟨9, 1, 2, 3, 4, 5, 258, 300⟩)
theorem b0_len : B0.length = 66 := by decide +kernel
theorem b0_enc : encode ⟨9, 1, 2, 3, 4, 5, 258, 300⟩ = (B0, 0) := by decide +kernel
theorem b0_no : encode ⟨0, 0, 0, 0, -1, 0, 0, 0⟩ = ([], 1) := by decide +kernel
theorem b0_dec : decode B0 = (⟨9, 1, 2, 3, 4, 5, 258, 300⟩, 0) := by decide +kernel
theorem b0_short : decode (B0.take 65) = (zero, 2) := by decide +kernel
def B1 : List UInt8 := B0.set 40 7
theorem b1_len : B1.length = 66 := by decide +kernel
theorem b1_dec : decode B1 = (zero, 3) := by decide +kernel
theorem b0_40 : B0[40]? = some 0 := by decide +kernel
theorem b1_54 : B1[54]? = some 1 := by decide +kernel
theorem b1_55 : B1[55]? = some 2 := by decide +kernel
theorem i0 : issue [] ⟨9, 1, 2, 3, 4, 5, 258, 300⟩ = ([⟨1, 1, 2, 3, 4, 5, 258, 300⟩], 1, 0) := by decide +kernel
theorem g0 : get [⟨1, 1, 2, 3, 4, 5, 258, 300⟩] 1 = (⟨1, 1, 2, 3, 4, 5, 258, 300⟩, 0) := by decide +kernel
theorem f0 : flags [300] [⟨1, 1, 2, 3, 4, 5, 258, 300⟩] (List.length ([⟨1, 1, 2, 3, 4, 5, 258, 300⟩] : List Cert)) = [] := by decide +kernel
theorem f1 : flags [301, 5] [⟨1, 1, 2, 3, 4, 5, 258, 300⟩] (List.length ([⟨1, 1, 2, 3, 4, 5, 258, 300⟩] : List Cert)) = [1] := by decide +kernel
end Crt
theorem own_b {g k m cp : Nat} {l : List UInt8} {b : UInt8} {w0 w : World} {L R : List Asr} (I : St w0 w L) (hA : At (OwnS 5 1 encB (.slice (some ⟨g, 0, none⟩) m cp) l) L R) (hb : l[k]? = some b) : w.cell? ⟨g, k, none⟩ = some (.int .u8 (b.toNat : Int)) := by
  obtain ⟨hk, rfl⟩ := List.getElem?_eq_some_iff.1 hb
  exact (I.own hA).cellB k hk
theorem encode_B0 (w : World) : Calls Try.prog 19 #[aggC ⟨9, 1, 2, 3, 4, 5, 258, 300⟩] w fun e w' => ∃ g cp, e = .returned (.tuple #[.slice (some ⟨g, 0, none⟩) 66 cp, .int .i64 0]) ∧ 66 ≤ cp ∧ cp ≤ maxLen ∧ St w w' [OwnS 5 1 encB (.slice (some ⟨g, 0, none⟩) 66 cp) Crt.B0] := by
  refine (cert_Encode _ w).mono ?_
  rintro _ w1 ⟨v', rfl, S⟩
  rw [Crt.b0_enc] at S ⊢
  obtain ⟨g, cp, rfl, _, _, hc⟩ := (S.own .here).base_of (by intro h; have h : Crt.B0 = [] := h; have := Crt.b0_len; rw [h] at this; cases this)
  obtain ⟨_, _, e, _, hm, _⟩ := (S.own .here).reads encB_len
  injection e with _ _ e
  subst e
  rw [Crt.b0_len] at hc S
  exact ⟨g, cp, by rw [Crt.b0_len], hc, hm, S⟩
theorem encode_no (w : World) : Calls Try.prog 19 #[aggC ⟨0, 0, 0, 0, -1, 0, 0, 0⟩] w fun e w' => ∃ v', e = .returned (.tuple #[v', .int .i64 1]) ∧ St w w' [] := by
  refine (cert_Encode _ w).mono ?_
  rintro _ w1 ⟨v', rfl, S⟩
  rw [Crt.b0_no]
  exact ⟨v', rfl, S.nil⟩
theorem decode_is (v : Value) (b : List UInt8) (c : Cert) (n : Int) (w0 : World) (h : Bytes w0 v b) (hb : b.length ≤ 1000) (he : Crt.decode b = (c, n)) : Calls Try.prog 21 #[v] w0 fun e w' => e = .returned (.tuple #[aggC c, .int .i64 n]) ∧ Fr w0 w' := by
  have := cert_Decode v b w0 h hb
  rw [he] at this
  exact this
theorem flagged_is (g : Nat) (l : List Cert) (vn : Value) (now out : List Int) (wb w : World) (L R : List Asr) (I : St wb w L) (hA : At (BkC g l) L R) (hN : Ints w vn now) (hl : l.length ≤ 1000) (he : Crt.flags now l l.length = out) :
    Calls Try.prog 31 #[.pointer (some ⟨g, 0, none⟩), vn] w fun en w' => ∃ A c, en = .returned (.slice A out.length c) ∧ out.length ≤ c ∧ St w w' [OwnS 3 1 encI (.slice A out.length c) out] := by
  refine (cert_Flagged g l hl vn now w L R wb w I hA hN rfl).mono ?_
  rintro _ w1 ⟨v', rfl, S⟩
  rw [he] at S
  obtain ⟨A, c, rfl, hc, _⟩ := (S.own .here).reads encI_len
  exact ⟨A, c, rfl, hc, S⟩

set_option maxRecDepth 100000 in
set_option maxHeartbeats 4000000 in
theorem law17_alive (w0 : World) : Calls Try.prog 17 #[] w0 fun e w' => e = .returned (.bool true) ∧ Fr w0 w' := by
  have he := eq_cert ⟨1, 1, 2, 3, 4, 5, 258, 300⟩ ⟨1, 1, 2, 3, 4, 5, 258, 300⟩
  rw [decide_eq_true rfl] at he
  have I := St.refl w0
  go_enter Try.func17, Try.ntmps17
  try dsimp only [List.append]
  go_upto_region 10 with (first | (first | ((with_reducible refine gguard ?_); (first | refine w_guardT (by rfl) (fun hb => ?_) (fun hb => ?_) | refine w_guardF (by rfl) (fun hb => ?_) (fun hb => ?_)) <;> first | (cases hb; done) | cases hb | ((try rw [hb]) <;> (try simp at hb) <;> go_prune <;> (try (with_reducible replace hb := eqPair hb)))) | (((with_reducible refine gbox ?_); first | refine w_boxA I (by rfl) ?_ | refine w_box1 I (by (conv => lhs; whnf) <;> rfl) (by rfl) ?_); clear I; intro g w I) | ((with_reducible refine galloc ?_); refine w_alloc I ?_; clear I; intro g w I) | ((with_reducible refine gload ?_); first | refine w_loadB I (by rfl) (by first | (with_reducible repeat (first | exact .here | apply At.there)); done | repeat (first | exact .here | apply At.there)) (by rfl) ?_ | refine w_loadBR I (by rfl) (by first | (with_reducible repeat (first | exact .here | apply At.there)); done | repeat (first | exact .here | apply At.there)) (by rfl) ?_ | refine w_load0 I (by rfl) (by assumption) ?_) | ((with_reducible refine gstore ?_); (first | refine w_storeB I (by rfl) (by (conv => lhs; whnf) <;> rfl) (by first | (with_reducible repeat (first | exact .here | apply Upd.there)); done | repeat (first | exact .here | apply Upd.there)) (by rfl) (by rfl) (by simp only [List.set_cons_zero, List.set_cons_succ] <;> rfl) ?_ | refine w_storeBR I (by rfl) (by rfl) (by first | (with_reducible repeat (first | exact .here | apply Upd.there)); done | repeat (first | exact .here | apply Upd.there)) (by rfl) (by rfl) (by rfl) ?_); clear I; intro w I)) | (go_at_call 19; ((with_reducible refine (encode_B0 _).mono ?_); rintro _ w1 ⟨gb, cp, rfl, hcp, hcm, S⟩; replace I := I.then1 S; clear S)) | (go_at_call 19; ((with_reducible refine (encode_no _).mono ?_); rintro _ w1 ⟨vn, rfl, S⟩; replace I := I.then0 S; clear S)) | (go_at_call 21; go_must (refine (decode_is _ Crt.B0 _ _ _ (I.slv (by first | (with_reducible repeat (first | exact .here | apply At.there)); done | repeat (first | exact .here | apply At.there)) encB_len) (by rw [Crt.b0_len]; decide) Crt.b0_dec).mono ?_; rintro _ w1 ⟨rfl, hf⟩; replace I := I.still hf; clear hf)) | (go_at_call 25; go_must (refine (cert_New _ _ _ I).mono ?_; rintro _ w1 ⟨gk, rfl, S⟩; clear I; have I := S; clear S)) | (go_at_call 26; go_must (refine (cert_Issue gk [] ⟨9, 1, 2, 3, 4, 5, 258, 300⟩ (by decide) _ _ _ _ I (by first | (with_reducible repeat (first | exact .here | apply At.there)); done | repeat (first | exact .here | apply At.there))).mono ?_; rintro _ w1 ⟨rfl, S⟩; rw [Crt.i0] at S ⊢; clear I; have I := S; clear S; dsimp only at I ⊢)) | (go_at_call 28; go_must (refine (cert_Cert gk [⟨1, 1, 2, 3, 4, 5, 258, 300⟩] 1 _ _ _ _ I (by first | (with_reducible repeat (first | exact .here | apply At.there)); done | repeat (first | exact .here | apply At.there))).mono ?_; rintro _ w1 ⟨rfl, hf⟩; replace I := I.still hf; clear hf; rw [Crt.g0]; dsimp only)))
  unfold maxLen at hcm
  have hcp2 : (66 : Int) ≤ (cp : Int) := by omega
  have hcp3 : (65 : Int) ≤ (cp : Int) := by omega
  go_upto_region 11 with (first | (first | ((with_reducible refine gguard ?_); (first | refine w_guardT (by rfl) (fun hb => ?_) (fun hb => ?_) | refine w_guardF (by rfl) (fun hb => ?_) (fun hb => ?_)) <;> first | (cases hb; done) | cases hb | ((try rw [hb]) <;> (try simp at hb) <;> go_prune <;> (try (with_reducible replace hb := eqPair hb)))) | (((with_reducible refine gbox ?_); first | refine w_boxA I (by rfl) ?_ | refine w_box1 I (by (conv => lhs; whnf) <;> rfl) (by rfl) ?_); clear I; intro g w I) | ((with_reducible refine galloc ?_); refine w_alloc I ?_; clear I; intro g w I) | ((with_reducible refine gload ?_); first | refine w_loadB I (by rfl) (by first | (with_reducible repeat (first | exact .here | apply At.there)); done | repeat (first | exact .here | apply At.there)) (by rfl) ?_ | refine w_loadBR I (by rfl) (by first | (with_reducible repeat (first | exact .here | apply At.there)); done | repeat (first | exact .here | apply At.there)) (by rfl) ?_ | refine w_load0 I (by rfl) (by assumption) ?_) | ((with_reducible refine gstore ?_); (first | refine w_storeB I (by rfl) (by (conv => lhs; whnf) <;> rfl) (by first | (with_reducible repeat (first | exact .here | apply Upd.there)); done | repeat (first | exact .here | apply Upd.there)) (by rfl) (by rfl) (by simp only [List.set_cons_zero, List.set_cons_succ] <;> rfl) ?_ | refine w_storeBR I (by rfl) (by rfl) (by first | (with_reducible repeat (first | exact .here | apply Upd.there)); done | repeat (first | exact .here | apply Upd.there)) (by rfl) (by rfl) (by rfl) ?_); clear I; intro w I)) | (go_at_call 21; go_must (refine (decode_is _ (Crt.B0.take 65) _ _ _ (SlV.take (I.slv (l := Crt.B0) (by first | (with_reducible repeat (first | exact .here | apply At.there)); done | repeat (first | exact .here | apply At.there)) encB_len) 65 (by decide)) (by rw [List.length_take, Crt.b0_len]; decide) Crt.b0_short).mono ?_; rintro _ w1 ⟨rfl, hf⟩; replace I := I.still hf; clear hf)))
  all_goals try omega
  go_upto_region 13 with (first | ((with_reducible refine gstore (ty := 5) ?_); refine w_storeO (l' := Crt.B1) encB_len I (by rfl) (by rfl) (by first | (with_reducible repeat (first | exact .here | apply Upd.there)); done | repeat (first | exact .here | apply Upd.there)) (i := 40) (f := 0) (b := 0) (b' := 7) (by rfl) Crt.b0_40 (by decide) (by rfl) (by rfl) rfl ?_; clear I; intro w I) | (first | ((with_reducible refine gguard ?_); (first | refine w_guardT (by rfl) (fun hb => ?_) (fun hb => ?_) | refine w_guardF (by rfl) (fun hb => ?_) (fun hb => ?_)) <;> first | (cases hb; done) | cases hb | ((try rw [hb]) <;> (try simp at hb) <;> go_prune <;> (try (with_reducible replace hb := eqPair hb)))) | (((with_reducible refine gbox ?_); first | refine w_boxA I (by rfl) ?_ | refine w_box1 I (by (conv => lhs; whnf) <;> rfl) (by rfl) ?_); clear I; intro g w I) | ((with_reducible refine galloc ?_); refine w_alloc I ?_; clear I; intro g w I) | ((with_reducible refine gload ?_); first | refine w_loadB I (by rfl) (by first | (with_reducible repeat (first | exact .here | apply At.there)); done | repeat (first | exact .here | apply At.there)) (by rfl) ?_ | refine w_loadBR I (by rfl) (by first | (with_reducible repeat (first | exact .here | apply At.there)); done | repeat (first | exact .here | apply At.there)) (by rfl) ?_ | refine w_load0 I (by rfl) (by assumption) ?_) | ((with_reducible refine gstore ?_); (first | refine w_storeB I (by rfl) (by (conv => lhs; whnf) <;> rfl) (by first | (with_reducible repeat (first | exact .here | apply Upd.there)); done | repeat (first | exact .here | apply Upd.there)) (by rfl) (by rfl) (by simp only [List.set_cons_zero, List.set_cons_succ] <;> rfl) ?_ | refine w_storeBR I (by rfl) (by rfl) (by first | (with_reducible repeat (first | exact .here | apply Upd.there)); done | repeat (first | exact .here | apply Upd.there)) (by rfl) (by rfl) (by rfl) ?_); clear I; intro w I)) | (go_at_call 21; go_must (refine (decode_is _ Crt.B1 _ _ _ (I.slv (by first | (with_reducible repeat (first | exact .here | apply At.there)); done | repeat (first | exact .here | apply At.there)) encB_len) (by rw [Crt.b1_len]; decide) Crt.b1_dec).mono ?_; rintro _ w1 ⟨rfl, hf⟩; replace I := I.still hf; clear hf)))
  go_wp2_with (first | ((with_reducible refine gload (ty := 5) ?_); first | refine w_load1 (p := ⟨gb, 54, none⟩) (by rfl) (own_b (l := Crt.B1) I (by first | (with_reducible repeat (first | exact .here | apply At.there)); done | repeat (first | exact .here | apply At.there)) Crt.b1_54) ?_ | refine w_load1 (p := ⟨gb, 55, none⟩) (by rfl) (own_b (l := Crt.B1) I (by first | (with_reducible repeat (first | exact .here | apply At.there)); done | repeat (first | exact .here | apply At.there)) Crt.b1_55) ?_) | (((with_reducible refine gbs ?_); refine w_bs1 (enc := encI) (b := (300 : Int)) encI_len I (by rfl) (by rfl) (by rfl) ?_); clear I; intro g w I) | (((with_reducible refine gbsr ?_); refine w_bsv (enc := encI) [301, 5] (Value.int .i64) (fun _ => rfl) encI_len I (by rfl) (by rfl) (by decide) (by decide) (by decide) ?_); clear I; intro g w I) | (first | ((with_reducible refine gguard ?_); (first | refine w_guardT (by rfl) (fun hb => ?_) (fun hb => ?_) | refine w_guardF (by rfl) (fun hb => ?_) (fun hb => ?_)) <;> first | (cases hb; done) | cases hb | ((try rw [hb]) <;> (try simp at hb) <;> go_prune <;> (try (with_reducible replace hb := eqPair hb)))) | (((with_reducible refine gbox ?_); first | refine w_boxA I (by rfl) ?_ | refine w_box1 I (by (conv => lhs; whnf) <;> rfl) (by rfl) ?_); clear I; intro g w I) | ((with_reducible refine galloc ?_); refine w_alloc I ?_; clear I; intro g w I) | ((with_reducible refine gload ?_); first | refine w_loadB I (by rfl) (by first | (with_reducible repeat (first | exact .here | apply At.there)); done | repeat (first | exact .here | apply At.there)) (by rfl) ?_ | refine w_loadBR I (by rfl) (by first | (with_reducible repeat (first | exact .here | apply At.there)); done | repeat (first | exact .here | apply At.there)) (by rfl) ?_ | refine w_load0 I (by rfl) (by assumption) ?_) | ((with_reducible refine gstore ?_); (first | refine w_storeB I (by rfl) (by (conv => lhs; whnf) <;> rfl) (by first | (with_reducible repeat (first | exact .here | apply Upd.there)); done | repeat (first | exact .here | apply Upd.there)) (by rfl) (by rfl) (by simp only [List.set_cons_zero, List.set_cons_succ] <;> rfl) ?_ | refine w_storeBR I (by rfl) (by rfl) (by first | (with_reducible repeat (first | exact .here | apply Upd.there)); done | repeat (first | exact .here | apply Upd.there)) (by rfl) (by rfl) (by rfl) ?_); clear I; intro w I)) | (go_at_call 31; ((with_reducible refine (flagged_is gk [⟨1, 1, 2, 3, 4, 5, 258, 300⟩] (.slice (some ⟨_, 0, none⟩) 1 1) [300] [] _ _ _ _ I (by first | (with_reducible repeat (first | exact .here | apply At.there)); done | repeat (first | exact .here | apply At.there)) (I.slv .here encI_len) (by decide) Crt.f0).mono ?_); rintro _ w1 ⟨A1, c1, rfl, _, S⟩; replace I := I.then1 S; clear S)) | (go_at_call 31; ((with_reducible refine (flagged_is gk [⟨1, 1, 2, 3, 4, 5, 258, 300⟩] (.slice (some ⟨_, 0, none⟩) 2 2) [301, 5] [1] _ _ _ _ I (by first | (with_reducible repeat (first | exact .here | apply At.there)); done | repeat (first | exact .here | apply At.there)) (I.slv .here encI_len) (by decide) Crt.f1).mono ?_); rintro _ w1 ⟨A2, c2, rfl, _, S⟩; replace I := I.then1 S; clear S)))
  go_ret
  exact ⟨rfl, I.fr⟩
end Go.Proofs.Ytpnpgeilhafepaa
