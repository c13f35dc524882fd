
/- Commands (layer 18): are two the same? -/
import Derived.Test.YtpnpgeilhafepaaDoorCmdC
import Derived.Test.YtpnpgeilhafepaaDoorCheck
import Derived.Deep.CutBlock
namespace Go.Proofs.YtpnpgeilhafepaaDoor
open Go.RowKit Go.Hf

def Cmd.same (m1 m2 : Com) (b1 b2 : List UInt8) : Bool := (b1 == b2) && (m1.kind == m2.kind) && (m1.a == m2.a) && (m1.b == m2.b) && (m1.c == m2.c) && (m1.d == m2.d) && (m1.e == m2.e)
set_option maxRecDepth 100000 in
set_option maxHeartbeats 1000000 in
theorem ref18_Same (m1 m2 : Com) (A1 A2 : Option Addr) (n1 c1 n2 c2 : Nat) (b1 b2 : List UInt8) (w0 : World) (h1 : Bytes w0 (.slice A1 n1 c1) b1) (h2 : Bytes w0 (.slice A2 n2 c2) b2) : Calls Tryd.prog 13 #[aggM m1 A1 n1 c1, aggM m2 A2 n2 c2] w0 fun e w' => e = .returned (.bool (Cmd.same m1 m2 b1 b2)) ∧ Fr w0 w' := by
  have I := St.refl w0
  have HS := Lib.hid (fun wx (hf : Fr w0 wx) => ref03_Same _ _ b1 b2 wx (h1.frF hf) (h2.frF hf))
  clear h1 h2
  obtain ⟨q, hq⟩ : ∃ q : Bool, (b1 == b2) = q := ⟨_, rfl⟩
  have HQ := Lib.hid hq
  have HE : Hid (Cmd.same m1 m2 b1 b2 = (q && (m1.kind == m2.kind) && (m1.a == m2.a) && (m1.b == m2.b) && (m1.c == m2.c) && (m1.d == m2.d) && (m1.e == m2.e))) := Lib.hid (by unfold Cmd.same; rw [hq])
  clear hq
  cases q with
  | false =>
    go_enter Tryd.func13, Tryd.ntmps13
    go_upto_region 2 with (first | (first | ((with_reducible refine gguard ?_); (first | refine w_guardT (by rfl) (fun hb => ?_) (fun hb => ?_) | refine w_guardF (by rfl) (fun hb => ?_) (fun hb => ?_)) <;> first | (cases hb; done) | cases hb | ((try rw [hb]) <;> (try simp at hb) <;> go_prune <;> (try (with_reducible replace hb := eqPair hb)))) | (((with_reducible refine gbox ?_); first | refine w_boxA I (by rfl) ?_ | refine w_box1 I (by (conv => lhs; whnf) <;> rfl) (by rfl) ?_); clear I; intro g w I) | ((with_reducible refine galloc ?_); refine w_alloc I ?_; clear I; intro g w I) | ((with_reducible refine gload ?_); first | refine w_loadB I (by rfl) (by first | (with_reducible repeat (first | exact .here | apply At.there)); done | repeat (first | exact .here | apply At.there)) (by rfl) ?_ | refine w_loadBR I (by rfl) (by first | (with_reducible repeat (first | exact .here | apply At.there)); done | repeat (first | exact .here | apply At.there)) (by rfl) ?_ | refine w_load0 I (by rfl) (by assumption) ?_) | ((with_reducible refine gstore ?_); (first | refine w_storeB I (by rfl) (by (conv => lhs; whnf) <;> rfl) (by first | (with_reducible repeat (first | exact .here | apply Upd.there)); done | repeat (first | exact .here | apply Upd.there)) (by rfl) (by rfl) (by simp only [List.set_cons_zero, List.set_cons_succ] <;> rfl) ?_ | refine w_storeBR I (by rfl) (by rfl) (by first | (with_reducible repeat (first | exact .here | apply Upd.there)); done | repeat (first | exact .here | apply Upd.there)) (by rfl) (by rfl) (by rfl) ?_); clear I; intro w I)) | (go_at_call 12; go_must (refine (HS.out _ I.fr).mono ?_; rintro _ w1 ⟨rfl, hf⟩; rw [HQ.out]; replace I := I.still hf.fr; clear hf)))
    have F := I.facts
    dsimp only [AllF, Asr.facts, Blk, OwnS] at F
    go_wp2_with fail
    go_ret
    exact ⟨by rw [HE.out]; simp [*], I.fr⟩
  | true =>
  cases e_kind : (m1.kind == m2.kind) with
  | false =>
    go_enter Tryd.func13, Tryd.ntmps13
    go_upto_region 2 with (first | (first | ((with_reducible refine gguard ?_); (first | refine w_guardT (by rfl) (fun hb => ?_) (fun hb => ?_) | refine w_guardF (by rfl) (fun hb => ?_) (fun hb => ?_)) <;> first | (cases hb; done) | cases hb | ((try rw [hb]) <;> (try simp at hb) <;> go_prune <;> (try (with_reducible replace hb := eqPair hb)))) | (((with_reducible refine gbox ?_); first | refine w_boxA I (by rfl) ?_ | refine w_box1 I (by (conv => lhs; whnf) <;> rfl) (by rfl) ?_); clear I; intro g w I) | ((with_reducible refine galloc ?_); refine w_alloc I ?_; clear I; intro g w I) | ((with_reducible refine gload ?_); first | refine w_loadB I (by rfl) (by first | (with_reducible repeat (first | exact .here | apply At.there)); done | repeat (first | exact .here | apply At.there)) (by rfl) ?_ | refine w_loadBR I (by rfl) (by first | (with_reducible repeat (first | exact .here | apply At.there)); done | repeat (first | exact .here | apply At.there)) (by rfl) ?_ | refine w_load0 I (by rfl) (by assumption) ?_) | ((with_reducible refine gstore ?_); (first | refine w_storeB I (by rfl) (by (conv => lhs; whnf) <;> rfl) (by first | (with_reducible repeat (first | exact .here | apply Upd.there)); done | repeat (first | exact .here | apply Upd.there)) (by rfl) (by rfl) (by simp only [List.set_cons_zero, List.set_cons_succ] <;> rfl) ?_ | refine w_storeBR I (by rfl) (by rfl) (by first | (with_reducible repeat (first | exact .here | apply Upd.there)); done | repeat (first | exact .here | apply Upd.there)) (by rfl) (by rfl) (by rfl) ?_); clear I; intro w I)) | (go_at_call 12; go_must (refine (HS.out _ I.fr).mono ?_; rintro _ w1 ⟨rfl, hf⟩; rw [HQ.out]; replace I := I.still hf.fr; clear hf)))
    have F := I.facts
    dsimp only [AllF, Asr.facts, Blk, OwnS] at F
    go_wp2_with fail
    go_ret
    exact ⟨by rw [HE.out]; simp [*], I.fr⟩
  | true =>
  cases e_a : (m1.a == m2.a) with
  | false =>
    go_enter Tryd.func13, Tryd.ntmps13
    go_upto_region 2 with (first | (first | ((with_reducible refine gguard ?_); (first | refine w_guardT (by rfl) (fun hb => ?_) (fun hb => ?_) | refine w_guardF (by rfl) (fun hb => ?_) (fun hb => ?_)) <;> first | (cases hb; done) | cases hb | ((try rw [hb]) <;> (try simp at hb) <;> go_prune <;> (try (with_reducible replace hb := eqPair hb)))) | (((with_reducible refine gbox ?_); first | refine w_boxA I (by rfl) ?_ | refine w_box1 I (by (conv => lhs; whnf) <;> rfl) (by rfl) ?_); clear I; intro g w I) | ((with_reducible refine galloc ?_); refine w_alloc I ?_; clear I; intro g w I) | ((with_reducible refine gload ?_); first | refine w_loadB I (by rfl) (by first | (with_reducible repeat (first | exact .here | apply At.there)); done | repeat (first | exact .here | apply At.there)) (by rfl) ?_ | refine w_loadBR I (by rfl) (by first | (with_reducible repeat (first | exact .here | apply At.there)); done | repeat (first | exact .here | apply At.there)) (by rfl) ?_ | refine w_load0 I (by rfl) (by assumption) ?_) | ((with_reducible refine gstore ?_); (first | refine w_storeB I (by rfl) (by (conv => lhs; whnf) <;> rfl) (by first | (with_reducible repeat (first | exact .here | apply Upd.there)); done | repeat (first | exact .here | apply Upd.there)) (by rfl) (by rfl) (by simp only [List.set_cons_zero, List.set_cons_succ] <;> rfl) ?_ | refine w_storeBR I (by rfl) (by rfl) (by first | (with_reducible repeat (first | exact .here | apply Upd.there)); done | repeat (first | exact .here | apply Upd.there)) (by rfl) (by rfl) (by rfl) ?_); clear I; intro w I)) | (go_at_call 12; go_must (refine (HS.out _ I.fr).mono ?_; rintro _ w1 ⟨rfl, hf⟩; rw [HQ.out]; replace I := I.still hf.fr; clear hf)))
    have F := I.facts
    dsimp only [AllF, Asr.facts, Blk, OwnS] at F
    go_wp2_with fail
    go_ret
    exact ⟨by rw [HE.out]; simp [*], I.fr⟩
  | true =>
  cases e_b : (m1.b == m2.b) with
  | false =>
    go_enter Tryd.func13, Tryd.ntmps13
    go_upto_region 2 with (first | (first | ((with_reducible refine gguard ?_); (first | refine w_guardT (by rfl) (fun hb => ?_) (fun hb => ?_) | refine w_guardF (by rfl) (fun hb => ?_) (fun hb => ?_)) <;> first | (cases hb; done) | cases hb | ((try rw [hb]) <;> (try simp at hb) <;> go_prune <;> (try (with_reducible replace hb := eqPair hb)))) | (((with_reducible refine gbox ?_); first | refine w_boxA I (by rfl) ?_ | refine w_box1 I (by (conv => lhs; whnf) <;> rfl) (by rfl) ?_); clear I; intro g w I) | ((with_reducible refine galloc ?_); refine w_alloc I ?_; clear I; intro g w I) | ((with_reducible refine gload ?_); first | refine w_loadB I (by rfl) (by first | (with_reducible repeat (first | exact .here | apply At.there)); done | repeat (first | exact .here | apply At.there)) (by rfl) ?_ | refine w_loadBR I (by rfl) (by first | (with_reducible repeat (first | exact .here | apply At.there)); done | repeat (first | exact .here | apply At.there)) (by rfl) ?_ | refine w_load0 I (by rfl) (by assumption) ?_) | ((with_reducible refine gstore ?_); (first | refine w_storeB I (by rfl) (by (conv => lhs; whnf) <;> rfl) (by first | (with_reducible repeat (first | exact .here | apply Upd.there)); done | repeat (first | exact .here | apply Upd.there)) (by rfl) (by rfl) (by simp only [List.set_cons_zero, List.set_cons_succ] <;> rfl) ?_ | refine w_storeBR I (by rfl) (by rfl) (by first | (with_reducible repeat (first | exact .here | apply Upd.there)); done | repeat (first | exact .here | apply Upd.there)) (by rfl) (by rfl) (by rfl) ?_); clear I; intro w I)) | (go_at_call 12; go_must (refine (HS.out _ I.fr).mono ?_; rintro _ w1 ⟨rfl, hf⟩; rw [HQ.out]; replace I := I.still hf.fr; clear hf)))
    have F := I.facts
    dsimp only [AllF, Asr.facts, Blk, OwnS] at F
    go_wp2_with fail
    go_ret
    exact ⟨by rw [HE.out]; simp [*], I.fr⟩
  | true =>
  cases e_c : (m1.c == m2.c) with
  | false =>
    go_enter Tryd.func13, Tryd.ntmps13
    go_upto_region 2 with (first | (first | ((with_reducible refine gguard ?_); (first | refine w_guardT (by rfl) (fun hb => ?_) (fun hb => ?_) | refine w_guardF (by rfl) (fun hb => ?_) (fun hb => ?_)) <;> first | (cases hb; done) | cases hb | ((try rw [hb]) <;> (try simp at hb) <;> go_prune <;> (try (with_reducible replace hb := eqPair hb)))) | (((with_reducible refine gbox ?_); first | refine w_boxA I (by rfl) ?_ | refine w_box1 I (by (conv => lhs; whnf) <;> rfl) (by rfl) ?_); clear I; intro g w I) | ((with_reducible refine galloc ?_); refine w_alloc I ?_; clear I; intro g w I) | ((with_reducible refine gload ?_); first | refine w_loadB I (by rfl) (by first | (with_reducible repeat (first | exact .here | apply At.there)); done | repeat (first | exact .here | apply At.there)) (by rfl) ?_ | refine w_loadBR I (by rfl) (by first | (with_reducible repeat (first | exact .here | apply At.there)); done | repeat (first | exact .here | apply At.there)) (by rfl) ?_ | refine w_load0 I (by rfl) (by assumption) ?_) | ((with_reducible refine gstore ?_); (first | refine w_storeB I (by rfl) (by (conv => lhs; whnf) <;> rfl) (by first | (with_reducible repeat (first | exact .here | apply Upd.there)); done | repeat (first | exact .here | apply Upd.there)) (by rfl) (by rfl) (by simp only [List.set_cons_zero, List.set_cons_succ] <;> rfl) ?_ | refine w_storeBR I (by rfl) (by rfl) (by first | (with_reducible repeat (first | exact .here | apply Upd.there)); done | repeat (first | exact .here | apply Upd.there)) (by rfl) (by rfl) (by rfl) ?_); clear I; intro w I)) | (go_at_call 12; go_must (refine (HS.out _ I.fr).mono ?_; rintro _ w1 ⟨rfl, hf⟩; rw [HQ.out]; replace I := I.still hf.fr; clear hf)))
    have F := I.facts
    dsimp only [AllF, Asr.facts, Blk, OwnS] at F
    go_wp2_with fail
    go_ret
    exact ⟨by rw [HE.out]; simp [*], I.fr⟩
  | true =>
  cases e_d : (m1.d == m2.d) with
  | false =>
    go_enter Tryd.func13, Tryd.ntmps13
    go_upto_region 2 with (first | (first | ((with_reducible refine gguard ?_); (first | refine w_guardT (by rfl) (fun hb => ?_) (fun hb => ?_) | refine w_guardF (by rfl) (fun hb => ?_) (fun hb => ?_)) <;> first | (cases hb; done) | cases hb | ((try rw [hb]) <;> (try simp at hb) <;> go_prune <;> (try (with_reducible replace hb := eqPair hb)))) | (((with_reducible refine gbox ?_); first | refine w_boxA I (by rfl) ?_ | refine w_box1 I (by (conv => lhs; whnf) <;> rfl) (by rfl) ?_); clear I; intro g w I) | ((with_reducible refine galloc ?_); refine w_alloc I ?_; clear I; intro g w I) | ((with_reducible refine gload ?_); first | refine w_loadB I (by rfl) (by first | (with_reducible repeat (first | exact .here | apply At.there)); done | repeat (first | exact .here | apply At.there)) (by rfl) ?_ | refine w_loadBR I (by rfl) (by first | (with_reducible repeat (first | exact .here | apply At.there)); done | repeat (first | exact .here | apply At.there)) (by rfl) ?_ | refine w_load0 I (by rfl) (by assumption) ?_) | ((with_reducible refine gstore ?_); (first | refine w_storeB I (by rfl) (by (conv => lhs; whnf) <;> rfl) (by first | (with_reducible repeat (first | exact .here | apply Upd.there)); done | repeat (first | exact .here | apply Upd.there)) (by rfl) (by rfl) (by simp only [List.set_cons_zero, List.set_cons_succ] <;> rfl) ?_ | refine w_storeBR I (by rfl) (by rfl) (by first | (with_reducible repeat (first | exact .here | apply Upd.there)); done | repeat (first | exact .here | apply Upd.there)) (by rfl) (by rfl) (by rfl) ?_); clear I; intro w I)) | (go_at_call 12; go_must (refine (HS.out _ I.fr).mono ?_; rintro _ w1 ⟨rfl, hf⟩; rw [HQ.out]; replace I := I.still hf.fr; clear hf)))
    have F := I.facts
    dsimp only [AllF, Asr.facts, Blk, OwnS] at F
    go_wp2_with fail
    go_ret
    exact ⟨by rw [HE.out]; simp [*], I.fr⟩
  | true =>
  cases e_e : (m1.e == m2.e) with
  | false =>
    go_enter Tryd.func13, Tryd.ntmps13
    go_upto_region 2 with (first | (first | ((with_reducible refine gguard ?_); (first | refine w_guardT (by rfl) (fun hb => ?_) (fun hb => ?_) | refine w_guardF (by rfl) (fun hb => ?_) (fun hb => ?_)) <;> first | (cases hb; done) | cases hb | ((try rw [hb]) <;> (try simp at hb) <;> go_prune <;> (try (with_reducible replace hb := eqPair hb)))) | (((with_reducible refine gbox ?_); first | refine w_boxA I (by rfl) ?_ | refine w_box1 I (by (conv => lhs; whnf) <;> rfl) (by rfl) ?_); clear I; intro g w I) | ((with_reducible refine galloc ?_); refine w_alloc I ?_; clear I; intro g w I) | ((with_reducible refine gload ?_); first | refine w_loadB I (by rfl) (by first | (with_reducible repeat (first | exact .here | apply At.there)); done | repeat (first | exact .here | apply At.there)) (by rfl) ?_ | refine w_loadBR I (by rfl) (by first | (with_reducible repeat (first | exact .here | apply At.there)); done | repeat (first | exact .here | apply At.there)) (by rfl) ?_ | refine w_load0 I (by rfl) (by assumption) ?_) | ((with_reducible refine gstore ?_); (first | refine w_storeB I (by rfl) (by (conv => lhs; whnf) <;> rfl) (by first | (with_reducible repeat (first | exact .here | apply Upd.there)); done | repeat (first | exact .here | apply Upd.there)) (by rfl) (by rfl) (by simp only [List.set_cons_zero, List.set_cons_succ] <;> rfl) ?_ | refine w_storeBR I (by rfl) (by rfl) (by first | (with_reducible repeat (first | exact .here | apply Upd.there)); done | repeat (first | exact .here | apply Upd.there)) (by rfl) (by rfl) (by rfl) ?_); clear I; intro w I)) | (go_at_call 12; go_must (refine (HS.out _ I.fr).mono ?_; rintro _ w1 ⟨rfl, hf⟩; rw [HQ.out]; replace I := I.still hf.fr; clear hf)))
    have F := I.facts
    dsimp only [AllF, Asr.facts, Blk, OwnS] at F
    go_wp2_with fail
    go_ret
    exact ⟨by rw [HE.out]; simp [*], I.fr⟩
  | true =>
  go_enter Tryd.func13, Tryd.ntmps13
  go_upto_region 2 with (first | (first | ((with_reducible refine gguard ?_); (first | refine w_guardT (by rfl) (fun hb => ?_) (fun hb => ?_) | refine w_guardF (by rfl) (fun hb => ?_) (fun hb => ?_)) <;> first | (cases hb; done) | cases hb | ((try rw [hb]) <;> (try simp at hb) <;> go_prune <;> (try (with_reducible replace hb := eqPair hb)))) | (((with_reducible refine gbox ?_); first | refine w_boxA I (by rfl) ?_ | refine w_box1 I (by (conv => lhs; whnf) <;> rfl) (by rfl) ?_); clear I; intro g w I) | ((with_reducible refine galloc ?_); refine w_alloc I ?_; clear I; intro g w I) | ((with_reducible refine gload ?_); first | refine w_loadB I (by rfl) (by first | (with_reducible repeat (first | exact .here | apply At.there)); done | repeat (first | exact .here | apply At.there)) (by rfl) ?_ | refine w_loadBR I (by rfl) (by first | (with_reducible repeat (first | exact .here | apply At.there)); done | repeat (first | exact .here | apply At.there)) (by rfl) ?_ | refine w_load0 I (by rfl) (by assumption) ?_) | ((with_reducible refine gstore ?_); (first | refine w_storeB I (by rfl) (by (conv => lhs; whnf) <;> rfl) (by first | (with_reducible repeat (first | exact .here | apply Upd.there)); done | repeat (first | exact .here | apply Upd.there)) (by rfl) (by rfl) (by simp only [List.set_cons_zero, List.set_cons_succ] <;> rfl) ?_ | refine w_storeBR I (by rfl) (by rfl) (by first | (with_reducible repeat (first | exact .here | apply Upd.there)); done | repeat (first | exact .here | apply Upd.there)) (by rfl) (by rfl) (by rfl) ?_); clear I; intro w I)) | (go_at_call 12; go_must (refine (HS.out _ I.fr).mono ?_; rintro _ w1 ⟨rfl, hf⟩; rw [HQ.out]; replace I := I.still hf.fr; clear hf)))
  have F := I.facts
  dsimp only [AllF, Asr.facts, Blk, OwnS] at F
  go_wp2_with fail
  go_ret
  exact ⟨by rw [HE.out]; simp [*], I.fr⟩
end Go.Proofs.YtpnpgeilhafepaaDoor
