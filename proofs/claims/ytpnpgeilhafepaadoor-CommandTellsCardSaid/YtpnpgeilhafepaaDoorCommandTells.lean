
/- CommandTells: how many numbers any kind has, whether any command may be, its bytes, the command of any bytes, and whether any two are the same, are as the reference's; bytes of at most 300. Condition: the table of counts holds what the program's text lays in it. -/
import Derived.Test.YtpnpgeilhafepaaDoorCmdA
import Derived.Test.YtpnpgeilhafepaaDoorCmdR
import Derived.Test.YtpnpgeilhafepaaDoorCmdF
import Derived.Test.YtpnpgeilhafepaaDoorCmdT
import Derived.Test.YtpnpgeilhafepaaDoorCmdO
import Derived.Test.YtpnpgeilhafepaaDoorCmdL
import Derived.Deep.RegionHeld3
import Derived.Test.YtpnpgeilhafepaaDoorCards
import Derived.Test.YtpnpgeilhafepaaDoorTie
namespace Go.Proofs.YtpnpgeilhafepaaDoor.commandTells
open Go.ChangeShapes Go.WideShapes Go.ChangeAt Go.RowKit Go.Hf
open Go.ChangeMaps (open_string shut_string)

theorem same_self (m : Com) (b : List UInt8) : Cmd.same m m b b = true := by unfold Cmd.same; simp
set_option maxRecDepth 100000 in
set_option maxHeartbeats 8000000 in
theorem law (m1 m2 : Com) (A1 A2 : Option Addr) (n1 c1 n2 c2 : Nat) (v : Value) (bs1 bs2 b : List UInt8) (w0 : World) (h1 : Bytes w0 (.slice A1 n1 c1) bs1) (h2 : Bytes w0 (.slice A2 n2 c2) bs2) (h : Bytes w0 v b) (hT : Tab w0) :
    Calls Tryd.prog 3 #[aggM m1 A1 n1 c1, aggM m2 A2 n2 c2, v] w0 fun en w' => en = .returned (.bool true) ∧ Fr w0 w' := by
  have HT := Lib.hid hT
  have H1 := Lib.hid h1
  have H2 := Lib.hid h2
  have HV := Lib.hid h
  have hn1 : n1 = bs1.length := by obtain ⟨_, _, _, e, e1, _⟩ := h1; injection e with _ e _; omega
  have hn2 : n2 = bs2.length := by obtain ⟨_, _, _, e, e1, _⟩ := h2; injection e with _ e _; omega
  have hm1 := h1.len_le
  have hm2 := h2.len_le
  unfold maxLen at hm1 hm2
  obtain ⟨A, _, cp, rfl, rfl, hl, hcm, hA, hs⟩ := h
  clear hs hA hT h1 h2
  unfold maxLen at hcm
  have HN1 := Lib.hid hn1
  have HNL : Hid (n1 ≤ 9223372036854775807) := Lib.hid (by omega)
  have I := St.refl w0
  by_cases hl3 : 300 < b.length
  · have d1 : decide ((300 : Int) < (b.length : Int)) = true := decide_eq_true (by omega)
    clear hn1 hn2
    go_enter Tryd.func3, Tryd.ntmps3
    try dsimp only [List.append]
    go_upto_region 1 with (first | (guard_hyp ga : Nat; ((with_reducible refine gbox (ty := 25) ?_); (first | refine w_boxA I (by rfl) ?_ | refine w_box1 I (by (conv => lhs; whnf) <;> rfl) (by rfl) ?_); clear I; intro gb w I)) | ((with_reducible refine gbox (ty := 25) ?_); (first | refine w_boxA I (by rfl) ?_ | refine w_box1 I (by (conv => lhs; whnf) <;> rfl) (by rfl) ?_); clear I; intro ga w I) | (first | ((with_reducible refine gguard ?_); (first | refine w_guardT (by rfl) (fun hb => ?_) (fun hb => ?_) | refine w_guardF (by rfl) (fun hb => ?_) (fun hb => ?_)) <;> first | (cases hb; done) | cases hb | ((try rw [hb]) <;> (try simp at hb) <;> go_prune <;> (try (with_reducible replace hb := eqPair hb)))) | (((with_reducible refine gbox ?_); first | refine w_boxA I (by rfl) ?_ | refine w_box1 I (by (conv => lhs; whnf) <;> rfl) (by rfl) ?_); clear I; intro g w I) | ((with_reducible refine galloc ?_); refine w_alloc I ?_; clear I; intro g w I) | ((with_reducible refine gload ?_); first | refine w_loadB I (by rfl) (by first | (with_reducible repeat (first | exact .here | apply At.there)); done | repeat (first | exact .here | apply At.there)) (by rfl) ?_ | refine w_loadBR I (by rfl) (by first | (with_reducible repeat (first | exact .here | apply At.there)); done | repeat (first | exact .here | apply At.there)) (by rfl) ?_ | refine w_load0 I (by rfl) (by assumption) ?_) | ((with_reducible refine gstore ?_); (first | refine w_storeB I (by rfl) (by (conv => lhs; whnf) <;> rfl) (by first | (with_reducible repeat (first | exact .here | apply Upd.there)); done | repeat (first | exact .here | apply Upd.there)) (by rfl) (by rfl) (by simp only [List.set_cons_zero, List.set_cons_succ] <;> rfl) ?_ | refine w_storeBR I (by rfl) (by rfl) (by first | (with_reducible repeat (first | exact .here | apply Upd.there)); done | repeat (first | exact .here | apply Upd.there)) (by rfl) (by rfl) (by rfl) ?_); clear I; intro w I)))
    have F := I.facts
    dsimp only [AllF, Asr.facts, Blk, OwnS] at F
    go_upto_region 2 with fail
    clear F
    go_wp2_with (first | (first | ((with_reducible refine gguard ?_); (first | refine w_guardT (by rfl) (fun hb => ?_) (fun hb => ?_) | refine w_guardF (by rfl) (fun hb => ?_) (fun hb => ?_)) <;> first | (cases hb; done) | cases hb | ((try rw [hb]) <;> (try simp at hb) <;> go_prune <;> (try (with_reducible replace hb := eqPair hb)))) | (((with_reducible refine gbox ?_); first | refine w_boxA I (by rfl) ?_ | refine w_box1 I (by (conv => lhs; whnf) <;> rfl) (by rfl) ?_); clear I; intro g w I) | ((with_reducible refine galloc ?_); refine w_alloc I ?_; clear I; intro g w I) | ((with_reducible refine gload ?_); first | refine w_loadB I (by rfl) (by first | (with_reducible repeat (first | exact .here | apply At.there)); done | repeat (first | exact .here | apply At.there)) (by rfl) ?_ | refine w_loadBR I (by rfl) (by first | (with_reducible repeat (first | exact .here | apply At.there)); done | repeat (first | exact .here | apply At.there)) (by rfl) ?_ | refine w_load0 I (by rfl) (by assumption) ?_) | ((with_reducible refine gstore ?_); (first | refine w_storeB I (by rfl) (by (conv => lhs; whnf) <;> rfl) (by first | (with_reducible repeat (first | exact .here | apply Upd.there)); done | repeat (first | exact .here | apply Upd.there)) (by rfl) (by rfl) (by simp only [List.set_cons_zero, List.set_cons_succ] <;> rfl) ?_ | refine w_storeBR I (by rfl) (by rfl) (by first | (with_reducible repeat (first | exact .here | apply Upd.there)); done | repeat (first | exact .here | apply Upd.there)) (by rfl) (by rfl) (by rfl) ?_); clear I; intro w I)) | (go_at_call 7; go_must (refine (law18_alive _ (HT.out.fr I.fr)).mono ?_; rintro _ w1 ⟨rfl, hf⟩; replace I := I.still hf; clear hf)))
    all_goals try omega
    go_ret
    exact ⟨rfl, I.fr⟩
  have d1 : decide ((300 : Int) < (b.length : Int)) = false := decide_eq_false (by omega)
  by_cases hl1 : 300 < n1
  · have d2 : decide ((300 : Int) < (n1 : Int)) = true := decide_eq_true (by omega)
    clear hn1 hn2
    go_enter Tryd.func3, Tryd.ntmps3
    try dsimp only [List.append]
    go_upto_region 1 with (first | (guard_hyp ga : Nat; ((with_reducible refine gbox (ty := 25) ?_); (first | refine w_boxA I (by rfl) ?_ | refine w_box1 I (by (conv => lhs; whnf) <;> rfl) (by rfl) ?_); clear I; intro gb w I)) | ((with_reducible refine gbox (ty := 25) ?_); (first | refine w_boxA I (by rfl) ?_ | refine w_box1 I (by (conv => lhs; whnf) <;> rfl) (by rfl) ?_); clear I; intro ga w I) | (first | ((with_reducible refine gguard ?_); (first | refine w_guardT (by rfl) (fun hb => ?_) (fun hb => ?_) | refine w_guardF (by rfl) (fun hb => ?_) (fun hb => ?_)) <;> first | (cases hb; done) | cases hb | ((try rw [hb]) <;> (try simp at hb) <;> go_prune <;> (try (with_reducible replace hb := eqPair hb)))) | (((with_reducible refine gbox ?_); first | refine w_boxA I (by rfl) ?_ | refine w_box1 I (by (conv => lhs; whnf) <;> rfl) (by rfl) ?_); clear I; intro g w I) | ((with_reducible refine galloc ?_); refine w_alloc I ?_; clear I; intro g w I) | ((with_reducible refine gload ?_); first | refine w_loadB I (by rfl) (by first | (with_reducible repeat (first | exact .here | apply At.there)); done | repeat (first | exact .here | apply At.there)) (by rfl) ?_ | refine w_loadBR I (by rfl) (by first | (with_reducible repeat (first | exact .here | apply At.there)); done | repeat (first | exact .here | apply At.there)) (by rfl) ?_ | refine w_load0 I (by rfl) (by assumption) ?_) | ((with_reducible refine gstore ?_); (first | refine w_storeB I (by rfl) (by (conv => lhs; whnf) <;> rfl) (by first | (with_reducible repeat (first | exact .here | apply Upd.there)); done | repeat (first | exact .here | apply Upd.there)) (by rfl) (by rfl) (by simp only [List.set_cons_zero, List.set_cons_succ] <;> rfl) ?_ | refine w_storeBR I (by rfl) (by rfl) (by first | (with_reducible repeat (first | exact .here | apply Upd.there)); done | repeat (first | exact .here | apply Upd.there)) (by rfl) (by rfl) (by rfl) ?_); clear I; intro w I)))
    have F := I.facts
    dsimp only [AllF, Asr.facts, Blk, OwnS] at F
    go_upto_region 2 with fail
    clear F
    go_wp2_with (first | (first | ((with_reducible refine gguard ?_); (first | refine w_guardT (by rfl) (fun hb => ?_) (fun hb => ?_) | refine w_guardF (by rfl) (fun hb => ?_) (fun hb => ?_)) <;> first | (cases hb; done) | cases hb | ((try rw [hb]) <;> (try simp at hb) <;> go_prune <;> (try (with_reducible replace hb := eqPair hb)))) | (((with_reducible refine gbox ?_); first | refine w_boxA I (by rfl) ?_ | refine w_box1 I (by (conv => lhs; whnf) <;> rfl) (by rfl) ?_); clear I; intro g w I) | ((with_reducible refine galloc ?_); refine w_alloc I ?_; clear I; intro g w I) | ((with_reducible refine gload ?_); first | refine w_loadB I (by rfl) (by first | (with_reducible repeat (first | exact .here | apply At.there)); done | repeat (first | exact .here | apply At.there)) (by rfl) ?_ | refine w_loadBR I (by rfl) (by first | (with_reducible repeat (first | exact .here | apply At.there)); done | repeat (first | exact .here | apply At.there)) (by rfl) ?_ | refine w_load0 I (by rfl) (by assumption) ?_) | ((with_reducible refine gstore ?_); (first | refine w_storeB I (by rfl) (by (conv => lhs; whnf) <;> rfl) (by first | (with_reducible repeat (first | exact .here | apply Upd.there)); done | repeat (first | exact .here | apply Upd.there)) (by rfl) (by rfl) (by simp only [List.set_cons_zero, List.set_cons_succ] <;> rfl) ?_ | refine w_storeBR I (by rfl) (by rfl) (by first | (with_reducible repeat (first | exact .here | apply Upd.there)); done | repeat (first | exact .here | apply Upd.there)) (by rfl) (by rfl) (by rfl) ?_); clear I; intro w I)) | (go_at_call 7; go_must (refine (law18_alive _ (HT.out.fr I.fr)).mono ?_; rintro _ w1 ⟨rfl, hf⟩; replace I := I.still hf; clear hf)))
    all_goals try omega
    go_ret
    exact ⟨rfl, I.fr⟩
  have d2 : decide ((300 : Int) < (n1 : Int)) = false := decide_eq_false (by omega)
  by_cases hl2 : 300 < n2
  · have d3 : decide ((300 : Int) < (n2 : Int)) = true := decide_eq_true (by omega)
    clear hn1 hn2
    go_enter Tryd.func3, Tryd.ntmps3
    try dsimp only [List.append]
    go_upto_region 1 with (first | (guard_hyp ga : Nat; ((with_reducible refine gbox (ty := 25) ?_); (first | refine w_boxA I (by rfl) ?_ | refine w_box1 I (by (conv => lhs; whnf) <;> rfl) (by rfl) ?_); clear I; intro gb w I)) | ((with_reducible refine gbox (ty := 25) ?_); (first | refine w_boxA I (by rfl) ?_ | refine w_box1 I (by (conv => lhs; whnf) <;> rfl) (by rfl) ?_); clear I; intro ga w I) | (first | ((with_reducible refine gguard ?_); (first | refine w_guardT (by rfl) (fun hb => ?_) (fun hb => ?_) | refine w_guardF (by rfl) (fun hb => ?_) (fun hb => ?_)) <;> first | (cases hb; done) | cases hb | ((try rw [hb]) <;> (try simp at hb) <;> go_prune <;> (try (with_reducible replace hb := eqPair hb)))) | (((with_reducible refine gbox ?_); first | refine w_boxA I (by rfl) ?_ | refine w_box1 I (by (conv => lhs; whnf) <;> rfl) (by rfl) ?_); clear I; intro g w I) | ((with_reducible refine galloc ?_); refine w_alloc I ?_; clear I; intro g w I) | ((with_reducible refine gload ?_); first | refine w_loadB I (by rfl) (by first | (with_reducible repeat (first | exact .here | apply At.there)); done | repeat (first | exact .here | apply At.there)) (by rfl) ?_ | refine w_loadBR I (by rfl) (by first | (with_reducible repeat (first | exact .here | apply At.there)); done | repeat (first | exact .here | apply At.there)) (by rfl) ?_ | refine w_load0 I (by rfl) (by assumption) ?_) | ((with_reducible refine gstore ?_); (first | refine w_storeB I (by rfl) (by (conv => lhs; whnf) <;> rfl) (by first | (with_reducible repeat (first | exact .here | apply Upd.there)); done | repeat (first | exact .here | apply Upd.there)) (by rfl) (by rfl) (by simp only [List.set_cons_zero, List.set_cons_succ] <;> rfl) ?_ | refine w_storeBR I (by rfl) (by rfl) (by first | (with_reducible repeat (first | exact .here | apply Upd.there)); done | repeat (first | exact .here | apply Upd.there)) (by rfl) (by rfl) (by rfl) ?_); clear I; intro w I)))
    have F := I.facts
    dsimp only [AllF, Asr.facts, Blk, OwnS] at F
    go_upto_region 2 with fail
    clear F
    go_wp2_with (first | (first | ((with_reducible refine gguard ?_); (first | refine w_guardT (by rfl) (fun hb => ?_) (fun hb => ?_) | refine w_guardF (by rfl) (fun hb => ?_) (fun hb => ?_)) <;> first | (cases hb; done) | cases hb | ((try rw [hb]) <;> (try simp at hb) <;> go_prune <;> (try (with_reducible replace hb := eqPair hb)))) | (((with_reducible refine gbox ?_); first | refine w_boxA I (by rfl) ?_ | refine w_box1 I (by (conv => lhs; whnf) <;> rfl) (by rfl) ?_); clear I; intro g w I) | ((with_reducible refine galloc ?_); refine w_alloc I ?_; clear I; intro g w I) | ((with_reducible refine gload ?_); first | refine w_loadB I (by rfl) (by first | (with_reducible repeat (first | exact .here | apply At.there)); done | repeat (first | exact .here | apply At.there)) (by rfl) ?_ | refine w_loadBR I (by rfl) (by first | (with_reducible repeat (first | exact .here | apply At.there)); done | repeat (first | exact .here | apply At.there)) (by rfl) ?_ | refine w_load0 I (by rfl) (by assumption) ?_) | ((with_reducible refine gstore ?_); (first | refine w_storeB I (by rfl) (by (conv => lhs; whnf) <;> rfl) (by first | (with_reducible repeat (first | exact .here | apply Upd.there)); done | repeat (first | exact .here | apply Upd.there)) (by rfl) (by rfl) (by simp only [List.set_cons_zero, List.set_cons_succ] <;> rfl) ?_ | refine w_storeBR I (by rfl) (by rfl) (by first | (with_reducible repeat (first | exact .here | apply Upd.there)); done | repeat (first | exact .here | apply Upd.there)) (by rfl) (by rfl) (by rfl) ?_); clear I; intro w I)) | (go_at_call 7; go_must (refine (law18_alive _ (HT.out.fr I.fr)).mono ?_; rintro _ w1 ⟨rfl, hf⟩; replace I := I.still hf; clear hf)))
    all_goals try omega
    go_ret
    exact ⟨rfl, I.fr⟩
  have d3 : decide ((300 : Int) < (n2 : Int)) = false := decide_eq_false (by omega)
  have HX := Lib.hid (fun wx (hf : Fr w0 wx) => command_Encode m1 A1 n1 c1 bs1 wx (H1.out.frF hf) (HT.out.fr hf))
  have HY := Lib.hid (fun wx (hf : Fr w0 wx) => ref18_Encode m1 A1 n1 c1 bs1 wx (H1.out.frF hf))
  have HD := Lib.hid (fun wx (hf : Fr w0 wx) => command_Decode _ b wx (HV.out.frF hf) (by omega) (HT.out.fr hf))
  have HF := Lib.hid (fun wx (hf : Fr w0 wx) => ref18_Decode _ b wx (HV.out.frF hf) (by omega))
  have HR := Lib.hid (fun wx (hf : Fr w0 wx) => command_Right m1 A1 n1 c1 bs1 HN1.out HNL.out wx (HT.out.fr hf))
  have HR2 := Lib.hid (fun wx => ref18_Right m1 A1 n1 c1 bs1 HN1.out HNL.out wx)
  have HN := Lib.hid (fun wx (hf : Fr w0 wx) => command_Numbers m1.kind wx (HT.out.fr hf))
  have HN2 := Lib.hid (fun wx => ref18_Numbers m1.kind wx)
  have HS := Lib.hid (fun wx (hf : Fr w0 wx) => command_Same m1 m2 A1 A2 n1 c1 n2 c2 bs1 bs2 wx (H1.out.frF hf) (H2.out.frF hf))
  have HS2 := Lib.hid (fun wx (hf : Fr w0 wx) => ref18_Same m1 m2 A1 A2 n1 c1 n2 c2 bs1 bs2 wx (H1.out.frF hf) (H2.out.frF hf))
  have HAl := Lib.hid (fun wx (hf : Fr w0 wx) => law18_alive wx (HT.out.fr hf))
  generalize Cmd.encode m1 bs1 = q at HX HY
  obtain ⟨x, e⟩ := q
  generalize Cmd.decode b = q at HD HF
  obtain ⟨⟨dm, db⟩, g⟩ := q
  dsimp only at HX HY HD HF
  generalize Cmd.right m1 bs1 = rt at HR HR2
  generalize Cmd.numbers m1.kind = nk at HN HN2
  generalize Cmd.same m1 m2 bs1 bs2 = sm at HS HS2
  clear hn1 hn2 HN1 HNL
  go_enter Tryd.func3, Tryd.ntmps3
  try dsimp only [List.append]
  go_upto_region 1 with (first | (guard_hyp ga : Nat; ((with_reducible refine gbox (ty := 25) ?_); (first | refine w_boxA I (by rfl) ?_ | refine w_box1 I (by (conv => lhs; whnf) <;> rfl) (by rfl) ?_); clear I; intro gb w I)) | ((with_reducible refine gbox (ty := 25) ?_); (first | refine w_boxA I (by rfl) ?_ | refine w_box1 I (by (conv => lhs; whnf) <;> rfl) (by rfl) ?_); clear I; intro ga w I) | (first | ((with_reducible refine gguard ?_); (first | refine w_guardT (by rfl) (fun hb => ?_) (fun hb => ?_) | refine w_guardF (by rfl) (fun hb => ?_) (fun hb => ?_)) <;> first | (cases hb; done) | cases hb | ((try rw [hb]) <;> (try simp at hb) <;> go_prune <;> (try (with_reducible replace hb := eqPair hb)))) | (((with_reducible refine gbox ?_); first | refine w_boxA I (by rfl) ?_ | refine w_box1 I (by (conv => lhs; whnf) <;> rfl) (by rfl) ?_); clear I; intro g w I) | ((with_reducible refine galloc ?_); refine w_alloc I ?_; clear I; intro g w I) | ((with_reducible refine gload ?_); first | refine w_loadB I (by rfl) (by first | (with_reducible repeat (first | exact .here | apply At.there)); done | repeat (first | exact .here | apply At.there)) (by rfl) ?_ | refine w_loadBR I (by rfl) (by first | (with_reducible repeat (first | exact .here | apply At.there)); done | repeat (first | exact .here | apply At.there)) (by rfl) ?_ | refine w_load0 I (by rfl) (by assumption) ?_) | ((with_reducible refine gstore ?_); (first | refine w_storeB I (by rfl) (by (conv => lhs; whnf) <;> rfl) (by first | (with_reducible repeat (first | exact .here | apply Upd.there)); done | repeat (first | exact .here | apply Upd.there)) (by rfl) (by rfl) (by simp only [List.set_cons_zero, List.set_cons_succ] <;> rfl) ?_ | refine w_storeBR I (by rfl) (by rfl) (by first | (with_reducible repeat (first | exact .here | apply Upd.there)); done | repeat (first | exact .here | apply Upd.there)) (by rfl) (by rfl) (by rfl) ?_); clear I; intro w I)))
  have F := I.facts
  dsimp only [AllF, Asr.facts, Blk, OwnS] at F
  go_upto_region 3 with fail
  clear F
  go_upto_region 9 with (first | (first | ((with_reducible refine gguard ?_); (first | refine w_guardT (by rfl) (fun hb => ?_) (fun hb => ?_) | refine w_guardF (by rfl) (fun hb => ?_) (fun hb => ?_)) <;> first | (cases hb; done) | cases hb | ((try rw [hb]) <;> (try simp at hb) <;> go_prune <;> (try (with_reducible replace hb := eqPair hb)))) | (((with_reducible refine gbox ?_); first | refine w_boxA I (by rfl) ?_ | refine w_box1 I (by (conv => lhs; whnf) <;> rfl) (by rfl) ?_); clear I; intro g w I) | ((with_reducible refine galloc ?_); refine w_alloc I ?_; clear I; intro g w I) | ((with_reducible refine gload ?_); first | refine w_loadB I (by rfl) (by first | (with_reducible repeat (first | exact .here | apply At.there)); done | repeat (first | exact .here | apply At.there)) (by rfl) ?_ | refine w_loadBR I (by rfl) (by first | (with_reducible repeat (first | exact .here | apply At.there)); done | repeat (first | exact .here | apply At.there)) (by rfl) ?_ | refine w_load0 I (by rfl) (by assumption) ?_) | ((with_reducible refine gstore ?_); (first | refine w_storeB I (by rfl) (by (conv => lhs; whnf) <;> rfl) (by first | (with_reducible repeat (first | exact .here | apply Upd.there)); done | repeat (first | exact .here | apply Upd.there)) (by rfl) (by rfl) (by simp only [List.set_cons_zero, List.set_cons_succ] <;> rfl) ?_ | refine w_storeBR I (by rfl) (by rfl) (by first | (with_reducible repeat (first | exact .here | apply Upd.there)); done | repeat (first | exact .here | apply Upd.there)) (by rfl) (by rfl) (by rfl) ?_); clear I; intro w I)) | (go_at_call 8; go_must (refine (HX.out _ I.fr).mono ?_; rintro _ w1 ⟨vx, rfl, S⟩; replace I := I.then1 S; clear S)) | (go_at_call 9; go_must (refine (HY.out _ I.fr).mono ?_; rintro _ w1 ⟨vy, rfl, S⟩; replace I := I.then1 S; clear S)) | (go_at_call 10; go_must (refine (HD.out _ I.fr).mono ?_; rintro _ w1 ⟨Az, nz, cz, rfl, S⟩; replace I := I.then1 S; clear S)) | (go_at_call 11; go_must (refine (HF.out _ I.fr).mono ?_; rintro _ w1 ⟨Aw, nw, cw, rfl, S⟩; replace I := I.then1 S; clear S)) | (go_at_call 12; go_must (refine (ref03_Same vx vy x x _ (I.slv (by first | (with_reducible repeat (first | exact .here | apply At.there)); done | repeat (first | exact .here | apply At.there)) encB_len) (I.slv (by first | (with_reducible repeat (first | exact .here | apply At.there)); done | repeat (first | exact .here | apply At.there)) encB_len)).mono ?_; rintro _ w1 ⟨rfl, hf⟩; replace I := I.still hf.fr; clear hf; rw [beq_self_eq_true])) | (go_at_call 13; go_must (refine (ref18_Same dm dm Az Aw nz cz nw cw db db _ (I.slv (by first | (with_reducible repeat (first | exact .here | apply At.there)); done | repeat (first | exact .here | apply At.there)) encB_len) (I.slv (by first | (with_reducible repeat (first | exact .here | apply At.there)); done | repeat (first | exact .here | apply At.there)) encB_len)).mono ?_; rintro _ w1 ⟨rfl, hf⟩; replace I := I.still hf; clear hf; rw [same_self])))
  all_goals try omega
  rename World => w1
  have hp := fun w' (hf : Fr w1 w') i => (((I.still hf).cells (g := ga) (by first | (with_reducible repeat (first | exact .here | apply At.there)); done | repeat (first | exact .here | apply At.there))).1 i)
  have hl := fun w' (hf : Fr w1 w') i => (((I.still hf).cells (g := gb) (by first | (with_reducible repeat (first | exact .here | apply At.there)); done | repeat (first | exact .here | apply At.there))).1 i)
  have IF := Lib.hid (fun w' (hf : Fr w1 w') => I.fr.trans hf)
  replace I := Lib.hid I
  first | go_region_held3 (fun w' => Fr w1 w') (first | assumption | exact (Fr.refl _).drew | exact Fr.trans (by assumption) (by assumption)) (first | (go_at_call 7; go_must (refine (HAl.out _ (IF.out _ (by assumption))).mono ?_; rintro _ w1 ⟨rfl, hf⟩)) | (go_at_call 14; go_must (refine (HN.out _ (IF.out _ (by assumption))).mono ?_; rintro _ w1 ⟨rfl, rfl⟩)) | (go_at_call 15; go_must (refine (HN2.out _).mono ?_; rintro _ w1 ⟨rfl, rfl⟩)) | (go_at_call 16; go_must (refine (HR.out _ (IF.out _ (by assumption))).mono ?_; rintro _ w1 ⟨rfl, hf⟩)) | (go_at_call 17; go_must (refine (HR2.out _).mono ?_; rintro _ w1 ⟨rfl, hf⟩)) | (go_at_call 18; go_must (refine (HS.out _ (IF.out _ (by assumption))).mono ?_; rintro _ w1 ⟨rfl, hf⟩)) | (go_at_call 13; go_must (refine (HS2.out _ (IF.out _ (by assumption))).mono ?_; rintro _ w1 ⟨rfl, hf⟩))) | fail
  all_goals
    replace I := I.out.still (by assumption)
    clear hp hl
    go_wp2_with (first | ((with_reducible refine gguard ?_); (first | refine w_guardT (by rfl) (fun hb => ?_) (fun hb => ?_) | refine w_guardF (by rfl) (fun hb => ?_) (fun hb => ?_)) <;> first | (cases hb; done) | cases hb | ((try rw [hb]) <;> (try simp at hb) <;> go_prune <;> (try (with_reducible replace hb := eqPair hb)))) | (((with_reducible refine gbox ?_); first | refine w_boxA I (by rfl) ?_ | refine w_box1 I (by (conv => lhs; whnf) <;> rfl) (by rfl) ?_); clear I; intro g w I) | ((with_reducible refine galloc ?_); refine w_alloc I ?_; clear I; intro g w I) | ((with_reducible refine gload ?_); first | refine w_loadB I (by rfl) (by first | (with_reducible repeat (first | exact .here | apply At.there)); done | repeat (first | exact .here | apply At.there)) (by rfl) ?_ | refine w_loadBR I (by rfl) (by first | (with_reducible repeat (first | exact .here | apply At.there)); done | repeat (first | exact .here | apply At.there)) (by rfl) ?_ | refine w_load0 I (by rfl) (by assumption) ?_) | ((with_reducible refine gstore ?_); (first | refine w_storeB I (by rfl) (by (conv => lhs; whnf) <;> rfl) (by first | (with_reducible repeat (first | exact .here | apply Upd.there)); done | repeat (first | exact .here | apply Upd.there)) (by rfl) (by rfl) (by simp only [List.set_cons_zero, List.set_cons_succ] <;> rfl) ?_ | refine w_storeBR I (by rfl) (by rfl) (by first | (with_reducible repeat (first | exact .here | apply Upd.there)); done | repeat (first | exact .here | apply Upd.there)) (by rfl) (by rfl) (by rfl) ?_); clear I; intro w I))
    go_ret
    exact ⟨rfl, I.fr⟩

set_option maxRecDepth 100000 in
theorem walk {H : Type} {enc : TypeId × Value → H} (W : World) (base : Nat) (args : Array Value) (ds : List (DataW H)) (ps : List MemPlace) (hval : ∀ (j : Nat) t v, Tryd.f3.params[j]? = some t → args[j]? = some v → Value.okWide Tryd.prog W .any base t v)
    (hA : DataW.TrodAll enc Tryd.prog W 0 (fun _ => true) true Tryd.f3.params.toList args.toList ds ps) (hL : laidMetH Tryd.prog laid1 W) : Calls Tryd.prog 3 args W fun e W' => e = .returned (.bool true) ∧ Fr W W' := by
  rw [Tryd.params3] at hA
  obtain ⟨v0, vs0, d0, ds0, p0, q0, hargs, rfl, rfl, h0, r0⟩ := trodAll_cons hA
  obtain ⟨v1, vs1, d1, ds1, p1, q1, rfl, rfl, rfl, h1, r1⟩ := trodAll_cons r0
  obtain ⟨v2, vs2, d2, ds2, p2, q2, rfl, rfl, rfl, h2, r2⟩ := trodAll_cons r1
  obtain ⟨rfl, rfl, rfl⟩ := trodAll_nil r2
  obtain rfl : args = #[v0, v1, v2] := by cases args; simp_all
  rw [Tryd.params3] at hval
  obtain ⟨m1, A1, n1, c1, bs1, rfl, hb1, _⟩ := open_cmd (hval 0 _ v0 rfl rfl) h0
  obtain ⟨m2, A2, n2, c2, bs2, rfl, hb2, _⟩ := open_cmd (hval 1 _ v1 rfl rfl) h1
  obtain ⟨l, h⟩ := open_slv_arg Tryd.underlying23 (hval 2 _ v2 rfl rfl) h2 opens_bytes
  exact law m1 m2 A1 A2 n1 c1 n2 c2 v2 bs1 bs2 l W hb1 hb2 h (tab_of_laid hL)

theorem own : ownKnob Tryd.prog.godebug = none := by kernel_rfl

set_option maxRecDepth 100000 in
theorem lifted (os : Os) (started : os.Started) (H : Type) (enc : TypeId × Value → H) :
    ReturnsInHanded {} Tryd.checked os 3 .any (fun w args => (Rows.commandTellsSpec.pre enc Tryd.prog Tryd.f3 [] false w args ∧ laidMetH Tryd.prog laid1 w) ∧ sizedMet enc Tryd.prog Tryd.f3 (OpenSpec.ofChange Rows.commandTellsSpec) false w args) (Rows.commandTellsSpec.post enc Tryd.prog Tryd.f3 false true false false) :=
  Hf.law_lifted_laid (C := Tryd.checked) (X := fun w => laidMetH Tryd.prog laid1 w) (fun _ _ hh h => h.of_heap hh) own started (by kernel_rfl) Tryd.func3
    (ChangeSpec.witness_shaped (enc := enc) (C := Tryd.checked) (os := os) (X := fun w _ => laidMetH Tryd.prog laid1 w) false (World.doorLaid Tryd.prog 400 os) #[aggM Cmd.zero none 0 0, aggM Cmd.zero none 0 0, .slice none 0 0] 8 rfl (World.shaped_of_RefB (by kernel_rfl) (by kernel_rfl)) (by kernel_rfl) (by kernel_rfl) (by kernel_rfl) (door_met os _))
    rfl (by kernel_rfl) Tryd.underlying4 (by kernel_rfl) (by kernel_rfl)
    (by intro ds h; rw [Tryd.params3] at h; match ds, h with | [_, _, _], _ => rfl) walk

/-- The row. -/
theorem over : Rows.commandTellsRow.holds Tryd.pinned (OpenSpec.ofChange Rows.commandTellsSpec) :=
  OpenClaim.holds_of_wide 3 Tryd.f3 rfl rfl rfl rfl rfl rfl rfl ⟨rfl, rfl, rfl, rfl, rfl⟩ rfl rfl rfl rfl rfl (by kernel_rfl) Tryd.func3 (by kernel_rfl)
    (of_decide_eq_true (by kernel_rfl)) (by unfold Func.isWrapper; first | (rw [if_pos (by decide +kernel)]; kernel_rfl) | (rw [if_neg (by decide +kernel)]; exact ⟨rfl, rfl⟩))
    (fun os started H enc _ => lifted os started H enc)

/-- The statement: the tied card. -/
theorem proved : Rows.CommandTellsCardSaid :=
  Claim7.holds_tied_plain_at .later [] [.data] true Rows.commandTellsCard.stood.harness Rows.commandTellsCard.stood.looks
    over (fun _ h => by cases h) (by kernel_rfl) (fun _ h => by cases h) commandTells_row_tie rfl ⟨rfl, rfl⟩ (by kernel_rfl) rfl
    (fun f fn hf hfn => by
      obtain rfl : f = 3 := Option.some.inj ((show Tryd.prog.funcNamed "hoarfrost/hoarfrostlaw18.CommandTells" = some 3 by kernel_rfl).symm.trans hf) |>.symm
      obtain rfl : fn = Tryd.f3 := (Option.some.inj (Tryd.func3.symm.trans hfn)).symm
      refine ⟨by kernel_rfl, fun j t ht => ?_⟩
      rw [Tryd.params3] at ht
      exact match j, ht with
        | 0, ht => by obtain rfl := Option.some.inj ht; kernel_rfl
        | 1, ht => by obtain rfl := Option.some.inj ht; kernel_rfl
        | 2, ht => by obtain rfl := Option.some.inj ht; kernel_rfl
        | _ + 3, ht => by simp at ht)
    (by kernel_rfl)
#print axioms proved
end Go.Proofs.YtpnpgeilhafepaaDoor.commandTells
