
/- CertBooks: any certificates, issued (at most 60): each one's ID, or the error, and behind all of them all, the one of any ID, and which are flagged, by any exposures, are as the reference's; no book: ErrArg, nothing. -/
import Derived.Test.YtpnpgeilhafepaaCrtA
import Derived.Test.YtpnpgeilhafepaaCrtO
import Derived.Test.YtpnpgeilhafepaaFrame
namespace Go.Proofs.Ytpnpgeilhafepaa.certBooks
open Go.ChangeShapes Go.WideShapes Go.ChangeAt Go.RowKit Go.Hf
open Go.ChangeMaps (open_string shut_string)

theorem issue_len (l : List Cert) (c : Cert) : (Crt.issue l c).1.length ≤ l.length + 1 := by
  unfold Crt.issue
  split <;> simp
theorem flags_nil (l : List Cert) (k : Nat) : Crt.flags [] l k = [] := by
  induction k with
  | zero => rfl
  | succ k ih => show Crt.flags [] l k ++ (if k < ([] : List Int).length ∧ _ then _ else []) = []; rw [ih, if_neg (by simp)]; rfl
theorem get_one (l : List Cert) (k : Nat) (h : k < l.length) : Crt.get l ((k : Int) + 1) = (l[k], 0) := by
  unfold Crt.get
  rw [if_neg (by omega), show ((k : Int) + 1).toNat - 1 = k by omega, List.getD_eq_getElem?_getD, List.getElem?_eq_getElem h]
  rfl
theorem get_no (l : List Cert) (id : Int) (h : id < 1 ∨ (l.length : Int) < id) : Crt.get l id = (⟨0, 0, 0, 0, 0, 0, 0, 0⟩, 5) := by
  unfold Crt.get
  rw [if_pos h]
  rfl

set_option maxRecDepth 100000 in
set_option maxHeartbeats 8000000 in
theorem law (v : Value) (l : List Cert) (id : Int) (vn : Value) (now : List Int) (w0 : World) (h : Certs w0 v l) (hn : Ints w0 vn now) :
    Calls Try.prog 5 #[v, .int .i64 id, vn] w0 fun en w' => en = .returned (.bool true) ∧ Fr w0 w' := by
  have HNV := Lib.hid hn
  have hm := h.len_le
  unfold maxLen at hm
  obtain ⟨A, _, c, rfl, rfl, hl, hcm, hA, hs⟩ := h
  obtain ⟨An, _, cn, rfl, rfl, hnl, hncm, hnA, hns⟩ := hn
  have HS := Lib.hid hs
  have HN := Lib.hid hns
  clear hs hns hA hnA
  unfold maxLen at hcm hncm
  have I := St.refl w0
  by_cases hl3 : 60 < l.length
  · go_enter Try.func5, Try.ntmps5
    try dsimp only [List.append]
    go_wp2_with (first | (first | ((with_reducible refine gguard ?_); (first | refine w_guardT (by rfl) (fun hb => ?_) (fun hb => ?_) | refine w_guardF (by rfl) (fun hb => ?_) (fun hb => ?_)) <;> first | (cases hb; done) | cases hb | ((try rw [hb]) <;> (try simp at hb) <;> go_prune <;> (try (with_reducible replace hb := eqPair hb)))) | (((with_reducible refine gbox ?_); first | refine w_boxA I (by rfl) ?_ | refine w_box1 I (by (conv => lhs; whnf) <;> rfl) (by rfl) ?_); clear I; intro g w I) | ((with_reducible refine galloc ?_); refine w_alloc I ?_; clear I; intro g w I) | ((with_reducible refine gload ?_); first | refine w_loadB I (by rfl) (by first | (with_reducible repeat (first | exact .here | apply At.there)); done | repeat (first | exact .here | apply At.there)) (by rfl) ?_ | refine w_loadBR I (by rfl) (by first | (with_reducible repeat (first | exact .here | apply At.there)); done | repeat (first | exact .here | apply At.there)) (by rfl) ?_ | refine w_load0 I (by rfl) (by assumption) ?_) | ((with_reducible refine gstore ?_); (first | refine w_storeB I (by rfl) (by (conv => lhs; whnf) <;> rfl) (by first | (with_reducible repeat (first | exact .here | apply Upd.there)); done | repeat (first | exact .here | apply Upd.there)) (by rfl) (by rfl) (by simp only [List.set_cons_zero, List.set_cons_succ] <;> rfl) ?_ | refine w_storeBR I (by rfl) (by rfl) (by first | (with_reducible repeat (first | exact .here | apply Upd.there)); done | repeat (first | exact .here | apply Upd.there)) (by rfl) (by rfl) (by rfl) ?_); clear I; intro w I)) | (go_at_call 17; go_must (refine (law17_alive _).mono ?_; rintro _ w1 ⟨rfl, hf⟩; replace I := I.still hf; clear hf)))
    all_goals try omega
    go_ret
    exact ⟨rfl, I.fr⟩
  by_cases hl4 : 60 < now.length
  · go_enter Try.func5, Try.ntmps5
    try dsimp only [List.append]
    go_wp2_with (first | (first | ((with_reducible refine gguard ?_); (first | refine w_guardT (by rfl) (fun hb => ?_) (fun hb => ?_) | refine w_guardF (by rfl) (fun hb => ?_) (fun hb => ?_)) <;> first | (cases hb; done) | cases hb | ((try rw [hb]) <;> (try simp at hb) <;> go_prune <;> (try (with_reducible replace hb := eqPair hb)))) | (((with_reducible refine gbox ?_); first | refine w_boxA I (by rfl) ?_ | refine w_box1 I (by (conv => lhs; whnf) <;> rfl) (by rfl) ?_); clear I; intro g w I) | ((with_reducible refine galloc ?_); refine w_alloc I ?_; clear I; intro g w I) | ((with_reducible refine gload ?_); first | refine w_loadB I (by rfl) (by first | (with_reducible repeat (first | exact .here | apply At.there)); done | repeat (first | exact .here | apply At.there)) (by rfl) ?_ | refine w_loadBR I (by rfl) (by first | (with_reducible repeat (first | exact .here | apply At.there)); done | repeat (first | exact .here | apply At.there)) (by rfl) ?_ | refine w_load0 I (by rfl) (by assumption) ?_) | ((with_reducible refine gstore ?_); (first | refine w_storeB I (by rfl) (by (conv => lhs; whnf) <;> rfl) (by first | (with_reducible repeat (first | exact .here | apply Upd.there)); done | repeat (first | exact .here | apply Upd.there)) (by rfl) (by rfl) (by simp only [List.set_cons_zero, List.set_cons_succ] <;> rfl) ?_ | refine w_storeBR I (by rfl) (by rfl) (by first | (with_reducible repeat (first | exact .here | apply Upd.there)); done | repeat (first | exact .here | apply Upd.there)) (by rfl) (by rfl) (by rfl) ?_); clear I; intro w I)) | (go_at_call 17; go_must (refine (law17_alive _).mono ?_; rintro _ w1 ⟨rfl, hf⟩; replace I := I.still hf; clear hf)))
    all_goals try omega
    go_ret
    exact ⟨rfl, I.fr⟩
  go_enter Try.func5, Try.ntmps5
  try dsimp only [List.append]
  go_wp2_with (first | (first | ((with_reducible refine gguard ?_); (first | refine w_guardT (by rfl) (fun hb => ?_) (fun hb => ?_) | refine w_guardF (by rfl) (fun hb => ?_) (fun hb => ?_)) <;> first | (cases hb; done) | cases hb | ((try rw [hb]) <;> (try simp at hb) <;> go_prune <;> (try (with_reducible replace hb := eqPair hb)))) | (((with_reducible refine gbox ?_); first | refine w_boxA I (by rfl) ?_ | refine w_box1 I (by (conv => lhs; whnf) <;> rfl) (by rfl) ?_); clear I; intro g w I) | ((with_reducible refine galloc ?_); refine w_alloc I ?_; clear I; intro g w I) | ((with_reducible refine gload ?_); first | refine w_loadB I (by rfl) (by first | (with_reducible repeat (first | exact .here | apply At.there)); done | repeat (first | exact .here | apply At.there)) (by rfl) ?_ | refine w_loadBR I (by rfl) (by first | (with_reducible repeat (first | exact .here | apply At.there)); done | repeat (first | exact .here | apply At.there)) (by rfl) ?_ | refine w_load0 I (by rfl) (by assumption) ?_) | ((with_reducible refine gstore ?_); (first | refine w_storeB I (by rfl) (by (conv => lhs; whnf) <;> rfl) (by first | (with_reducible repeat (first | exact .here | apply Upd.there)); done | repeat (first | exact .here | apply Upd.there)) (by rfl) (by rfl) (by simp only [List.set_cons_zero, List.set_cons_succ] <;> rfl) ?_ | refine w_storeBR I (by rfl) (by rfl) (by first | (with_reducible repeat (first | exact .here | apply Upd.there)); done | repeat (first | exact .here | apply Upd.there)) (by rfl) (by rfl) (by rfl) ?_); clear I; intro w I)) | (go_at_call 25; go_must (refine (cert_New _ _ _ I).mono ?_; rintro _ w1 ⟨gb, rfl, S⟩; clear I; have I := S; clear S)))
  all_goals try omega
  have J := I.nilOwn 38 8 encC
  clear I
  go_loopw [8, 9] (fun mv iv wr => ∃ (k : Nat) (lo : List Cert) (vm : Value), mv = vm ∧ iv = .int .i64 k ∧ k ≤ l.length ∧ lo.length ≤ k ∧ St w0 wr [OwnS 38 8 encC vm lo, BkC gb lo]) (fun _ iv _ => l.length - (intOf iv).toNat)
  case atStart => exact ⟨0, [], _, rfl, rfl, by omega, by simp, J⟩
  case round =>
    clear J
    obtain ⟨k, lo, vm, rfl, rfl, hk, hlo, I⟩ := hrel
    rename World => wr
    by_cases hlt : k < l.length
    · obtain ⟨b, o, rfl, cs, _, rfl, h3⟩ := HS.out.at_ k hlt
      have H3 := Lib.hid h3
      clear h3
      have hkl : (k : Int) < (l.length : Int) := by omega
      have qk := IntWalk.i64_in ((k : Int) + 1) (by omega)
      generalize l[k] = x at *
      have HIL := Lib.hid (issue_len lo x)
      have HIa := Lib.hid (fun wx L R (J : St w0 wx L) (hA : At (BkC gb lo) L R) => cert_Issue gb lo x (by omega) w0 wx L R J hA)
      have HIb := Lib.hid (fun v wx L R (J : St w0 wx L) (hA : At (OwnS 38 8 encC v lo) L R) => ref17_Issue v lo x (by omega) w0 wx L R J hA)
      generalize Crt.issue lo x = q at HIL HIa HIb
      obtain ⟨lo2, n, e⟩ := q
      dsimp only at HIL HIa HIb
      go_wp2_with (first | ((with_reducible refine gload (ty := 38) ?_); refine w_loadR (n := 8) (cs := encC x) (by rfl) rfl (fun j u hj => by rw [addr_add]; exact I.fr.cell (H3.out j u hj)) ?_) | (first | ((with_reducible refine gguard ?_); (first | refine w_guardT (by rfl) (fun hb => ?_) (fun hb => ?_) | refine w_guardF (by rfl) (fun hb => ?_) (fun hb => ?_)) <;> first | (cases hb; done) | cases hb | ((try rw [hb]) <;> (try simp at hb) <;> go_prune <;> (try (with_reducible replace hb := eqPair hb)))) | (((with_reducible refine gbox ?_); first | refine w_boxA I (by rfl) ?_ | refine w_box1 I (by (conv => lhs; whnf) <;> rfl) (by rfl) ?_); clear I; intro g w I) | ((with_reducible refine galloc ?_); refine w_alloc I ?_; clear I; intro g w I) | ((with_reducible refine gload ?_); first | refine w_loadB I (by rfl) (by first | (with_reducible repeat (first | exact .here | apply At.there)); done | repeat (first | exact .here | apply At.there)) (by rfl) ?_ | refine w_loadBR I (by rfl) (by first | (with_reducible repeat (first | exact .here | apply At.there)); done | repeat (first | exact .here | apply At.there)) (by rfl) ?_ | refine w_load0 I (by rfl) (by assumption) ?_) | ((with_reducible refine gstore ?_); (first | refine w_storeB I (by rfl) (by (conv => lhs; whnf) <;> rfl) (by first | (with_reducible repeat (first | exact .here | apply Upd.there)); done | repeat (first | exact .here | apply Upd.there)) (by rfl) (by rfl) (by simp only [List.set_cons_zero, List.set_cons_succ] <;> rfl) ?_ | refine w_storeBR I (by rfl) (by rfl) (by first | (with_reducible repeat (first | exact .here | apply Upd.there)); done | repeat (first | exact .here | apply Upd.there)) (by rfl) (by rfl) (by rfl) ?_); clear I; intro w I)) | (go_at_call 26; go_must (refine (HIa.out _ _ _ I (.there .here)).mono ?_; rintro _ w1 ⟨rfl, S⟩; clear I; have I := S; clear S)) | (go_at_call 27; go_must (refine (HIb.out _ _ _ _ I (.there .here)).mono ?_; rintro _ w1 ⟨v2, rfl, S⟩; clear I; have I := S; clear S)))
      all_goals try omega
      go_roundw
      case rel => exact ⟨k + 1, lo2, v2, rfl, by go_num, by omega, by have := HIL.out; omega, I⟩
      case measure => simp [intOf]; omega
    · obtain rfl : k = l.length := by omega
      obtain ⟨Am, cm, rfl, hcm1, hcm2, _⟩ := (I.own .here).reads encC_len
      unfold maxLen at hcm2
      go_wp2_with (first | ((with_reducible refine gguard ?_); (first | refine w_guardT (by rfl) (fun hb => ?_) (fun hb => ?_) | refine w_guardF (by rfl) (fun hb => ?_) (fun hb => ?_)) <;> first | (cases hb; done) | cases hb | ((try rw [hb]) <;> (try simp at hb) <;> go_prune <;> (try (with_reducible replace hb := eqPair hb)))) | (((with_reducible refine gbox ?_); first | refine w_boxA I (by rfl) ?_ | refine w_box1 I (by (conv => lhs; whnf) <;> rfl) (by rfl) ?_); clear I; intro g w I) | ((with_reducible refine galloc ?_); refine w_alloc I ?_; clear I; intro g w I) | ((with_reducible refine gload ?_); first | refine w_loadB I (by rfl) (by first | (with_reducible repeat (first | exact .here | apply At.there)); done | repeat (first | exact .here | apply At.there)) (by rfl) ?_ | refine w_loadBR I (by rfl) (by first | (with_reducible repeat (first | exact .here | apply At.there)); done | repeat (first | exact .here | apply At.there)) (by rfl) ?_ | refine w_load0 I (by rfl) (by assumption) ?_) | ((with_reducible refine gstore ?_); (first | refine w_storeB I (by rfl) (by (conv => lhs; whnf) <;> rfl) (by first | (with_reducible repeat (first | exact .here | apply Upd.there)); done | repeat (first | exact .here | apply Upd.there)) (by rfl) (by rfl) (by simp only [List.set_cons_zero, List.set_cons_succ] <;> rfl) ?_ | refine w_storeBR I (by rfl) (by rfl) (by first | (with_reducible repeat (first | exact .here | apply Upd.there)); done | repeat (first | exact .here | apply Upd.there)) (by rfl) (by rfl) (by rfl) ?_); clear I; intro w I))
      have J := I.nilOwn 3 1 encI
      clear I
      go_loopw [15, 16] (fun wv iv wx => ∃ (k : Nat) (vw : Value), wv = vw ∧ iv = .int .i64 k ∧ k ≤ lo.length ∧ St w0 wx [OwnS 3 1 encI vw (Crt.flags now lo k), OwnS 38 8 encC (.slice Am lo.length cm) lo, BkC gb lo]) (fun _ iv _ => lo.length - (intOf iv).toNat)
      case atStart => exact ⟨0, _, rfl, rfl, by omega, J⟩
      case round =>
        clear J
        obtain ⟨k, vw, rfl, rfl, hk, I⟩ := hrel
        rename World => wz
        by_cases hlt : k < lo.length
        · obtain ⟨b, o, rfl, a0, a1, a2, a3, a4, a5, a6, a7⟩ := atC ((I.slv (.there .here) encC_len).sla) k hlt
          have hkl : (k : Int) < (lo.length : Int) := by omega
          have qk := IntWalk.i64_in ((k : Int) + 1) (by omega)
          have HY := Lib.hid (fun h1 => Crt.flags_yes now lo k hlt h1)
          have HNo := Lib.hid (Crt.flags_no now lo k hlt)
          have HFl := Lib.hid (Crt.flags_len now lo k)
          generalize lo[k] = x at *
          by_cases hk1 : k < now.length
          · obtain ⟨bn, on, rfl, hcn0⟩ := HN.out.atI k hk1
            have hcn := I.fr.cell hcn0
            clear hcn0
            have hd1 : decide ((k : Int) < (now.length : Int)) = true := decide_eq_true (by omega)
            have hk2 : (k : Int) < (now.length : Int) := by omega
            have HY := Lib.hid (HY.out hk1)
            by_cases h2 : x.allowance < now[k]
            · have HE := Lib.hid (HY.out h2)
              have hd2 : decide (x.allowance < now[k]) = true := decide_eq_true h2
              clear HY HNo h2
              generalize now[k] = nk at *
              generalize hF : Crt.flags now lo k = fk at *
              go_wp2_with (first | ((with_reducible refine gguard ?_); (first | refine w_guardT (by rfl) (fun hb => ?_) (fun hb => ?_) | refine w_guardF (by rfl) (fun hb => ?_) (fun hb => ?_)) <;> first | (cases hb; done) | cases hb | ((try rw [hb]) <;> (try simp at hb) <;> go_prune <;> (try (with_reducible replace hb := eqPair hb)))) | (((with_reducible refine gbox ?_); first | refine w_boxA I (by rfl) ?_ | refine w_box1 I (by (conv => lhs; whnf) <;> rfl) (by rfl) ?_); clear I; intro g w I) | ((with_reducible refine galloc ?_); refine w_alloc I ?_; clear I; intro g w I) | ((with_reducible refine gload ?_); first | refine w_loadB I (by rfl) (by first | (with_reducible repeat (first | exact .here | apply At.there)); done | repeat (first | exact .here | apply At.there)) (by rfl) ?_ | refine w_loadBR I (by rfl) (by first | (with_reducible repeat (first | exact .here | apply At.there)); done | repeat (first | exact .here | apply At.there)) (by rfl) ?_ | refine w_load0 I (by rfl) (by assumption) ?_) | ((with_reducible refine gstore ?_); (first | refine w_storeB I (by rfl) (by (conv => lhs; whnf) <;> rfl) (by first | (with_reducible repeat (first | exact .here | apply Upd.there)); done | repeat (first | exact .here | apply Upd.there)) (by rfl) (by rfl) (by simp only [List.set_cons_zero, List.set_cons_succ] <;> rfl) ?_ | refine w_storeBR I (by rfl) (by rfl) (by first | (with_reducible repeat (first | exact .here | apply Upd.there)); done | repeat (first | exact .here | apply Upd.there)) (by rfl) (by rfl) (by rfl) ?_); clear I; intro w I))
              have F := I.facts
              dsimp only [AllF, Asr.facts, Blk, OwnS] at F
              go_quiet (fail)
              replace I := I.drewN ‹Nat›
              clear F
              go_wp2_with (first | (((with_reducible refine gbs ?_); refine w_bs1 (enc := encI) (b := x.id) encI_len I (by rfl) (by rfl) (by rfl) ?_); clear I; intro g w I) | ((with_reducible refine gappend ?_); refine w_append encI_len encI_one (by decide) I (by rfl) (by first | (with_reducible repeat (first | exact .here | apply At.there)); done | repeat (first | exact .here | apply At.there)) (by rfl) (l2 := [x.id]) (I.slv .here encI_len) (by have := HFl.out; first | omega | (simp <;> omega)) (by have := HFl.out; unfold maxLen; first | omega | (simp <;> omega)) ?_; clear I; intro A m c w I) | (first | ((with_reducible refine gguard ?_); (first | refine w_guardT (by rfl) (fun hb => ?_) (fun hb => ?_) | refine w_guardF (by rfl) (fun hb => ?_) (fun hb => ?_)) <;> first | (cases hb; done) | cases hb | ((try rw [hb]) <;> (try simp at hb) <;> go_prune <;> (try (with_reducible replace hb := eqPair hb)))) | (((with_reducible refine gbox ?_); first | refine w_boxA I (by rfl) ?_ | refine w_box1 I (by (conv => lhs; whnf) <;> rfl) (by rfl) ?_); clear I; intro g w I) | ((with_reducible refine galloc ?_); refine w_alloc I ?_; clear I; intro g w I) | ((with_reducible refine gload ?_); first | refine w_loadB I (by rfl) (by first | (with_reducible repeat (first | exact .here | apply At.there)); done | repeat (first | exact .here | apply At.there)) (by rfl) ?_ | refine w_loadBR I (by rfl) (by first | (with_reducible repeat (first | exact .here | apply At.there)); done | repeat (first | exact .here | apply At.there)) (by rfl) ?_ | refine w_load0 I (by rfl) (by assumption) ?_) | ((with_reducible refine gstore ?_); (first | refine w_storeB I (by rfl) (by (conv => lhs; whnf) <;> rfl) (by first | (with_reducible repeat (first | exact .here | apply Upd.there)); done | repeat (first | exact .here | apply Upd.there)) (by rfl) (by rfl) (by simp only [List.set_cons_zero, List.set_cons_succ] <;> rfl) ?_ | refine w_storeBR I (by rfl) (by rfl) (by first | (with_reducible repeat (first | exact .here | apply Upd.there)); done | repeat (first | exact .here | apply Upd.there)) (by rfl) (by rfl) (by rfl) ?_); clear I; intro w I)))
              go_roundw
              case rel => exact ⟨k + 1, _, rfl, by go_num, by omega, by rw [HE.out]; exact I.drop (.there .here)⟩
              case measure => simp [intOf]; omega
            · have HE := Lib.hid (HNo.out (fun _ => h2))
              have hd2 : decide (x.allowance < now[k]) = false := decide_eq_false h2
              clear HY HNo h2
              generalize now[k] = nk at *
              generalize hF : Crt.flags now lo k = fk at *
              go_wp2_with (first | ((with_reducible refine gguard ?_); (first | refine w_guardT (by rfl) (fun hb => ?_) (fun hb => ?_) | refine w_guardF (by rfl) (fun hb => ?_) (fun hb => ?_)) <;> first | (cases hb; done) | cases hb | ((try rw [hb]) <;> (try simp at hb) <;> go_prune <;> (try (with_reducible replace hb := eqPair hb)))) | (((with_reducible refine gbox ?_); first | refine w_boxA I (by rfl) ?_ | refine w_box1 I (by (conv => lhs; whnf) <;> rfl) (by rfl) ?_); clear I; intro g w I) | ((with_reducible refine galloc ?_); refine w_alloc I ?_; clear I; intro g w I) | ((with_reducible refine gload ?_); first | refine w_loadB I (by rfl) (by first | (with_reducible repeat (first | exact .here | apply At.there)); done | repeat (first | exact .here | apply At.there)) (by rfl) ?_ | refine w_loadBR I (by rfl) (by first | (with_reducible repeat (first | exact .here | apply At.there)); done | repeat (first | exact .here | apply At.there)) (by rfl) ?_ | refine w_load0 I (by rfl) (by assumption) ?_) | ((with_reducible refine gstore ?_); (first | refine w_storeB I (by rfl) (by (conv => lhs; whnf) <;> rfl) (by first | (with_reducible repeat (first | exact .here | apply Upd.there)); done | repeat (first | exact .here | apply Upd.there)) (by rfl) (by rfl) (by simp only [List.set_cons_zero, List.set_cons_succ] <;> rfl) ?_ | refine w_storeBR I (by rfl) (by rfl) (by first | (with_reducible repeat (first | exact .here | apply Upd.there)); done | repeat (first | exact .here | apply Upd.there)) (by rfl) (by rfl) (by rfl) ?_); clear I; intro w I))
              have F := I.facts
              dsimp only [AllF, Asr.facts, Blk, OwnS] at F
              go_quiet (fail)
              replace I := I.drewN ‹Nat›
              clear F
              go_wp2_with (first | ((with_reducible refine gguard ?_); (first | refine w_guardT (by rfl) (fun hb => ?_) (fun hb => ?_) | refine w_guardF (by rfl) (fun hb => ?_) (fun hb => ?_)) <;> first | (cases hb; done) | cases hb | ((try rw [hb]) <;> (try simp at hb) <;> go_prune <;> (try (with_reducible replace hb := eqPair hb)))) | (((with_reducible refine gbox ?_); first | refine w_boxA I (by rfl) ?_ | refine w_box1 I (by (conv => lhs; whnf) <;> rfl) (by rfl) ?_); clear I; intro g w I) | ((with_reducible refine galloc ?_); refine w_alloc I ?_; clear I; intro g w I) | ((with_reducible refine gload ?_); first | refine w_loadB I (by rfl) (by first | (with_reducible repeat (first | exact .here | apply At.there)); done | repeat (first | exact .here | apply At.there)) (by rfl) ?_ | refine w_loadBR I (by rfl) (by first | (with_reducible repeat (first | exact .here | apply At.there)); done | repeat (first | exact .here | apply At.there)) (by rfl) ?_ | refine w_load0 I (by rfl) (by assumption) ?_) | ((with_reducible refine gstore ?_); (first | refine w_storeB I (by rfl) (by (conv => lhs; whnf) <;> rfl) (by first | (with_reducible repeat (first | exact .here | apply Upd.there)); done | repeat (first | exact .here | apply Upd.there)) (by rfl) (by rfl) (by simp only [List.set_cons_zero, List.set_cons_succ] <;> rfl) ?_ | refine w_storeBR I (by rfl) (by rfl) (by first | (with_reducible repeat (first | exact .here | apply Upd.there)); done | repeat (first | exact .here | apply Upd.there)) (by rfl) (by rfl) (by rfl) ?_); clear I; intro w I))
              go_roundw
              case rel => exact ⟨k + 1, _, rfl, by go_num, by omega, by rw [HE.out]; exact I⟩
              case measure => simp [intOf]; omega
          · have hd1 : decide ((k : Int) < (now.length : Int)) = false := decide_eq_false (by omega)
            have HE := Lib.hid (HNo.out (fun h => absurd h hk1))
            clear HY HNo
            generalize hF : Crt.flags now lo k = fk at *
            go_wp2_with (first | ((with_reducible refine gguard ?_); (first | refine w_guardT (by rfl) (fun hb => ?_) (fun hb => ?_) | refine w_guardF (by rfl) (fun hb => ?_) (fun hb => ?_)) <;> first | (cases hb; done) | cases hb | ((try rw [hb]) <;> (try simp at hb) <;> go_prune <;> (try (with_reducible replace hb := eqPair hb)))) | (((with_reducible refine gbox ?_); first | refine w_boxA I (by rfl) ?_ | refine w_box1 I (by (conv => lhs; whnf) <;> rfl) (by rfl) ?_); clear I; intro g w I) | ((with_reducible refine galloc ?_); refine w_alloc I ?_; clear I; intro g w I) | ((with_reducible refine gload ?_); first | refine w_loadB I (by rfl) (by first | (with_reducible repeat (first | exact .here | apply At.there)); done | repeat (first | exact .here | apply At.there)) (by rfl) ?_ | refine w_loadBR I (by rfl) (by first | (with_reducible repeat (first | exact .here | apply At.there)); done | repeat (first | exact .here | apply At.there)) (by rfl) ?_ | refine w_load0 I (by rfl) (by assumption) ?_) | ((with_reducible refine gstore ?_); (first | refine w_storeB I (by rfl) (by (conv => lhs; whnf) <;> rfl) (by first | (with_reducible repeat (first | exact .here | apply Upd.there)); done | repeat (first | exact .here | apply Upd.there)) (by rfl) (by rfl) (by simp only [List.set_cons_zero, List.set_cons_succ] <;> rfl) ?_ | refine w_storeBR I (by rfl) (by rfl) (by first | (with_reducible repeat (first | exact .here | apply Upd.there)); done | repeat (first | exact .here | apply Upd.there)) (by rfl) (by rfl) (by rfl) ?_); clear I; intro w I))
            have F := I.facts
            dsimp only [AllF, Asr.facts, Blk, OwnS] at F
            go_quiet (fail)
            replace I := I.drewN ‹Nat›
            clear F
            go_wp2_with (first | ((with_reducible refine gguard ?_); (first | refine w_guardT (by rfl) (fun hb => ?_) (fun hb => ?_) | refine w_guardF (by rfl) (fun hb => ?_) (fun hb => ?_)) <;> first | (cases hb; done) | cases hb | ((try rw [hb]) <;> (try simp at hb) <;> go_prune <;> (try (with_reducible replace hb := eqPair hb)))) | (((with_reducible refine gbox ?_); first | refine w_boxA I (by rfl) ?_ | refine w_box1 I (by (conv => lhs; whnf) <;> rfl) (by rfl) ?_); clear I; intro g w I) | ((with_reducible refine galloc ?_); refine w_alloc I ?_; clear I; intro g w I) | ((with_reducible refine gload ?_); first | refine w_loadB I (by rfl) (by first | (with_reducible repeat (first | exact .here | apply At.there)); done | repeat (first | exact .here | apply At.there)) (by rfl) ?_ | refine w_loadBR I (by rfl) (by first | (with_reducible repeat (first | exact .here | apply At.there)); done | repeat (first | exact .here | apply At.there)) (by rfl) ?_ | refine w_load0 I (by rfl) (by assumption) ?_) | ((with_reducible refine gstore ?_); (first | refine w_storeB I (by rfl) (by (conv => lhs; whnf) <;> rfl) (by first | (with_reducible repeat (first | exact .here | apply Upd.there)); done | repeat (first | exact .here | apply Upd.there)) (by rfl) (by rfl) (by simp only [List.set_cons_zero, List.set_cons_succ] <;> rfl) ?_ | refine w_storeBR I (by rfl) (by rfl) (by first | (with_reducible repeat (first | exact .here | apply Upd.there)); done | repeat (first | exact .here | apply Upd.there)) (by rfl) (by rfl) (by rfl) ?_); clear I; intro w I))
            go_roundw
            case rel => exact ⟨k + 1, _, rfl, by go_num, by omega, by rw [HE.out]; exact I⟩
            case measure => simp [intOf]; omega
        · obtain rfl : k = lo.length := by omega
          have hkk : ¬ ((lo.length : Int) < (lo.length : Int)) := by omega
          obtain ⟨Aw, cw, rfl, hcw, hcw2, _⟩ := (I.own .here).reads encI_len
          have HNF := Lib.hid (flags_nil lo lo.length)
          have hFLl := Crt.flags_len now lo lo.length
          obtain ⟨FL, hFL⟩ : ∃ q, Crt.flags now lo lo.length = q := ⟨_, rfl⟩
          rw [hFL] at I hFLl hcw ⊢
          have HFE := Lib.hid hFL
          clear hFL
          by_cases hone : 1 ≤ id ∧ id ≤ (lo.length : Int)
          · obtain ⟨j, hj⟩ : ∃ j : Nat, id = (j : Int) + 1 := ⟨id.toNat - 1, by omega⟩
            subst hj
            have hj1 : j < lo.length := by omega
            have HGet := Lib.hid (get_one lo j hj1)
            have HX := Lib.hid (fun wx (J : Certs wx (.slice Am lo.length cm) lo) => atC J.sla j hj1)
            have he := eq_cert lo[j] lo[j]
            rw [decide_eq_true rfl] at he
            generalize lo[j] = x at *
            have q1 := IntWalk.i64_in (j : Int) (by omega)
            have q2 : IntKind.i64.wrap ((j : Int) + 1 - 1) = (j : Int) := by rw [IntWalk.i64_in _ (by omega)]; omega
            have hjl : (j : Int) < (lo.length : Int) := by omega
            have hj0 : (0 : Int) ≤ (j : Int) := by omega
            have g1 : (1 : Int) ≤ (j : Int) + 1 := by omega
            have g2 : (j : Int) + 1 ≤ (lo.length : Int) := by omega
            have g1b : decide ((1 : Int) ≤ (j : Int) + 1) = true := decide_eq_true g1
            have g2b : decide ((j : Int) + 1 ≤ (lo.length : Int)) = true := decide_eq_true g2
            go_wp2_with (first | ((with_reducible refine gbox (ty := 38) ?_); (first | refine w_boxA I (by rfl) ?_ | refine w_box1 I (by (conv => lhs; whnf) <;> rfl) (by rfl) ?_); clear I; intro gx w I) | (first | ((with_reducible refine gguard ?_); (first | refine w_guardT (by rfl) (fun hb => ?_) (fun hb => ?_) | refine w_guardF (by rfl) (fun hb => ?_) (fun hb => ?_)) <;> first | (cases hb; done) | cases hb | ((try rw [hb]) <;> (try simp at hb) <;> go_prune <;> (try (with_reducible replace hb := eqPair hb)))) | (((with_reducible refine gbox ?_); first | refine w_boxA I (by rfl) ?_ | refine w_box1 I (by (conv => lhs; whnf) <;> rfl) (by rfl) ?_); clear I; intro g w I) | ((with_reducible refine galloc ?_); refine w_alloc I ?_; clear I; intro g w I) | ((with_reducible refine gload ?_); first | refine w_loadB I (by rfl) (by first | (with_reducible repeat (first | exact .here | apply At.there)); done | repeat (first | exact .here | apply At.there)) (by rfl) ?_ | refine w_loadBR I (by rfl) (by first | (with_reducible repeat (first | exact .here | apply At.there)); done | repeat (first | exact .here | apply At.there)) (by rfl) ?_ | refine w_load0 I (by rfl) (by assumption) ?_) | ((with_reducible refine gstore ?_); (first | refine w_storeB I (by rfl) (by (conv => lhs; whnf) <;> rfl) (by first | (with_reducible repeat (first | exact .here | apply Upd.there)); done | repeat (first | exact .here | apply Upd.there)) (by rfl) (by rfl) (by simp only [List.set_cons_zero, List.set_cons_succ] <;> rfl) ?_ | refine w_storeBR I (by rfl) (by rfl) (by first | (with_reducible repeat (first | exact .here | apply Upd.there)); done | repeat (first | exact .here | apply Upd.there)) (by rfl) (by rfl) (by rfl) ?_); clear I; intro w I)) | (go_at_call 28; go_must (refine (cert_Cert gb lo ((j : Int) + 1) _ _ _ _ I (by first | (with_reducible repeat (first | exact .here | apply At.there)); done | repeat (first | exact .here | apply At.there))).mono ?_; rintro _ w1 ⟨rfl, hf⟩; replace I := I.still hf; clear hf; rw [HGet.out]; dsimp only)))
            all_goals try omega
            obtain ⟨b, o, rfl, a0, a1, a2, a3, a4, a5, a6, a7⟩ := HX.out _ (I.slv (n := 8) (enc := encC) (l := lo) (by first | (with_reducible repeat (first | exact .here | apply At.there)); done | repeat (first | exact .here | apply At.there)) encC_len)
            have F := I.facts
            dsimp only [AllF, Asr.facts, Blk, OwnS] at F
            go_quiet (fail)
            replace I := I.drewN ‹Nat›
            clear F
            go_wp2_with (first | (first | ((with_reducible refine gguard ?_); (first | refine w_guardT (by rfl) (fun hb => ?_) (fun hb => ?_) | refine w_guardF (by rfl) (fun hb => ?_) (fun hb => ?_)) <;> first | (cases hb; done) | cases hb | ((try rw [hb]) <;> (try simp at hb) <;> go_prune <;> (try (with_reducible replace hb := eqPair hb)))) | (((with_reducible refine gbox ?_); first | refine w_boxA I (by rfl) ?_ | refine w_box1 I (by (conv => lhs; whnf) <;> rfl) (by rfl) ?_); clear I; intro g w I) | ((with_reducible refine galloc ?_); refine w_alloc I ?_; clear I; intro g w I) | ((with_reducible refine gload ?_); first | refine w_loadB I (by rfl) (by first | (with_reducible repeat (first | exact .here | apply At.there)); done | repeat (first | exact .here | apply At.there)) (by rfl) ?_ | refine w_loadBR I (by rfl) (by first | (with_reducible repeat (first | exact .here | apply At.there)); done | repeat (first | exact .here | apply At.there)) (by rfl) ?_ | refine w_load0 I (by rfl) (by assumption) ?_) | ((with_reducible refine gstore ?_); (first | refine w_storeB I (by rfl) (by (conv => lhs; whnf) <;> rfl) (by first | (with_reducible repeat (first | exact .here | apply Upd.there)); done | repeat (first | exact .here | apply Upd.there)) (by rfl) (by rfl) (by simp only [List.set_cons_zero, List.set_cons_succ] <;> rfl) ?_ | refine w_storeBR I (by rfl) (by rfl) (by first | (with_reducible repeat (first | exact .here | apply Upd.there)); done | repeat (first | exact .here | apply Upd.there)) (by rfl) (by rfl) (by rfl) ?_); clear I; intro w I)) | (go_at_call 30; go_must (refine (cert_All gb lo (by omega) _ _ _ _ I (by first | (with_reducible repeat (first | exact .here | apply At.there)); done | repeat (first | exact .here | apply At.there))).mono ?_; rintro _ w1 ⟨va, rfl, S⟩; replace I := I.then1 S; clear S)) | (go_at_call 29; go_must (refine (ref17_Same _ _ lo lo _ (I.slv (n := 8) (enc := encC) (by first | (with_reducible repeat (first | exact .here | apply At.there)); done | repeat (first | exact .here | apply At.there)) encC_len) (I.slv (n := 8) (enc := encC) (by first | (with_reducible repeat (first | exact .here | apply At.there)); done | repeat (first | exact .here | apply At.there)) encC_len)).mono ?_; rintro _ w1 ⟨rfl, hf⟩; replace I := I.still hf.fr; clear hf; rw [beq_self_eq_true])) | (go_at_call 31; go_must (refine (cert_Flagged gb lo (by omega) _ now _ _ _ _ _ I (by first | (with_reducible repeat (first | exact .here | apply At.there)); done | repeat (first | exact .here | apply At.there)) (HNV.out.frF I.fr) rfl).mono ?_; rintro _ w1 ⟨vf, rfl, S⟩; rw [HFE.out] at S; replace I := I.then1 S; clear S; obtain ⟨Af, cf, rfl, hcf, hcf2, _⟩ := (I.own .here).reads encI_len)))
            have I3 : St w0 _ [OwnS 3 1 encI (.slice Af FL.length cf) FL, OwnS 3 1 encI (.slice Aw FL.length cw) FL, BkC gb lo] := St.left (L := [_, _, _]) (((I.take (A := BkC gb lo) (by first | (with_reducible repeat (first | exact .here | apply At.there)); done | repeat (first | exact .here | apply At.there))).take (A := OwnS 3 1 encI (.slice Aw FL.length cw) FL) (by first | (with_reducible repeat (first | exact .here | apply At.there)); done | repeat (first | exact .here | apply At.there))).take (A := OwnS 3 1 encI (.slice Af FL.length cf) FL) (by first | (with_reducible repeat (first | exact .here | apply At.there)); done | repeat (first | exact .here | apply At.there)))
            clear I
            go_loopw [22] (fun iv wx => ∃ k : Nat, iv = .int .i64 k ∧ k ≤ FL.length ∧ St w0 wx [OwnS 3 1 encI (.slice Af FL.length cf) FL, OwnS 3 1 encI (.slice Aw FL.length cw) FL, BkC gb lo]) (fun iv _ => FL.length - (intOf iv).toNat)
            case atStart => exact ⟨0, rfl, by omega, I3⟩
            case round =>
              clear I3
              obtain ⟨k, rfl, hk, I⟩ := hrel
              rename World => wy
              by_cases hlt : k < FL.length
              · obtain ⟨b1, o1, rfl, d1⟩ := (I.slv .here encI_len).sla.atI k hlt
                obtain ⟨b2, o2, rfl, d2⟩ := (I.slv (.there .here) encI_len).sla.atI k hlt
                have hkl : (k : Int) < (FL.length : Int) := by omega
                have qk := IntWalk.i64_in ((k : Int) + 1) (by omega)
                generalize FL[k] = y at d1 d2
                go_wp2_with fail
                go_quiet (fail)
                replace I := I.drewN ‹Nat›
                go_wp2_with fail
                go_roundw
                case rel => exact ⟨k + 1, by go_num, by omega, I⟩
                case measure => simp [intOf]; omega
              · obtain rfl : k = FL.length := by omega
                go_wp2_with (first | (first | ((with_reducible refine gguard ?_); (first | refine w_guardT (by rfl) (fun hb => ?_) (fun hb => ?_) | refine w_guardF (by rfl) (fun hb => ?_) (fun hb => ?_)) <;> first | (cases hb; done) | cases hb | ((try rw [hb]) <;> (try simp at hb) <;> go_prune <;> (try (with_reducible replace hb := eqPair hb)))) | (((with_reducible refine gbox ?_); first | refine w_boxA I (by rfl) ?_ | refine w_box1 I (by (conv => lhs; whnf) <;> rfl) (by rfl) ?_); clear I; intro g w I) | ((with_reducible refine galloc ?_); refine w_alloc I ?_; clear I; intro g w I) | ((with_reducible refine gload ?_); first | refine w_loadB I (by rfl) (by first | (with_reducible repeat (first | exact .here | apply At.there)); done | repeat (first | exact .here | apply At.there)) (by rfl) ?_ | refine w_loadBR I (by rfl) (by first | (with_reducible repeat (first | exact .here | apply At.there)); done | repeat (first | exact .here | apply At.there)) (by rfl) ?_ | refine w_load0 I (by rfl) (by assumption) ?_) | ((with_reducible refine gstore ?_); (first | refine w_storeB I (by rfl) (by (conv => lhs; whnf) <;> rfl) (by first | (with_reducible repeat (first | exact .here | apply Upd.there)); done | repeat (first | exact .here | apply Upd.there)) (by rfl) (by rfl) (by simp only [List.set_cons_zero, List.set_cons_succ] <;> rfl) ?_ | refine w_storeBR I (by rfl) (by rfl) (by first | (with_reducible repeat (first | exact .here | apply Upd.there)); done | repeat (first | exact .here | apply Upd.there)) (by rfl) (by rfl) (by rfl) ?_); clear I; intro w I)) | (go_at_call 26; ((with_reducible refine (cert_Issue_nil ⟨0, 0, 0, 0, 0, 0, 0, 0⟩ _).mono ?_); rintro _ w1 ⟨rfl, hf⟩; replace I := I.still hf; clear hf)) | (go_at_call 28; go_must (refine (cert_Cert_nil 1 _).mono ?_; rintro _ w1 ⟨rfl, hf⟩; replace I := I.still hf; clear hf)) | (go_at_call 17; go_must (refine (law17_alive _).mono ?_; rintro _ w1 ⟨rfl, hf⟩; replace I := I.still hf; clear hf)) | (go_at_call 30; go_must (refine (cert_All_nil _).mono ?_; rintro _ w1 ⟨rfl, rfl⟩)) | (go_at_call 31; ((with_reducible refine (cert_Flagged_nil _ _).mono ?_); rintro _ w1 ⟨rfl, hf⟩; replace I := I.still hf; clear hf)) | (go_at_call 31; ((with_reducible refine (cert_Flagged gb lo (by omega) (.slice none 0 0) [] _ _ _ _ _ I (by first | (with_reducible repeat (first | exact .here | apply At.there)); done | repeat (first | exact .here | apply At.there)) (SlV.nil _ _ _) rfl).mono ?_); rintro _ w1 ⟨v9, rfl, S⟩; rw [HNF.out] at S; replace I := I.then1 S; clear S; obtain ⟨A9, c9, rfl, h91, h92, _⟩ := (I.own .here).reads encI_len)))
                go_ret
                exact ⟨rfl, I.fr⟩
          · have hgn : id < 1 ∨ (lo.length : Int) < id := by omega
            have HGet := Lib.hid (get_no lo id hgn)
            have he := eq_cert ⟨0, 0, 0, 0, 0, 0, 0, 0⟩ ⟨0, 0, 0, 0, 0, 0, 0, 0⟩
            rw [decide_eq_true rfl] at he
            clear hone
            rcases hgn with hgn | hgn
            · have g1b : decide ((1 : Int) ≤ id) = false := decide_eq_false (by omega)
              go_wp2_with (first | (first | ((with_reducible refine gguard ?_); (first | refine w_guardT (by rfl) (fun hb => ?_) (fun hb => ?_) | refine w_guardF (by rfl) (fun hb => ?_) (fun hb => ?_)) <;> first | (cases hb; done) | cases hb | ((try rw [hb]) <;> (try simp at hb) <;> go_prune <;> (try (with_reducible replace hb := eqPair hb)))) | (((with_reducible refine gbox ?_); first | refine w_boxA I (by rfl) ?_ | refine w_box1 I (by (conv => lhs; whnf) <;> rfl) (by rfl) ?_); clear I; intro g w I) | ((with_reducible refine galloc ?_); refine w_alloc I ?_; clear I; intro g w I) | ((with_reducible refine gload ?_); first | refine w_loadB I (by rfl) (by first | (with_reducible repeat (first | exact .here | apply At.there)); done | repeat (first | exact .here | apply At.there)) (by rfl) ?_ | refine w_loadBR I (by rfl) (by first | (with_reducible repeat (first | exact .here | apply At.there)); done | repeat (first | exact .here | apply At.there)) (by rfl) ?_ | refine w_load0 I (by rfl) (by assumption) ?_) | ((with_reducible refine gstore ?_); (first | refine w_storeB I (by rfl) (by (conv => lhs; whnf) <;> rfl) (by first | (with_reducible repeat (first | exact .here | apply Upd.there)); done | repeat (first | exact .here | apply Upd.there)) (by rfl) (by rfl) (by simp only [List.set_cons_zero, List.set_cons_succ] <;> rfl) ?_ | refine w_storeBR I (by rfl) (by rfl) (by first | (with_reducible repeat (first | exact .here | apply Upd.there)); done | repeat (first | exact .here | apply Upd.there)) (by rfl) (by rfl) (by rfl) ?_); clear I; intro w I)) | (go_at_call 28; go_must (refine (cert_Cert gb lo id _ _ _ _ I (by first | (with_reducible repeat (first | exact .here | apply At.there)); done | repeat (first | exact .here | apply At.there))).mono ?_; rintro _ w1 ⟨rfl, hf⟩; replace I := I.still hf; clear hf; rw [HGet.out]; dsimp only)))
              all_goals try omega
              have F := I.facts
              dsimp only [AllF, Asr.facts, Blk, OwnS] at F
              go_quiet (fail)
              replace I := I.drewN ‹Nat›
              clear F
              go_wp2_with (first | (first | ((with_reducible refine gguard ?_); (first | refine w_guardT (by rfl) (fun hb => ?_) (fun hb => ?_) | refine w_guardF (by rfl) (fun hb => ?_) (fun hb => ?_)) <;> first | (cases hb; done) | cases hb | ((try rw [hb]) <;> (try simp at hb) <;> go_prune <;> (try (with_reducible replace hb := eqPair hb)))) | (((with_reducible refine gbox ?_); first | refine w_boxA I (by rfl) ?_ | refine w_box1 I (by (conv => lhs; whnf) <;> rfl) (by rfl) ?_); clear I; intro g w I) | ((with_reducible refine galloc ?_); refine w_alloc I ?_; clear I; intro g w I) | ((with_reducible refine gload ?_); first | refine w_loadB I (by rfl) (by first | (with_reducible repeat (first | exact .here | apply At.there)); done | repeat (first | exact .here | apply At.there)) (by rfl) ?_ | refine w_loadBR I (by rfl) (by first | (with_reducible repeat (first | exact .here | apply At.there)); done | repeat (first | exact .here | apply At.there)) (by rfl) ?_ | refine w_load0 I (by rfl) (by assumption) ?_) | ((with_reducible refine gstore ?_); (first | refine w_storeB I (by rfl) (by (conv => lhs; whnf) <;> rfl) (by first | (with_reducible repeat (first | exact .here | apply Upd.there)); done | repeat (first | exact .here | apply Upd.there)) (by rfl) (by rfl) (by simp only [List.set_cons_zero, List.set_cons_succ] <;> rfl) ?_ | refine w_storeBR I (by rfl) (by rfl) (by first | (with_reducible repeat (first | exact .here | apply Upd.there)); done | repeat (first | exact .here | apply Upd.there)) (by rfl) (by rfl) (by rfl) ?_); clear I; intro w I)) | (go_at_call 30; go_must (refine (cert_All gb lo (by omega) _ _ _ _ I (by first | (with_reducible repeat (first | exact .here | apply At.there)); done | repeat (first | exact .here | apply At.there))).mono ?_; rintro _ w1 ⟨va, rfl, S⟩; replace I := I.then1 S; clear S)) | (go_at_call 29; go_must (refine (ref17_Same _ _ lo lo _ (I.slv (n := 8) (enc := encC) (by first | (with_reducible repeat (first | exact .here | apply At.there)); done | repeat (first | exact .here | apply At.there)) encC_len) (I.slv (n := 8) (enc := encC) (by first | (with_reducible repeat (first | exact .here | apply At.there)); done | repeat (first | exact .here | apply At.there)) encC_len)).mono ?_; rintro _ w1 ⟨rfl, hf⟩; replace I := I.still hf.fr; clear hf; rw [beq_self_eq_true])) | (go_at_call 31; go_must (refine (cert_Flagged gb lo (by omega) _ now _ _ _ _ _ I (by first | (with_reducible repeat (first | exact .here | apply At.there)); done | repeat (first | exact .here | apply At.there)) (HNV.out.frF I.fr) rfl).mono ?_; rintro _ w1 ⟨vf, rfl, S⟩; rw [HFE.out] at S; replace I := I.then1 S; clear S; obtain ⟨Af, cf, rfl, hcf, hcf2, _⟩ := (I.own .here).reads encI_len)))
              have I3 : St w0 _ [OwnS 3 1 encI (.slice Af FL.length cf) FL, OwnS 3 1 encI (.slice Aw FL.length cw) FL, BkC gb lo] := St.left (L := [_, _, _]) (((I.take (A := BkC gb lo) (by first | (with_reducible repeat (first | exact .here | apply At.there)); done | repeat (first | exact .here | apply At.there))).take (A := OwnS 3 1 encI (.slice Aw FL.length cw) FL) (by first | (with_reducible repeat (first | exact .here | apply At.there)); done | repeat (first | exact .here | apply At.there))).take (A := OwnS 3 1 encI (.slice Af FL.length cf) FL) (by first | (with_reducible repeat (first | exact .here | apply At.there)); done | repeat (first | exact .here | apply At.there)))
              clear I
              go_loopw [22] (fun iv wx => ∃ k : Nat, iv = .int .i64 k ∧ k ≤ FL.length ∧ St w0 wx [OwnS 3 1 encI (.slice Af FL.length cf) FL, OwnS 3 1 encI (.slice Aw FL.length cw) FL, BkC gb lo]) (fun iv _ => FL.length - (intOf iv).toNat)
              case atStart => exact ⟨0, rfl, by omega, I3⟩
              case round =>
                clear I3
                obtain ⟨k, rfl, hk, I⟩ := hrel
                rename World => wy
                by_cases hlt : k < FL.length
                · obtain ⟨b1, o1, rfl, d1⟩ := (I.slv .here encI_len).sla.atI k hlt
                  obtain ⟨b2, o2, rfl, d2⟩ := (I.slv (.there .here) encI_len).sla.atI k hlt
                  have hkl : (k : Int) < (FL.length : Int) := by omega
                  have qk := IntWalk.i64_in ((k : Int) + 1) (by omega)
                  generalize FL[k] = y at d1 d2
                  go_wp2_with fail
                  go_quiet (fail)
                  replace I := I.drewN ‹Nat›
                  go_wp2_with fail
                  go_roundw
                  case rel => exact ⟨k + 1, by go_num, by omega, I⟩
                  case measure => simp [intOf]; omega
                · obtain rfl : k = FL.length := by omega
                  go_wp2_with (first | (first | ((with_reducible refine gguard ?_); (first | refine w_guardT (by rfl) (fun hb => ?_) (fun hb => ?_) | refine w_guardF (by rfl) (fun hb => ?_) (fun hb => ?_)) <;> first | (cases hb; done) | cases hb | ((try rw [hb]) <;> (try simp at hb) <;> go_prune <;> (try (with_reducible replace hb := eqPair hb)))) | (((with_reducible refine gbox ?_); first | refine w_boxA I (by rfl) ?_ | refine w_box1 I (by (conv => lhs; whnf) <;> rfl) (by rfl) ?_); clear I; intro g w I) | ((with_reducible refine galloc ?_); refine w_alloc I ?_; clear I; intro g w I) | ((with_reducible refine gload ?_); first | refine w_loadB I (by rfl) (by first | (with_reducible repeat (first | exact .here | apply At.there)); done | repeat (first | exact .here | apply At.there)) (by rfl) ?_ | refine w_loadBR I (by rfl) (by first | (with_reducible repeat (first | exact .here | apply At.there)); done | repeat (first | exact .here | apply At.there)) (by rfl) ?_ | refine w_load0 I (by rfl) (by assumption) ?_) | ((with_reducible refine gstore ?_); (first | refine w_storeB I (by rfl) (by (conv => lhs; whnf) <;> rfl) (by first | (with_reducible repeat (first | exact .here | apply Upd.there)); done | repeat (first | exact .here | apply Upd.there)) (by rfl) (by rfl) (by simp only [List.set_cons_zero, List.set_cons_succ] <;> rfl) ?_ | refine w_storeBR I (by rfl) (by rfl) (by first | (with_reducible repeat (first | exact .here | apply Upd.there)); done | repeat (first | exact .here | apply Upd.there)) (by rfl) (by rfl) (by rfl) ?_); clear I; intro w I)) | (go_at_call 26; ((with_reducible refine (cert_Issue_nil ⟨0, 0, 0, 0, 0, 0, 0, 0⟩ _).mono ?_); rintro _ w1 ⟨rfl, hf⟩; replace I := I.still hf; clear hf)) | (go_at_call 28; go_must (refine (cert_Cert_nil 1 _).mono ?_; rintro _ w1 ⟨rfl, hf⟩; replace I := I.still hf; clear hf)) | (go_at_call 17; go_must (refine (law17_alive _).mono ?_; rintro _ w1 ⟨rfl, hf⟩; replace I := I.still hf; clear hf)) | (go_at_call 30; go_must (refine (cert_All_nil _).mono ?_; rintro _ w1 ⟨rfl, rfl⟩)) | (go_at_call 31; ((with_reducible refine (cert_Flagged_nil _ _).mono ?_); rintro _ w1 ⟨rfl, hf⟩; replace I := I.still hf; clear hf)) | (go_at_call 31; ((with_reducible refine (cert_Flagged gb lo (by omega) (.slice none 0 0) [] _ _ _ _ _ I (by first | (with_reducible repeat (first | exact .here | apply At.there)); done | repeat (first | exact .here | apply At.there)) (SlV.nil _ _ _) rfl).mono ?_); rintro _ w1 ⟨v9, rfl, S⟩; rw [HNF.out] at S; replace I := I.then1 S; clear S; obtain ⟨A9, c9, rfl, h91, h92, _⟩ := (I.own .here).reads encI_len)))
                  go_ret
                  exact ⟨rfl, I.fr⟩
            · have g1b : decide ((1 : Int) ≤ id) = true := decide_eq_true (by omega)
              have g2b : decide (id ≤ (lo.length : Int)) = false := decide_eq_false (by omega)
              go_wp2_with (first | (first | ((with_reducible refine gguard ?_); (first | refine w_guardT (by rfl) (fun hb => ?_) (fun hb => ?_) | refine w_guardF (by rfl) (fun hb => ?_) (fun hb => ?_)) <;> first | (cases hb; done) | cases hb | ((try rw [hb]) <;> (try simp at hb) <;> go_prune <;> (try (with_reducible replace hb := eqPair hb)))) | (((with_reducible refine gbox ?_); first | refine w_boxA I (by rfl) ?_ | refine w_box1 I (by (conv => lhs; whnf) <;> rfl) (by rfl) ?_); clear I; intro g w I) | ((with_reducible refine galloc ?_); refine w_alloc I ?_; clear I; intro g w I) | ((with_reducible refine gload ?_); first | refine w_loadB I (by rfl) (by first | (with_reducible repeat (first | exact .here | apply At.there)); done | repeat (first | exact .here | apply At.there)) (by rfl) ?_ | refine w_loadBR I (by rfl) (by first | (with_reducible repeat (first | exact .here | apply At.there)); done | repeat (first | exact .here | apply At.there)) (by rfl) ?_ | refine w_load0 I (by rfl) (by assumption) ?_) | ((with_reducible refine gstore ?_); (first | refine w_storeB I (by rfl) (by (conv => lhs; whnf) <;> rfl) (by first | (with_reducible repeat (first | exact .here | apply Upd.there)); done | repeat (first | exact .here | apply Upd.there)) (by rfl) (by rfl) (by simp only [List.set_cons_zero, List.set_cons_succ] <;> rfl) ?_ | refine w_storeBR I (by rfl) (by rfl) (by first | (with_reducible repeat (first | exact .here | apply Upd.there)); done | repeat (first | exact .here | apply Upd.there)) (by rfl) (by rfl) (by rfl) ?_); clear I; intro w I)) | (go_at_call 28; go_must (refine (cert_Cert gb lo id _ _ _ _ I (by first | (with_reducible repeat (first | exact .here | apply At.there)); done | repeat (first | exact .here | apply At.there))).mono ?_; rintro _ w1 ⟨rfl, hf⟩; replace I := I.still hf; clear hf; rw [HGet.out]; dsimp only)))
              all_goals try omega
              have F := I.facts
              dsimp only [AllF, Asr.facts, Blk, OwnS] at F
              go_quiet (fail)
              replace I := I.drewN ‹Nat›
              clear F
              go_wp2_with (first | (first | ((with_reducible refine gguard ?_); (first | refine w_guardT (by rfl) (fun hb => ?_) (fun hb => ?_) | refine w_guardF (by rfl) (fun hb => ?_) (fun hb => ?_)) <;> first | (cases hb; done) | cases hb | ((try rw [hb]) <;> (try simp at hb) <;> go_prune <;> (try (with_reducible replace hb := eqPair hb)))) | (((with_reducible refine gbox ?_); first | refine w_boxA I (by rfl) ?_ | refine w_box1 I (by (conv => lhs; whnf) <;> rfl) (by rfl) ?_); clear I; intro g w I) | ((with_reducible refine galloc ?_); refine w_alloc I ?_; clear I; intro g w I) | ((with_reducible refine gload ?_); first | refine w_loadB I (by rfl) (by first | (with_reducible repeat (first | exact .here | apply At.there)); done | repeat (first | exact .here | apply At.there)) (by rfl) ?_ | refine w_loadBR I (by rfl) (by first | (with_reducible repeat (first | exact .here | apply At.there)); done | repeat (first | exact .here | apply At.there)) (by rfl) ?_ | refine w_load0 I (by rfl) (by assumption) ?_) | ((with_reducible refine gstore ?_); (first | refine w_storeB I (by rfl) (by (conv => lhs; whnf) <;> rfl) (by first | (with_reducible repeat (first | exact .here | apply Upd.there)); done | repeat (first | exact .here | apply Upd.there)) (by rfl) (by rfl) (by simp only [List.set_cons_zero, List.set_cons_succ] <;> rfl) ?_ | refine w_storeBR I (by rfl) (by rfl) (by first | (with_reducible repeat (first | exact .here | apply Upd.there)); done | repeat (first | exact .here | apply Upd.there)) (by rfl) (by rfl) (by rfl) ?_); clear I; intro w I)) | (go_at_call 30; go_must (refine (cert_All gb lo (by omega) _ _ _ _ I (by first | (with_reducible repeat (first | exact .here | apply At.there)); done | repeat (first | exact .here | apply At.there))).mono ?_; rintro _ w1 ⟨va, rfl, S⟩; replace I := I.then1 S; clear S)) | (go_at_call 29; go_must (refine (ref17_Same _ _ lo lo _ (I.slv (n := 8) (enc := encC) (by first | (with_reducible repeat (first | exact .here | apply At.there)); done | repeat (first | exact .here | apply At.there)) encC_len) (I.slv (n := 8) (enc := encC) (by first | (with_reducible repeat (first | exact .here | apply At.there)); done | repeat (first | exact .here | apply At.there)) encC_len)).mono ?_; rintro _ w1 ⟨rfl, hf⟩; replace I := I.still hf.fr; clear hf; rw [beq_self_eq_true])) | (go_at_call 31; go_must (refine (cert_Flagged gb lo (by omega) _ now _ _ _ _ _ I (by first | (with_reducible repeat (first | exact .here | apply At.there)); done | repeat (first | exact .here | apply At.there)) (HNV.out.frF I.fr) rfl).mono ?_; rintro _ w1 ⟨vf, rfl, S⟩; rw [HFE.out] at S; replace I := I.then1 S; clear S; obtain ⟨Af, cf, rfl, hcf, hcf2, _⟩ := (I.own .here).reads encI_len)))
              have I3 : St w0 _ [OwnS 3 1 encI (.slice Af FL.length cf) FL, OwnS 3 1 encI (.slice Aw FL.length cw) FL, BkC gb lo] := St.left (L := [_, _, _]) (((I.take (A := BkC gb lo) (by first | (with_reducible repeat (first | exact .here | apply At.there)); done | repeat (first | exact .here | apply At.there))).take (A := OwnS 3 1 encI (.slice Aw FL.length cw) FL) (by first | (with_reducible repeat (first | exact .here | apply At.there)); done | repeat (first | exact .here | apply At.there))).take (A := OwnS 3 1 encI (.slice Af FL.length cf) FL) (by first | (with_reducible repeat (first | exact .here | apply At.there)); done | repeat (first | exact .here | apply At.there)))
              clear I
              go_loopw [22] (fun iv wx => ∃ k : Nat, iv = .int .i64 k ∧ k ≤ FL.length ∧ St w0 wx [OwnS 3 1 encI (.slice Af FL.length cf) FL, OwnS 3 1 encI (.slice Aw FL.length cw) FL, BkC gb lo]) (fun iv _ => FL.length - (intOf iv).toNat)
              case atStart => exact ⟨0, rfl, by omega, I3⟩
              case round =>
                clear I3
                obtain ⟨k, rfl, hk, I⟩ := hrel
                rename World => wy
                by_cases hlt : k < FL.length
                · obtain ⟨b1, o1, rfl, d1⟩ := (I.slv .here encI_len).sla.atI k hlt
                  obtain ⟨b2, o2, rfl, d2⟩ := (I.slv (.there .here) encI_len).sla.atI k hlt
                  have hkl : (k : Int) < (FL.length : Int) := by omega
                  have qk := IntWalk.i64_in ((k : Int) + 1) (by omega)
                  generalize FL[k] = y at d1 d2
                  go_wp2_with fail
                  go_quiet (fail)
                  replace I := I.drewN ‹Nat›
                  go_wp2_with fail
                  go_roundw
                  case rel => exact ⟨k + 1, by go_num, by omega, I⟩
                  case measure => simp [intOf]; omega
                · obtain rfl : k = FL.length := by omega
                  go_wp2_with (first | (first | ((with_reducible refine gguard ?_); (first | refine w_guardT (by rfl) (fun hb => ?_) (fun hb => ?_) | refine w_guardF (by rfl) (fun hb => ?_) (fun hb => ?_)) <;> first | (cases hb; done) | cases hb | ((try rw [hb]) <;> (try simp at hb) <;> go_prune <;> (try (with_reducible replace hb := eqPair hb)))) | (((with_reducible refine gbox ?_); first | refine w_boxA I (by rfl) ?_ | refine w_box1 I (by (conv => lhs; whnf) <;> rfl) (by rfl) ?_); clear I; intro g w I) | ((with_reducible refine galloc ?_); refine w_alloc I ?_; clear I; intro g w I) | ((with_reducible refine gload ?_); first | refine w_loadB I (by rfl) (by first | (with_reducible repeat (first | exact .here | apply At.there)); done | repeat (first | exact .here | apply At.there)) (by rfl) ?_ | refine w_loadBR I (by rfl) (by first | (with_reducible repeat (first | exact .here | apply At.there)); done | repeat (first | exact .here | apply At.there)) (by rfl) ?_ | refine w_load0 I (by rfl) (by assumption) ?_) | ((with_reducible refine gstore ?_); (first | refine w_storeB I (by rfl) (by (conv => lhs; whnf) <;> rfl) (by first | (with_reducible repeat (first | exact .here | apply Upd.there)); done | repeat (first | exact .here | apply Upd.there)) (by rfl) (by rfl) (by simp only [List.set_cons_zero, List.set_cons_succ] <;> rfl) ?_ | refine w_storeBR I (by rfl) (by rfl) (by first | (with_reducible repeat (first | exact .here | apply Upd.there)); done | repeat (first | exact .here | apply Upd.there)) (by rfl) (by rfl) (by rfl) ?_); clear I; intro w I)) | (go_at_call 26; ((with_reducible refine (cert_Issue_nil ⟨0, 0, 0, 0, 0, 0, 0, 0⟩ _).mono ?_); rintro _ w1 ⟨rfl, hf⟩; replace I := I.still hf; clear hf)) | (go_at_call 28; go_must (refine (cert_Cert_nil 1 _).mono ?_; rintro _ w1 ⟨rfl, hf⟩; replace I := I.still hf; clear hf)) | (go_at_call 17; go_must (refine (law17_alive _).mono ?_; rintro _ w1 ⟨rfl, hf⟩; replace I := I.still hf; clear hf)) | (go_at_call 30; go_must (refine (cert_All_nil _).mono ?_; rintro _ w1 ⟨rfl, rfl⟩)) | (go_at_call 31; ((with_reducible refine (cert_Flagged_nil _ _).mono ?_); rintro _ w1 ⟨rfl, hf⟩; replace I := I.still hf; clear hf)) | (go_at_call 31; ((with_reducible refine (cert_Flagged gb lo (by omega) (.slice none 0 0) [] _ _ _ _ _ I (by first | (with_reducible repeat (first | exact .here | apply At.there)); done | repeat (first | exact .here | apply At.there)) (SlV.nil _ _ _) rfl).mono ?_); rintro _ w1 ⟨v9, rfl, S⟩; rw [HNF.out] at S; replace I := I.then1 S; clear S; obtain ⟨A9, c9, rfl, h91, h92, _⟩ := (I.own .here).reads encI_len)))
                  go_ret
                  exact ⟨rfl, I.fr⟩

set_option maxRecDepth 100000 in
theorem walk {H : Type} {enc : TypeId × Value → H} (W : World) (base : Nat) (args : Array Value) (ds : List (DataW H)) (ps : List MemPlace) (hval : ∀ (j : Nat) t v, Try.f5.params[j]? = some t → args[j]? = some v → Value.okWide Try.prog W .any base t v)
    (hA : DataW.TrodAll enc Try.prog W 0 (fun _ => true) true Try.f5.params.toList args.toList ds ps) : Calls Try.prog 5 args W fun e W' => e = .returned (.bool true) ∧ Fr W W' := by
  rw [Try.params5] at hA
  obtain ⟨v0, vs0, d0, ds0, p0, q0, hargs, rfl, rfl, h0, r0⟩ := trodAll_cons hA
  obtain ⟨v1, vs1, d1, ds1, p1, q1, rfl, rfl, rfl, h1, r1⟩ := trodAll_cons r0
  obtain ⟨v2, vs2, d2, ds2, p2, q2, rfl, rfl, rfl, h2, r2⟩ := trodAll_cons r1
  obtain ⟨rfl, rfl, rfl⟩ := trodAll_nil r2
  obtain rfl : args = #[v0, v1, v2] := by cases args; simp_all
  rw [Try.params5] at hval
  obtain ⟨l, h⟩ := open_slv_arg Try.underlying47 (hval 0 _ v0 rfl rfl) h0 opens_certs
  obtain ⟨id, rfl, rfl, rfl, w1⟩ := open_int Try.underlying3 (hval 1 _ v1 rfl rfl) h1
  obtain ⟨now, hn⟩ := open_slv_arg Try.underlying48 (hval 2 _ v2 rfl rfl) h2 opens_ints
  exact law v0 l id v2 now W h hn

theorem own : ownKnob Try.prog.godebug = none := by kernel_rfl

set_option maxRecDepth 100000 in
theorem lifted (os : Os) (started : os.Started) (H : Type) (enc : TypeId × Value → H) :
    ReturnsInHanded {} Try.checked os 5 .any (Rows.certBooksSpec.pre6 enc Try.prog Try.f5 Rows.certBooksRow.domain false) (Rows.certBooksSpec.post enc Try.prog Try.f5 false true false false) :=
  Hf.law_lifted (C := Try.checked) own started (by kernel_rfl) Try.func5
    (ChangeSpec.witness6 (enc := enc) (C := Try.checked) false ⟨#[], #[.slice none 0 0, .int .i64 0, .slice none 0 0], []⟩ 8 (by kernel_rfl) (by kernel_rfl) (by kernel_rfl) (by kernel_rfl))
    rfl (by kernel_rfl) Try.underlying4 (by kernel_rfl) (by kernel_rfl)
    (by intro ds h; rw [Try.params5] at h; match ds, h with | [_, _, _], _ => rfl) walk

theorem over : Rows.certBooksRow.holds Try.pinned (OpenSpec.ofChange Rows.certBooksSpec) :=
  OpenClaim.holds_of_wide 5 Try.f5 rfl rfl rfl rfl rfl rfl rfl ⟨rfl, rfl, rfl, rfl, rfl⟩ rfl rfl rfl rfl rfl (by kernel_rfl) Try.func5 (by kernel_rfl)
    (of_decide_eq_true (by kernel_rfl)) (by unfold Func.isWrapper; first | (rw [if_pos (by decide +kernel)]; kernel_rfl) | (rw [if_neg (by decide +kernel)]; exact ⟨rfl, rfl⟩))
    (fun os started H enc _ => lifted os started H enc)

/-- The statement. -/
theorem proved : Rows.CertBooksSaid := over
#print axioms proved
end Go.Proofs.Ytpnpgeilhafepaa.certBooks
