
/- Certificates (layer 17): which are flagged; the reference's books. -/
import Derived.Test.YtpnpgeilhafepaaCrtB
namespace Go.Proofs.Ytpnpgeilhafepaa
open Go.RowKit Go.Hf

namespace Crt
theorem flags_yes (now : List Int) (l : List Cert) (k : Nat) (h : k < l.length) (h1 : k < now.length) (h2 : l[k].allowance < now[k]) : flags now l (k + 1) = flags now l k ++ [l[k].id] := by
  have e1 : l.getD k zero = l[k] := by rw [List.getD_eq_getElem?_getD, List.getElem?_eq_getElem h]; rfl
  have e2 : now.getD k 0 = now[k] := by rw [List.getD_eq_getElem?_getD, List.getElem?_eq_getElem h1]; rfl
  show flags now l k ++ (if k < now.length ∧ (l.getD k zero).allowance < now.getD k 0 then [(l.getD k zero).id] else []) = _
  rw [e1, e2, if_pos ⟨h1, h2⟩]
theorem flags_no (now : List Int) (l : List Cert) (k : Nat) (h : k < l.length) (h1 : ∀ h1 : k < now.length, ¬ l[k].allowance < now[k]) : flags now l (k + 1) = flags now l k := by
  have e1 : l.getD k zero = l[k] := by rw [List.getD_eq_getElem?_getD, List.getElem?_eq_getElem h]; rfl
  show flags now l k ++ (if k < now.length ∧ (l.getD k zero).allowance < now.getD k 0 then [(l.getD k zero).id] else []) = _
  rw [e1, if_neg, List.append_nil]
  rintro ⟨h2, h3⟩
  have e2 : now.getD k 0 = now[k] := by rw [List.getD_eq_getElem?_getD, List.getElem?_eq_getElem h2]; rfl
  rw [e2] at h3
  exact h1 h2 h3
end Crt
abbrev Ints (w : World) (v : Value) (l : List Int) : Prop := SlV 1 (flat encI) w v l

set_option maxRecDepth 100000 in
set_option maxHeartbeats 2000000 in
theorem cert_Flagged (g : Nat) (l : List Cert) (hl : l.length ≤ 1000) (vn : Value) (now : List Int) (w0 : World) (L R : List Asr) (wb w : World) (I : St wb w L) (hA : At (BkC g l) L R) (hN : Ints w vn now) (h0 : w0 = w) :
    Calls Try.prog 31 #[.pointer (some ⟨g, 0, none⟩), vn] w fun en w' => ∃ v', en = .returned v' ∧ St w0 w' [OwnS 3 1 encI v' (Crt.flags now l l.length)] := by
  have HAl := Lib.hid (cert_All g l hl wb w L R I hA)
  subst h0
  clear hA I
  obtain ⟨An, _, cn, rfl, rfl, hn1, hn2, _, hs⟩ := hN
  have HN := Lib.hid hs
  clear hs
  unfold maxLen at hn2
  have I := St.refl w0
  go_enter Try.func31, Try.ntmps31
  go_wp2_with (first | (first | ((with_reducible refine gguard ?_); (first | refine w_guardT (by rfl) (fun hb => ?_) (fun hb => ?_) | refine w_guardF (by rfl) (fun hb => ?_) (fun hb => ?_)) <;> first | (cases hb; done) | cases hb | ((try rw [hb]) <;> (try simp at hb) <;> go_prune <;> (try (with_reducible replace hb := eqPair hb)))) | (((with_reducible refine gbox ?_); first | refine w_boxA I (by rfl) ?_ | refine w_box1 I (by (conv => lhs; whnf) <;> rfl) (by rfl) ?_); clear I; intro g w I) | ((with_reducible refine galloc ?_); refine w_alloc I ?_; clear I; intro g w I) | ((with_reducible refine gload ?_); first | refine w_loadB I (by rfl) (by first | (with_reducible repeat (first | exact .here | apply At.there)); done | repeat (first | exact .here | apply At.there)) (by rfl) ?_ | refine w_loadBR I (by rfl) (by first | (with_reducible repeat (first | exact .here | apply At.there)); done | repeat (first | exact .here | apply At.there)) (by rfl) ?_ | refine w_load0 I (by rfl) (by assumption) ?_) | ((with_reducible refine gstore ?_); (first | refine w_storeB I (by rfl) (by (conv => lhs; whnf) <;> rfl) (by first | (with_reducible repeat (first | exact .here | apply Upd.there)); done | repeat (first | exact .here | apply Upd.there)) (by rfl) (by rfl) (by simp only [List.set_cons_zero, List.set_cons_succ] <;> rfl) ?_ | refine w_storeBR I (by rfl) (by rfl) (by first | (with_reducible repeat (first | exact .here | apply Upd.there)); done | repeat (first | exact .here | apply Upd.there)) (by rfl) (by rfl) (by rfl) ?_); clear I; intro w I)) | (go_at_call 30; go_must (refine (HAl.out).mono ?_; rintro _ w1 ⟨va, rfl, S⟩; replace I := I.then1 S; clear S; obtain ⟨Aa, ca, rfl, hca, hcb, _⟩ := (I.own .here).reads encC_len)))
  have J := I.nilOwn 3 1 encI
  clear I
  go_loopw [5, 11] (fun sv kv wr => ∃ (k : Nat) (v5 : Value), sv = v5 ∧ kv = .int .i64 k ∧ k ≤ l.length ∧ St w0 wr [OwnS 3 1 encI v5 (Crt.flags now l k), OwnS 38 8 encC (.slice Aa l.length ca) l]) (fun _ kv _ => l.length - (intOf kv).toNat)
  case atStart => exact ⟨0, _, rfl, rfl, by omega, J⟩
  case round =>
    clear J
    obtain ⟨k, v5, rfl, rfl, hk, I⟩ := hrel
    rename World => wr
    by_cases hlt : k < l.length
    · obtain ⟨b, o, rfl, cs, _, rfl, h3⟩ := ((I.slv (.there .here) encC_len).sla).at_ k hlt
      have H3 := Lib.hid h3
      clear h3
      have hkl : (k : Int) < (l.length : Int) := by omega
      have qk := IntWalk.i64_in ((k : Int) + 1) (by omega)
      have HY := Lib.hid (fun h1 => Crt.flags_yes now l k hlt h1)
      have HNo := Lib.hid (Crt.flags_no now l k hlt)
      have HFl := Lib.hid (Crt.flags_len now l k)
      generalize l[k] = x at *
      by_cases hk1 : k < now.length
      · obtain ⟨bn, on, rfl, hcn⟩ := HN.out.atI k hk1
        have hcn0 := hcn
        clear hcn
        have hd1 : decide ((k : Int) < (now.length : Int)) = true := decide_eq_true (by omega)
        have hk2 : (k : Int) < (now.length : Int) := by omega
        have HY := Lib.hid (HY.out hk1)
        by_cases h2 : x.allowance < now[k]
        · have HE := Lib.hid (HY.out h2)
          have hd2 : decide (x.allowance < now[k]) = true := decide_eq_true h2
          clear HY HNo h2
          generalize now[k] = nk at *
          generalize hF : Crt.flags now l k = fk at *
          go_wp2_with (first | ((with_reducible refine gload (ty := 38) ?_); refine w_loadR (n := 8) (cs := encC x) (by rfl) rfl (fun j u hj => by rw [addr_add]; exact H3.out j u hj) ?_) | (first | ((with_reducible refine gguard ?_); (first | refine w_guardT (by rfl) (fun hb => ?_) (fun hb => ?_) | refine w_guardF (by rfl) (fun hb => ?_) (fun hb => ?_)) <;> first | (cases hb; done) | cases hb | ((try rw [hb]) <;> (try simp at hb) <;> go_prune <;> (try (with_reducible replace hb := eqPair hb)))) | (((with_reducible refine gbox ?_); first | refine w_boxA I (by rfl) ?_ | refine w_box1 I (by (conv => lhs; whnf) <;> rfl) (by rfl) ?_); clear I; intro g w I) | ((with_reducible refine galloc ?_); refine w_alloc I ?_; clear I; intro g w I) | ((with_reducible refine gload ?_); first | refine w_loadB I (by rfl) (by first | (with_reducible repeat (first | exact .here | apply At.there)); done | repeat (first | exact .here | apply At.there)) (by rfl) ?_ | refine w_loadBR I (by rfl) (by first | (with_reducible repeat (first | exact .here | apply At.there)); done | repeat (first | exact .here | apply At.there)) (by rfl) ?_ | refine w_load0 I (by rfl) (by assumption) ?_) | ((with_reducible refine gstore ?_); (first | refine w_storeB I (by rfl) (by (conv => lhs; whnf) <;> rfl) (by first | (with_reducible repeat (first | exact .here | apply Upd.there)); done | repeat (first | exact .here | apply Upd.there)) (by rfl) (by rfl) (by simp only [List.set_cons_zero, List.set_cons_succ] <;> rfl) ?_ | refine w_storeBR I (by rfl) (by rfl) (by first | (with_reducible repeat (first | exact .here | apply Upd.there)); done | repeat (first | exact .here | apply Upd.there)) (by rfl) (by rfl) (by rfl) ?_); clear I; intro w I)))
          have hcn := I.fr.cell hcn0
          have F := I.facts
          dsimp only [AllF, Asr.facts, Blk, OwnS] at F
          simp only [encC] at F
          go_quiet (fail)
          replace I := I.drewN ‹Nat›
          clear F
          go_wp2_with (first | (((with_reducible refine gbs ?_); refine w_bs1 (enc := encI) (b := x.id) encI_len I (by rfl) (by rfl) (by rfl) ?_); clear I; intro g w I) | ((with_reducible refine gappend ?_); refine w_append encI_len encI_one (by decide) I (by rfl) (by first | (with_reducible repeat (first | exact .here | apply At.there)); done | repeat (first | exact .here | apply At.there)) (by rfl) (l2 := [x.id]) (I.slv .here encI_len) (by have := HFl.out; first | omega | (simp <;> omega)) (by have := HFl.out; unfold maxLen; first | omega | (simp <;> omega)) ?_; clear I; intro A m c w I) | (first | ((with_reducible refine gguard ?_); (first | refine w_guardT (by rfl) (fun hb => ?_) (fun hb => ?_) | refine w_guardF (by rfl) (fun hb => ?_) (fun hb => ?_)) <;> first | (cases hb; done) | cases hb | ((try rw [hb]) <;> (try simp at hb) <;> go_prune <;> (try (with_reducible replace hb := eqPair hb)))) | (((with_reducible refine gbox ?_); first | refine w_boxA I (by rfl) ?_ | refine w_box1 I (by (conv => lhs; whnf) <;> rfl) (by rfl) ?_); clear I; intro g w I) | ((with_reducible refine galloc ?_); refine w_alloc I ?_; clear I; intro g w I) | ((with_reducible refine gload ?_); first | refine w_loadB I (by rfl) (by first | (with_reducible repeat (first | exact .here | apply At.there)); done | repeat (first | exact .here | apply At.there)) (by rfl) ?_ | refine w_loadBR I (by rfl) (by first | (with_reducible repeat (first | exact .here | apply At.there)); done | repeat (first | exact .here | apply At.there)) (by rfl) ?_ | refine w_load0 I (by rfl) (by assumption) ?_) | ((with_reducible refine gstore ?_); (first | refine w_storeB I (by rfl) (by (conv => lhs; whnf) <;> rfl) (by first | (with_reducible repeat (first | exact .here | apply Upd.there)); done | repeat (first | exact .here | apply Upd.there)) (by rfl) (by rfl) (by simp only [List.set_cons_zero, List.set_cons_succ] <;> rfl) ?_ | refine w_storeBR I (by rfl) (by rfl) (by first | (with_reducible repeat (first | exact .here | apply Upd.there)); done | repeat (first | exact .here | apply Upd.there)) (by rfl) (by rfl) (by rfl) ?_); clear I; intro w I)))
          go_roundw
          case rel => exact ⟨k + 1, _, rfl, by go_num, by omega, by rw [HE.out]; exact ((I.drop (.there .here)).drop (.there .here))⟩
          case measure => simp [intOf]; omega
        · have HE := Lib.hid (HNo.out (fun _ => h2))
          have hd2 : decide (x.allowance < now[k]) = false := decide_eq_false h2
          clear HY HNo h2
          generalize now[k] = nk at *
          generalize hF : Crt.flags now l k = fk at *
          go_wp2_with (first | ((with_reducible refine gload (ty := 38) ?_); refine w_loadR (n := 8) (cs := encC x) (by rfl) rfl (fun j u hj => by rw [addr_add]; exact H3.out j u hj) ?_) | (first | ((with_reducible refine gguard ?_); (first | refine w_guardT (by rfl) (fun hb => ?_) (fun hb => ?_) | refine w_guardF (by rfl) (fun hb => ?_) (fun hb => ?_)) <;> first | (cases hb; done) | cases hb | ((try rw [hb]) <;> (try simp at hb) <;> go_prune <;> (try (with_reducible replace hb := eqPair hb)))) | (((with_reducible refine gbox ?_); first | refine w_boxA I (by rfl) ?_ | refine w_box1 I (by (conv => lhs; whnf) <;> rfl) (by rfl) ?_); clear I; intro g w I) | ((with_reducible refine galloc ?_); refine w_alloc I ?_; clear I; intro g w I) | ((with_reducible refine gload ?_); first | refine w_loadB I (by rfl) (by first | (with_reducible repeat (first | exact .here | apply At.there)); done | repeat (first | exact .here | apply At.there)) (by rfl) ?_ | refine w_loadBR I (by rfl) (by first | (with_reducible repeat (first | exact .here | apply At.there)); done | repeat (first | exact .here | apply At.there)) (by rfl) ?_ | refine w_load0 I (by rfl) (by assumption) ?_) | ((with_reducible refine gstore ?_); (first | refine w_storeB I (by rfl) (by (conv => lhs; whnf) <;> rfl) (by first | (with_reducible repeat (first | exact .here | apply Upd.there)); done | repeat (first | exact .here | apply Upd.there)) (by rfl) (by rfl) (by simp only [List.set_cons_zero, List.set_cons_succ] <;> rfl) ?_ | refine w_storeBR I (by rfl) (by rfl) (by first | (with_reducible repeat (first | exact .here | apply Upd.there)); done | repeat (first | exact .here | apply Upd.there)) (by rfl) (by rfl) (by rfl) ?_); clear I; intro w I)))
          have hcn := I.fr.cell hcn0
          have F := I.facts
          dsimp only [AllF, Asr.facts, Blk, OwnS] at F
          simp only [encC] at F
          go_quiet (fail)
          replace I := I.drewN ‹Nat›
          clear F
          go_wp2_with (first | ((with_reducible refine gguard ?_); (first | refine w_guardT (by rfl) (fun hb => ?_) (fun hb => ?_) | refine w_guardF (by rfl) (fun hb => ?_) (fun hb => ?_)) <;> first | (cases hb; done) | cases hb | ((try rw [hb]) <;> (try simp at hb) <;> go_prune <;> (try (with_reducible replace hb := eqPair hb)))) | (((with_reducible refine gbox ?_); first | refine w_boxA I (by rfl) ?_ | refine w_box1 I (by (conv => lhs; whnf) <;> rfl) (by rfl) ?_); clear I; intro g w I) | ((with_reducible refine galloc ?_); refine w_alloc I ?_; clear I; intro g w I) | ((with_reducible refine gload ?_); first | refine w_loadB I (by rfl) (by first | (with_reducible repeat (first | exact .here | apply At.there)); done | repeat (first | exact .here | apply At.there)) (by rfl) ?_ | refine w_loadBR I (by rfl) (by first | (with_reducible repeat (first | exact .here | apply At.there)); done | repeat (first | exact .here | apply At.there)) (by rfl) ?_ | refine w_load0 I (by rfl) (by assumption) ?_) | ((with_reducible refine gstore ?_); (first | refine w_storeB I (by rfl) (by (conv => lhs; whnf) <;> rfl) (by first | (with_reducible repeat (first | exact .here | apply Upd.there)); done | repeat (first | exact .here | apply Upd.there)) (by rfl) (by rfl) (by simp only [List.set_cons_zero, List.set_cons_succ] <;> rfl) ?_ | refine w_storeBR I (by rfl) (by rfl) (by first | (with_reducible repeat (first | exact .here | apply Upd.there)); done | repeat (first | exact .here | apply Upd.there)) (by rfl) (by rfl) (by rfl) ?_); clear I; intro w I))
          go_roundw
          case rel => exact ⟨k + 1, _, rfl, by go_num, by omega, by rw [HE.out]; exact I.drop1⟩
          case measure => simp [intOf]; omega
      · have hd1 : decide ((k : Int) < (now.length : Int)) = false := decide_eq_false (by omega)
        have HE := Lib.hid (HNo.out (fun h => absurd h hk1))
        clear HY HNo
        generalize hF : Crt.flags now l k = fk at *
        go_wp2_with (first | ((with_reducible refine gload (ty := 38) ?_); refine w_loadR (n := 8) (cs := encC x) (by rfl) rfl (fun j u hj => by rw [addr_add]; exact H3.out j u hj) ?_) | (first | ((with_reducible refine gguard ?_); (first | refine w_guardT (by rfl) (fun hb => ?_) (fun hb => ?_) | refine w_guardF (by rfl) (fun hb => ?_) (fun hb => ?_)) <;> first | (cases hb; done) | cases hb | ((try rw [hb]) <;> (try simp at hb) <;> go_prune <;> (try (with_reducible replace hb := eqPair hb)))) | (((with_reducible refine gbox ?_); first | refine w_boxA I (by rfl) ?_ | refine w_box1 I (by (conv => lhs; whnf) <;> rfl) (by rfl) ?_); clear I; intro g w I) | ((with_reducible refine galloc ?_); refine w_alloc I ?_; clear I; intro g w I) | ((with_reducible refine gload ?_); first | refine w_loadB I (by rfl) (by first | (with_reducible repeat (first | exact .here | apply At.there)); done | repeat (first | exact .here | apply At.there)) (by rfl) ?_ | refine w_loadBR I (by rfl) (by first | (with_reducible repeat (first | exact .here | apply At.there)); done | repeat (first | exact .here | apply At.there)) (by rfl) ?_ | refine w_load0 I (by rfl) (by assumption) ?_) | ((with_reducible refine gstore ?_); (first | refine w_storeB I (by rfl) (by (conv => lhs; whnf) <;> rfl) (by first | (with_reducible repeat (first | exact .here | apply Upd.there)); done | repeat (first | exact .here | apply Upd.there)) (by rfl) (by rfl) (by simp only [List.set_cons_zero, List.set_cons_succ] <;> rfl) ?_ | refine w_storeBR I (by rfl) (by rfl) (by first | (with_reducible repeat (first | exact .here | apply Upd.there)); done | repeat (first | exact .here | apply Upd.there)) (by rfl) (by rfl) (by rfl) ?_); clear I; intro w I)))
        have F := I.facts
        dsimp only [AllF, Asr.facts, Blk, OwnS] at F
        simp only [encC] at F
        go_quiet (fail)
        replace I := I.drewN ‹Nat›
        clear F
        go_wp2_with (first | ((with_reducible refine gguard ?_); (first | refine w_guardT (by rfl) (fun hb => ?_) (fun hb => ?_) | refine w_guardF (by rfl) (fun hb => ?_) (fun hb => ?_)) <;> first | (cases hb; done) | cases hb | ((try rw [hb]) <;> (try simp at hb) <;> go_prune <;> (try (with_reducible replace hb := eqPair hb)))) | (((with_reducible refine gbox ?_); first | refine w_boxA I (by rfl) ?_ | refine w_box1 I (by (conv => lhs; whnf) <;> rfl) (by rfl) ?_); clear I; intro g w I) | ((with_reducible refine galloc ?_); refine w_alloc I ?_; clear I; intro g w I) | ((with_reducible refine gload ?_); first | refine w_loadB I (by rfl) (by first | (with_reducible repeat (first | exact .here | apply At.there)); done | repeat (first | exact .here | apply At.there)) (by rfl) ?_ | refine w_loadBR I (by rfl) (by first | (with_reducible repeat (first | exact .here | apply At.there)); done | repeat (first | exact .here | apply At.there)) (by rfl) ?_ | refine w_load0 I (by rfl) (by assumption) ?_) | ((with_reducible refine gstore ?_); (first | refine w_storeB I (by rfl) (by (conv => lhs; whnf) <;> rfl) (by first | (with_reducible repeat (first | exact .here | apply Upd.there)); done | repeat (first | exact .here | apply Upd.there)) (by rfl) (by rfl) (by simp only [List.set_cons_zero, List.set_cons_succ] <;> rfl) ?_ | refine w_storeBR I (by rfl) (by rfl) (by first | (with_reducible repeat (first | exact .here | apply Upd.there)); done | repeat (first | exact .here | apply Upd.there)) (by rfl) (by rfl) (by rfl) ?_); clear I; intro w I))
        go_roundw
        case rel => exact ⟨k + 1, _, rfl, by go_num, by omega, by rw [HE.out]; exact I.drop1⟩
        case measure => simp [intOf]; omega
    · obtain rfl : k = l.length := by omega
      go_wp2_with fail
      go_ret
      exact ⟨_, rfl, I.pick .here⟩
theorem cert_Flagged_nil (vn : Value) (w0 : World) : Calls Try.prog 31 #[.pointer none, vn] w0 fun en w' => en = .returned (.slice none 0 0) ∧ Fr w0 w' := by
  go_enter Try.func31, Try.ntmps31
  go_wp2_with (go_at_call 30; go_must (refine (cert_All_nil _).mono ?_; rintro _ w1 ⟨rfl, rfl⟩))
  go_loopw [5, 11] (fun sv kv wr => sv = .slice none 0 0 ∧ kv = .int .i64 0 ∧ w0 = wr) (fun _ _ _ => 0)
  case atStart => exact ⟨rfl, rfl, rfl⟩
  case round =>
    obtain ⟨rfl, rfl, rfl⟩ := hrel
    go_wp2_with fail
    go_ret
    exact ⟨rfl, Fr.refl _⟩
set_option maxRecDepth 100000 in
set_option maxHeartbeats 1000000 in
theorem ref17_Same (v1 v2 : Value) (l1 l2 : List Cert) (w : World) (h1 : Certs w v1 l1) (h2 : Certs w v2 l2) :
    Calls Try.prog 29 #[v1, v2] w fun e w' => e = .returned (.bool (l1 == l2)) ∧ Dr w w' := by
  have hm := h1.len_le
  have hm2 := h2.len_le
  unfold maxLen at hm hm2
  obtain ⟨A1, _, c1, rfl, rfl, _, _, _, hs1⟩ := h1
  obtain ⟨A2, _, c2, rfl, rfl, _, _, _, hs2⟩ := h2
  have H1 := Lib.hid hs1
  have H2 := Lib.hid hs2
  clear hs1 hs2
  by_cases hlen : l1.length = l2.length
  · have HL := Lib.hid hlen
    have hd : ((l1.length : Int) != (l2.length : Int)) = false := by simp [hlen]
    have hlt2 : ∀ k, k < l1.length → k < l2.length := fun k h => by omega
    have HT := Lib.hid hlt2
    clear hlen hlt2
    go_enter Try.func29, Try.ntmps29
    go_wp2_with fail
    go_loopw [5] (fun i wr => ∃ k : Nat, i = .int .i64 k ∧ k ≤ l1.length ∧ Hid (l1.take k = l2.take k) ∧ Dr w wr) (fun i _ => l1.length - (intOf i).toNat)
    case atStart => exact ⟨0, rfl, by omega, rfl, Dr.refl _⟩
    case round =>
      obtain ⟨k, rfl, hk, ht, hf⟩ := hrel
      by_cases hlt : k < l1.length
      · have hlt2 := HT.out k hlt
        obtain ⟨b1, o1, rfl, a0, a1, a2, a3, a4, a5, a6, a7⟩ := atC (H1.out.fr (flat_stays _) hf.fr) k hlt
        obtain ⟨b2, o2, rfl, d0, d1, d2, d3, d4, d5, d6, d7⟩ := atC (H2.out.fr (flat_stays _) hf.fr) k hlt2
        have HS := Lib.hid (fun h => take_eq_step l1 l2 k hlt hlt2 ht.out h)
        have HN := Lib.hid (fun h => beq_false_of_get l1 l2 k hlt hlt2 h)
        generalize l1[k] = x at *
        generalize l2[k] = y at *
        have hi1 : (k : Int) < (l1.length : Int) := by omega
        have hi2 : (k : Int) < (l2.length : Int) := by omega
        have he := eq_cert x y
        by_cases hxy : x = y
        · rw [decide_eq_true hxy] at he
          have HE := Lib.hid (HS.out hxy)
          clear hxy
          go_wp2_with fail
          go_quiet (fail)
          go_wp2_with fail
          go_roundw
          case rel => exact ⟨k + 1, by go_num, by omega, HE, hf.drewN _⟩
          case measure => simp [intOf]; omega
        · rw [decide_eq_false hxy] at he
          have HE := Lib.hid (HN.out hxy)
          clear hxy
          go_wp2_with fail
          go_quiet (fail)
          go_wp2_with fail
          go_ret
          exact ⟨by rw [HE.out]; rfl, hf.drewN _⟩
      · obtain rfl : k = l1.length := by omega
        have HE := Lib.hid (beq_of_take l1 l2 HL.out ht.out)
        go_wp2_with fail
        go_ret
        exact ⟨by rw [HE.out]; rfl, hf⟩
  · have hd : ((l1.length : Int) != (l2.length : Int)) = true := by simp; omega
    have HE := Lib.hid (beq_false_of_len l1 l2 hlen)
    clear hlen
    go_enter Try.func29, Try.ntmps29
    go_wp2_with fail
    go_ret
    exact ⟨by rw [HE.out]; rfl, Dr.refl _⟩
set_option maxRecDepth 100000 in
set_option maxHeartbeats 2000000 in
theorem ref17_Issue (v : Value) (l : List Cert) (c : Cert) (hl : l.length ≤ 1000) (w0 w : World) (L R : List Asr) (I : St w0 w L) (hA : At (OwnS 38 8 encC v l) L R) :
    Calls Try.prog 27 #[v, aggC c] w fun en w' => ∃ v', en = .returned (.tuple #[v', .int .i64 (Crt.issue l c).2.1, .int .i64 (Crt.issue l c).2.2]) ∧ St w0 w' (OwnS 38 8 encC v' (Crt.issue l c).1 :: R) := by
  obtain ⟨A, cp, rfl, hcp, hcm, _⟩ := (I.own hA).reads encC_len
  replace I := I.take hA
  clear hA
  unfold Crt.issue
  cases hr : Crt.right c with
  | false =>
    have HR := Lib.hid hr
    clear hr
    rw [if_neg (by simp)]
    go_enter Try.func27, Try.ntmps27
    go_wp2_with (first | (first | ((with_reducible refine gguard ?_); (first | refine w_guardT (by rfl) (fun hb => ?_) (fun hb => ?_) | refine w_guardF (by rfl) (fun hb => ?_) (fun hb => ?_)) <;> first | (cases hb; done) | cases hb | ((try rw [hb]) <;> (try simp at hb) <;> go_prune <;> (try (with_reducible replace hb := eqPair hb)))) | (((with_reducible refine gbox ?_); first | refine w_boxA I (by rfl) ?_ | refine w_box1 I (by (conv => lhs; whnf) <;> rfl) (by rfl) ?_); clear I; intro g w I) | ((with_reducible refine galloc ?_); refine w_alloc I ?_; clear I; intro g w I) | ((with_reducible refine gload ?_); first | refine w_loadB I (by rfl) (by first | (with_reducible repeat (first | exact .here | apply At.there)); done | repeat (first | exact .here | apply At.there)) (by rfl) ?_ | refine w_loadBR I (by rfl) (by first | (with_reducible repeat (first | exact .here | apply At.there)); done | repeat (first | exact .here | apply At.there)) (by rfl) ?_ | refine w_load0 I (by rfl) (by assumption) ?_) | ((with_reducible refine gstore ?_); (first | refine w_storeB I (by rfl) (by (conv => lhs; whnf) <;> rfl) (by first | (with_reducible repeat (first | exact .here | apply Upd.there)); done | repeat (first | exact .here | apply Upd.there)) (by rfl) (by rfl) (by simp only [List.set_cons_zero, List.set_cons_succ] <;> rfl) ?_ | refine w_storeBR I (by rfl) (by rfl) (by first | (with_reducible repeat (first | exact .here | apply Upd.there)); done | repeat (first | exact .here | apply Upd.there)) (by rfl) (by rfl) (by rfl) ?_); clear I; intro w I)) | (go_at_call 18; go_must (refine (ref17_Right c _).mono ?_; rintro _ w1 ⟨rfl, hf⟩; rw [HR.out]; replace I := I.still hf; clear hf)))
    exact ret_3 rfl (by first | (exact ResV.t _ (by rfl)) | (exact ResV.row I (by rfl) (by first | (with_reducible repeat (first | exact .here | apply At.there)); done | repeat (first | exact .here | apply At.there)) (by rfl)) | (exact ResV.one I (by rfl) (by first | (with_reducible repeat (first | exact .here | apply At.there)); done | repeat (first | exact .here | apply At.there)))) (by first | (exact ResV.t _ (by rfl)) | (exact ResV.row I (by rfl) (by first | (with_reducible repeat (first | exact .here | apply At.there)); done | repeat (first | exact .here | apply At.there)) (by rfl)) | (exact ResV.one I (by rfl) (by first | (with_reducible repeat (first | exact .here | apply At.there)); done | repeat (first | exact .here | apply At.there)))) (by first | (exact ResV.t _ (by rfl)) | (exact ResV.row I (by rfl) (by first | (with_reducible repeat (first | exact .here | apply At.there)); done | repeat (first | exact .here | apply At.there)) (by rfl)) | (exact ResV.one I (by rfl) (by first | (with_reducible repeat (first | exact .here | apply At.there)); done | repeat (first | exact .here | apply At.there)))) rfl ⟨_, rfl, I.drop1⟩
  | true =>
    have HR := Lib.hid hr
    clear hr
    rw [if_pos rfl]
    unfold maxLen at hcm
    have q1 := IntWalk.i64_in ((l.length : Int) + 1) (by omega)
    go_enter Try.func27, Try.ntmps27
    go_upto_region 5 with (first | ((with_reducible refine gbox (ty := 38) ?_); (first | refine w_boxA I (by rfl) ?_ | refine w_box1 I (by (conv => lhs; whnf) <;> rfl) (by rfl) ?_); clear I; intro gb w I) | (first | ((with_reducible refine gguard ?_); (first | refine w_guardT (by rfl) (fun hb => ?_) (fun hb => ?_) | refine w_guardF (by rfl) (fun hb => ?_) (fun hb => ?_)) <;> first | (cases hb; done) | cases hb | ((try rw [hb]) <;> (try simp at hb) <;> go_prune <;> (try (with_reducible replace hb := eqPair hb)))) | (((with_reducible refine gbox ?_); first | refine w_boxA I (by rfl) ?_ | refine w_box1 I (by (conv => lhs; whnf) <;> rfl) (by rfl) ?_); clear I; intro g w I) | ((with_reducible refine galloc ?_); refine w_alloc I ?_; clear I; intro g w I) | ((with_reducible refine gload ?_); first | refine w_loadB I (by rfl) (by first | (with_reducible repeat (first | exact .here | apply At.there)); done | repeat (first | exact .here | apply At.there)) (by rfl) ?_ | refine w_loadBR I (by rfl) (by first | (with_reducible repeat (first | exact .here | apply At.there)); done | repeat (first | exact .here | apply At.there)) (by rfl) ?_ | refine w_load0 I (by rfl) (by assumption) ?_) | ((with_reducible refine gstore ?_); (first | refine w_storeB I (by rfl) (by (conv => lhs; whnf) <;> rfl) (by first | (with_reducible repeat (first | exact .here | apply Upd.there)); done | repeat (first | exact .here | apply Upd.there)) (by rfl) (by rfl) (by simp only [List.set_cons_zero, List.set_cons_succ] <;> rfl) ?_ | refine w_storeBR I (by rfl) (by rfl) (by first | (with_reducible repeat (first | exact .here | apply Upd.there)); done | repeat (first | exact .here | apply Upd.there)) (by rfl) (by rfl) (by rfl) ?_); clear I; intro w I)) | (go_at_call 18; go_must (refine (ref17_Right c _).mono ?_; rintro _ w1 ⟨rfl, hf⟩; rw [HR.out]; replace I := I.still hf; clear hf)))
    have J1 := I.mkOwn ((Fr.refl _).alloc (.cells #[] 38)) (Own.lit w.heap.size 38 8 encC w #[] [] (Nat.le_refl _) (by simp [maxLen]) encC_len rfl)
    have J2 := J1.alloc [.int .i64 ((l.length : Int) + 1), .int .i64 c.order, .int .i64 c.lot, .int .i64 c.product, .int .i64 c.units, .int .i64 c.minute, .int .i64 c.exposure, .int .i64 c.allowance] 38
    rw [show (w.alloc (.cells #[] 38)).heap.size = w.heap.size + 1 by simp] at J2
    have K1 := I.alloc [.int .i64 ((l.length : Int) + 1), .int .i64 c.order, .int .i64 c.lot, .int .i64 c.product, .int .i64 c.units, .int .i64 c.minute, .int .i64 c.exposure, .int .i64 c.allowance] 38
    have J3 := K1.mkOwn ((Fr.refl _).alloc (.cells #[] 38)) (Own.lit _ 38 8 encC _ #[] [] (Nat.le_refl _) (by simp [maxLen]) encC_len rfl)
    rw [show (w.alloc (.cells [.int .i64 ((l.length : Int) + 1), .int .i64 c.order, .int .i64 c.lot, .int .i64 c.product, .int .i64 c.units, .int .i64 c.minute, .int .i64 c.exposure, .int .i64 c.allowance].toArray 38)).heap.size = w.heap.size + 1 by simp] at J3
    have FJ := J3.drew.facts
    dsimp only [AllF, Asr.facts, Blk, OwnS] at FJ
    have FK := K1.drew.facts
    dsimp only [AllF, Asr.facts, Blk, OwnS] at FK
    have F := I.drew.facts
    dsimp only [AllF, Asr.facts, Blk, OwnS] at F
    have F0 := J1.drew.facts
    dsimp only [AllF, Asr.facts, Blk, OwnS] at F0
    have F1 := J2.drew.facts
    dsimp only [AllF, Asr.facts, Blk, OwnS] at F1
    go_region_law (first | (refine step_append encC_len encC_one (by decide) J1.drew (by rfl) .here (by rfl) (l2 := l) (J1.drew.slv (.there (.there .here)) encC_len) (by simp; omega) (by simp [maxLen]; omega) ?_; intro A2 m2 c2 w2 I2; have F2 := I2.facts; dsimp only [AllF, Asr.facts, Blk, OwnS] at F2; have FA2 := fun o => (I2.still ((Fr.refl _).alloc o)).facts; dsimp only [AllF, Asr.facts, Blk, OwnS] at FA2) | (refine step_append encC_len encC_one (by decide) J2.drew (by rfl) (.there .here) (by rfl) (l2 := l) (J2.drew.slv (.there (.there (.there .here))) encC_len) (by simp; omega) (by simp [maxLen]; omega) ?_; intro A2 m2 c2 w2 I2; have F2 := I2.facts; dsimp only [AllF, Asr.facts, Blk, OwnS] at F2; have FA2 := fun o => (I2.still ((Fr.refl _).alloc o)).facts; dsimp only [AllF, Asr.facts, Blk, OwnS] at FA2) | (refine step_append encC_len encC_one (by decide) J3.drew (by rfl) .here (by rfl) (l2 := l) (J3.drew.slv (.there (.there (.there .here))) encC_len) (by simp; omega) (by simp [maxLen]; omega) ?_; intro A2 m2 c2 w2 I2; have F2 := I2.facts; dsimp only [AllF, Asr.facts, Blk, OwnS] at F2; have FA2 := fun o => (I2.still ((Fr.refl _).alloc o)).facts; dsimp only [AllF, Asr.facts, Blk, OwnS] at FA2) | (refine step_append encC_len encC_one (by decide) (I2.alloc _ _) (by rfl) (.there .here) (by rfl) ((I2.alloc _ _).slvB (l2 := [{ c with id := (l.length : Int) + 1 }]) .here (by simp [encC]) rfl (by simp [maxLen]) encC_len) (by simp; omega) (by simp [maxLen]; omega) ?_; intro A3 m3 c3 w3 I3; have F3 := I3.facts; dsimp only [AllF, Asr.facts, Blk, OwnS] at F3) | (refine step_append encC_len encC_one (by decide) I2 (by rfl) .here (by rfl) (I2.slvB (l2 := [{ c with id := (l.length : Int) + 1 }]) (.there .here) (by simp [encC]) rfl (by simp [maxLen]) encC_len) (by simp; omega) (by simp [maxLen]; omega) ?_; intro A3 m3 c3 w3 I3; have F3 := I3.facts; dsimp only [AllF, Asr.facts, Blk, OwnS] at F3))
    all_goals
      have I4 := ((I3.drop (.there .here)).drop (.there .here)).drop (.there .here)
      rw [List.nil_append] at I4
      clear F F0 F1 FK FJ J1 J2 J3 K1 F2 FA2 F3 I3 I2
      go_wp2_with fail
      exact ret_3 rfl (by first | (exact ResV.t _ (by rfl)) | (exact ResV.row I (by rfl) (by first | (with_reducible repeat (first | exact .here | apply At.there)); done | repeat (first | exact .here | apply At.there)) (by rfl)) | (exact ResV.one I (by rfl) (by first | (with_reducible repeat (first | exact .here | apply At.there)); done | repeat (first | exact .here | apply At.there)))) (by first | (exact ResV.t _ (by rfl)) | (exact ResV.row I (by rfl) (by first | (with_reducible repeat (first | exact .here | apply At.there)); done | repeat (first | exact .here | apply At.there)) (by rfl)) | (exact ResV.one I (by rfl) (by first | (with_reducible repeat (first | exact .here | apply At.there)); done | repeat (first | exact .here | apply At.there)))) (by first | (exact ResV.t _ (by rfl)) | (exact ResV.row I (by rfl) (by first | (with_reducible repeat (first | exact .here | apply At.there)); done | repeat (first | exact .here | apply At.there)) (by rfl)) | (exact ResV.one I (by rfl) (by first | (with_reducible repeat (first | exact .here | apply At.there)); done | repeat (first | exact .here | apply At.there)))) rfl ⟨_, rfl, I4⟩
end Go.Proofs.Ytpnpgeilhafepaa
