
/- Lots (layer 15): the reference's order. -/
import Derived.Test.YtggeloihnbjogaaFefA
namespace Go.Proofs.Ytggeloihnbjogaa
open Go.RowKit Go.Hf
def Fef.slLen : Value → Nat
  | .slice _ n _ => n
  | _ => 0
theorem lot_cells {w : World} {A : Option Addr} {l : List Lt} (h : SlA 8 (flat encT) w A l) {i : Nat} {x : Lt} (hx : l[i]? = some x) : ∃ b o, A = some ⟨b, o, none⟩ ∧ w.cell? ⟨b, o + i * 8, none⟩ = some (.int .i64 x.id) ∧ w.cell? ⟨b, o + i * 8 + 1, none⟩ = some (.int .i64 x.prod) ∧ w.cell? ⟨b, o + i * 8 + 2, none⟩ = some (.int .i64 x.units) ∧ w.cell? ⟨b, o + i * 8 + 3, none⟩ = some (.int .i64 x.exp) := by
  obtain ⟨hi, rfl⟩ := List.getElem?_eq_some_iff.1 hx
  obtain ⟨b, o, rfl, cs, -, rfl, h3⟩ := h.at_ i hi
  exact ⟨b, o, rfl, h3 0 _ rfl, h3 1 _ rfl, h3 2 _ rfl, h3 3 _ rfl⟩
theorem first_next (v vt : Value) (l M : List Lt) (T : List Bool) (q : Lt → Bool) (k : Nat) (x : Lt) (hl : l.length ≤ 1000) (hg : Fef.Tagged l) (hp : M.Perm (l.filter q)) (hs : M.Pairwise Fef.lt) (hT : Fef.Taken l M q k T) (hx : M[k]? = some x) (w : World) (h : Lots w v l) (h2 : SlV 1 (flat encO) w vt T) :
    Calls Try.prog 61 #[v, vt] w fun e w' => ∃ b : Nat, e = .returned (.int .i64 b) ∧ b < l.length ∧ Hid (l[b]? = some x) ∧ Fr w w' := by
  refine (ref15_first v vt l T hl hg hT.1 w h h2).mono ?_
  rintro _ w1 ⟨β, rfl, HB, hf⟩
  obtain ⟨hk, hxe⟩ := List.getElem?_eq_some_iff.1 hx
  obtain ⟨b, rfl, hb⟩ := Fef.first_is hg hp hs hT HB.out hk
  rw [hxe] at hb
  exact ⟨b, rfl, (List.getElem?_eq_some_iff.1 hb).1, Lib.hid hb, hf⟩
theorem first_none (v vt : Value) (l M : List Lt) (T : List Bool) (q : Lt → Bool) (k : Nat) (hl : l.length ≤ 1000) (hg : Fef.Tagged l) (hp : M.Perm (l.filter q)) (hT : Fef.Taken l M q k T) (hk : M.length ≤ k) (w : World) (h : Lots w v l) (h2 : SlV 1 (flat encO) w vt T) :
    Calls Try.prog 61 #[v, vt] w fun e w' => e = .returned (.int .i64 (-1)) ∧ Fr w w' := by
  refine (ref15_first v vt l T hl hg hT.1 w h h2).mono ?_
  rintro _ w1 ⟨β, rfl, HB, hf⟩
  obtain rfl := Fef.first_no hp hg hT HB.out hk
  exact ⟨rfl, hf⟩
set_option maxRecDepth 100000 in
set_option maxHeartbeats 4000000 in
theorem ref15_Order (v : Value) (l M : List Lt) (hl : l.length ≤ 1000) (hg : Fef.Tagged l) (hp : M.Perm l) (hs : M.Pairwise Fef.lt) (w0 : World) (h : Lots w0 v l) :
    Calls Try.prog 26 #[v] w0 fun e w' => ∃ v', e = .returned v' ∧ St w0 w' [OwnS 3 1 encI v' (M.map Lt.id)] := by
  have HV := Lib.hid h
  obtain ⟨A, _, c, rfl, rfl, -, -, -, hsl⟩ := h
  have HS := Lib.hid hsl
  have hpf : M.Perm (l.filter fun _ => true) := by rw [List.filter_eq_self.2 (fun _ _ => rfl)]; exact hp
  have HP := Lib.hid (And.intro hpf hs)
  have HG := Lib.hid hg
  have HN : Hid (M.length = l.length) := Lib.hid hp.length_eq
  clear hsl hp hs hpf hg
  have I := St.refl w0
  go_enter Try.func26, Try.ntmps26
  try dsimp only [List.append]
  go_wp2_with (first | ((with_reducible refine gmake ?_); refine w_make1 (enc := encO) (zero := false) rfl rfl I (q := l.length) (by rfl) (by rfl) (by omega) (by unfold maxLen; omega) ?_; clear I; intro g w I))
  rename Nat => gt
  replace I := I.nilOwn 3 1 encI
  go_loopw [4] (fun o wr => ∃ (k : Nat) (A2 : Option Addr) (c2 : Nat) (T : List Bool), o = .slice A2 k c2 ∧ k ≤ l.length ∧ Hid (Fef.Taken l M (fun _ => true) k T) ∧ St w0 wr [OwnS 3 1 encI (.slice A2 k c2) ((M.take k).map Lt.id), OwnS 4 1 encO (.slice (some ⟨gt, 0, none⟩) l.length l.length) T]) (fun o _ => l.length - Fef.slLen o)
  case atStart => exact ⟨0, none, 0, _, rfl, by omega, Lib.hid (Fef.taken_start (by simp)), I⟩
  case round =>
    clear I
    obtain ⟨k, A2, c2, T, rfl, hk, HT, I⟩ := hrel
    rename World => wr
    by_cases hlt : k < l.length
    · have hlt2 : (k : Int) < (l.length : Int) := by omega
      obtain ⟨x, hx⟩ : ∃ x, M[k]? = some x := ⟨_, List.getElem?_eq_getElem (by rw [HN.out]; exact hlt)⟩
      have HX := Lib.hid hx
      have HNx : Hid ((M.take k).map Lt.id ++ [x.id] = (M.take (k + 1)).map Lt.id) := Lib.hid (by
        obtain ⟨hkm, hxe⟩ := List.getElem?_eq_some_iff.1 hx
        rw [List.take_succ_eq_append_getElem hkm, List.map_append, hxe]; rfl)
      have HKl : Hid (((M.take k).map Lt.id).length = k) := Lib.hid (by rw [List.length_map, List.length_take, HN.out]; omega)
      clear hx
      go_upto_region 5 with (first | (first | ((with_reducible refine gguard ?_); (first | refine w_guardT (by rfl) (fun hb => ?_) (fun hb => ?_) | refine w_guardF (by rfl) (fun hb => ?_) (fun hb => ?_)) <;> first | (cases hb; done) | cases hb | ((try rw [hb]) <;> (try simp at hb) <;> go_prune <;> (try (with_reducible replace hb := eqPair hb)))) | (((with_reducible refine gbox ?_); first | refine w_boxA I (by rfl) ?_ | refine w_box1 I (by (conv => lhs; whnf) <;> rfl) (by rfl) ?_); clear I; intro g w I) | ((with_reducible refine galloc ?_); refine w_alloc I ?_; clear I; intro g w I) | ((with_reducible refine gload ?_); first | refine w_loadB I (by rfl) (by first | (with_reducible repeat (first | exact .here | apply At.there)); done | repeat (first | exact .here | apply At.there)) (by rfl) ?_ | refine w_loadBR I (by rfl) (by first | (with_reducible repeat (first | exact .here | apply At.there)); done | repeat (first | exact .here | apply At.there)) (by rfl) ?_ | refine w_load0 I (by rfl) (by assumption) ?_) | ((with_reducible refine gstore ?_); (first | refine w_storeB I (by rfl) (by (conv => lhs; whnf) <;> rfl) (by first | (with_reducible repeat (first | exact .here | apply Upd.there)); done | repeat (first | exact .here | apply Upd.there)) (by rfl) (by rfl) (by simp only [List.set_cons_zero, List.set_cons_succ] <;> rfl) ?_ | refine w_storeBR I (by rfl) (by rfl) (by first | (with_reducible repeat (first | exact .here | apply Upd.there)); done | repeat (first | exact .here | apply Upd.there)) (by rfl) (by rfl) (by rfl) ?_); clear I; intro w I)) | (go_at_call 61; go_must (refine (first_next _ _ l M T _ k x hl HG.out HP.out.1 HP.out.2 HT.out HX.out _ (HV.out.frF I.fr) (I.slv (.there .here) encO_len)).mono ?_; rintro _ w1 ⟨b, rfl, hbl, HB, hf⟩; replace I := I.still hf; clear hf)))
      all_goals try omega
      have hbl2 : (b : Int) < (l.length : Int) := by omega
      obtain ⟨ba, oa, rfl, hc0, -, -, -⟩ := lot_cells HS.out HB.out
      obtain ⟨old, hold⟩ : ∃ old, T[b]? = some old := ⟨_, List.getElem?_eq_getElem (by rw [HT.out.1]; exact hbl)⟩
      have HO := Lib.hid hold
      have HT2 : Hid (Fef.Taken l M (fun _ => true) (k + 1) (T.set b true)) := Lib.hid (by
        obtain ⟨hkm, hxe⟩ := List.getElem?_eq_some_iff.1 HX.out
        exact Fef.taken_next HG.out HP.out.1 HT.out hkm (by rw [hxe]; exact HB.out))
      clear hold
      go_wp2_with (first | ((with_reducible refine gstore (ty := 4) ?_); refine w_storeO (l' := T.set b true) encO_len I (by rfl) (by rfl) (by first | (with_reducible repeat (first | exact .here | apply Upd.there)); done | repeat (first | exact .here | apply Upd.there)) (i := b) (f := 0) (b := old) (b' := true) (by first | rfl | simp) HO.out (by decide) (by rfl) (by rfl) rfl ?_; clear I; intro w I) | (first | ((with_reducible refine gguard ?_); (first | refine w_guardT (by rfl) (fun hb => ?_) (fun hb => ?_) | refine w_guardF (by rfl) (fun hb => ?_) (fun hb => ?_)) <;> first | (cases hb; done) | cases hb | ((try rw [hb]) <;> (try simp at hb) <;> go_prune <;> (try (with_reducible replace hb := eqPair hb)))) | (((with_reducible refine gbox ?_); first | refine w_boxA I (by rfl) ?_ | refine w_box1 I (by (conv => lhs; whnf) <;> rfl) (by rfl) ?_); clear I; intro g w I) | ((with_reducible refine galloc ?_); refine w_alloc I ?_; clear I; intro g w I) | ((with_reducible refine gload ?_); first | refine w_loadB I (by rfl) (by first | (with_reducible repeat (first | exact .here | apply At.there)); done | repeat (first | exact .here | apply At.there)) (by rfl) ?_ | refine w_loadBR I (by rfl) (by first | (with_reducible repeat (first | exact .here | apply At.there)); done | repeat (first | exact .here | apply At.there)) (by rfl) ?_ | refine w_load0 I (by rfl) (by assumption) ?_) | ((with_reducible refine gstore ?_); (first | refine w_storeB I (by rfl) (by (conv => lhs; whnf) <;> rfl) (by first | (with_reducible repeat (first | exact .here | apply Upd.there)); done | repeat (first | exact .here | apply Upd.there)) (by rfl) (by rfl) (by simp only [List.set_cons_zero, List.set_cons_succ] <;> rfl) ?_ | refine w_storeBR I (by rfl) (by rfl) (by first | (with_reducible repeat (first | exact .here | apply Upd.there)); done | repeat (first | exact .here | apply Upd.there)) (by rfl) (by rfl) (by rfl) ?_); clear I; intro w I)) | (((with_reducible refine gbs ?_); refine w_bs1 (enc := encI) (b := x.id) encI_len I (by rfl) (by rfl) (by rfl) ?_); clear I; intro g w I) | ((with_reducible refine gappend ?_); refine w_append encI_len encI_one (by decide) I (by rfl) (by first | (with_reducible repeat (first | exact .here | apply At.there)); done | repeat (first | exact .here | apply At.there)) (by rfl) (l2 := [x.id]) (I.slv .here encI_len) (by have := HKl.out; first | omega | (simp <;> omega)) (by have := HKl.out; unfold maxLen; first | omega | (simp <;> omega)) ?_; clear I; intro A m c w I))
      all_goals try omega
      obtain ⟨A9, c9, e9, -, -, -, -⟩ := (I.own .here).reads encI_len
      injection e9 with _ e9 _
      rw [List.length_append, HKl.out] at e9
      subst e9
      go_roundw
      case rel => exact ⟨k + 1, _, _, _, rfl, by omega, HT2, by rw [← HNx.out]; exact I.drop (.there .here)⟩
      case measure => simp only [Fef.slLen, List.length_cons, List.length_nil]; omega
    · obtain rfl : k = l.length := by omega
      have hlt2 : ¬ (l.length : Int) < (l.length : Int) := by omega
      have HE : Hid (M.take l.length = M) := Lib.hid (by rw [← HN.out]; exact List.take_length)
      go_wp2_with fail
      go_ret
      exact ⟨_, rfl, by rw [HE.out] at I; exact I.drop (.there .here)⟩
end Go.Proofs.Ytggeloihnbjogaa
