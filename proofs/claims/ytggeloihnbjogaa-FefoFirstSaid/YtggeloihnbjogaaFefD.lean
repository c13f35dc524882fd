
/- Lots (layer 15): what is picked: the program's. -/
import Derived.Test.YtggeloihnbjogaaFefC
namespace Go.Proofs.Ytggeloihnbjogaa
open Go.RowKit Go.Hf
def encK (t : Int × Int) : List Value := [.int .i64 t.1, .int .i64 t.2]
theorem encK_len (x : Int × Int) : (encK x).length = 2 := rfl
theorem encK_one (x : Int × Int) : ∀ u ∈ encK x, u.oneCell' = true := by intro u hu; simp [encK] at hu; rcases hu with rfl | rfl <;> rfl
namespace Fef
def run : List Lt → Int → List (Int × Int) × Int
  | [], u => ([], u)
  | x :: M, u => if u ≤ 0 then ([], u) else ((x.id, min x.units u) :: (run M (u - min x.units u)).1, (run M (u - min x.units u)).2)
theorem run_zero (M : List Lt) {u : Int} (h : u ≤ 0) : run M u = ([], u) := by
  cases M with
  | nil => rfl
  | cons x M => rw [run, if_pos h]
/-- What is told, with its error. -/
def res (M : List Lt) (u : Int) : List (Int × Int) × Int := if u < 1 ∨ M.any bad = true then ([], 1) else if 0 < (run M u).2 then ([], 11) else ((run M u).1, 0)
/-- Behind k of them. -/
def Upto (M : List Lt) (u : Int) (k : Nat) (uk : Int) (out : List (Int × Int)) : Prop := out.length = k ∧ run M u = (out ++ (run (M.drop k) uk).1, (run (M.drop k) uk).2)
theorem Upto.start (M : List Lt) (u : Int) : Upto M u 0 u [] := ⟨rfl, rfl⟩
theorem Upto.next {M : List Lt} {u uk : Int} {k : Nat} {out : List (Int × Int)} (h : Upto M u k uk out) {x : Lt} (hx : M[k]? = some x) (hu : 0 < uk) {n : Int} (hn : min x.units uk = n) : Upto M u (k + 1) (uk - n) (out ++ [(x.id, n)]) := by
  obtain ⟨hk, hxe⟩ := List.getElem?_eq_some_iff.1 hx
  refine ⟨by rw [List.length_append, h.1]; rfl, ?_⟩
  rw [h.2, List.drop_eq_getElem_cons hk, hxe, run, if_neg (by omega), hn]
  simp
theorem Upto.done {M : List Lt} {u uk : Int} {k : Nat} {out : List (Int × Int)} (h : Upto M u k uk out) (he : uk ≤ 0 ∨ M.length ≤ k) : run M u = (out, uk) := by
  rw [h.2]
  rcases he with he | he
  · rw [run_zero _ he]; simp
  · rw [List.drop_of_length_le he]; simp [run]
end Fef
set_option maxRecDepth 100000 in
set_option maxHeartbeats 8000000 in
theorem fefo_Pick (v : Value) (l : List Lt) (p u : Int) (hu : -9223372036854775808 ≤ u ∧ u ≤ 9223372036854775807) (hl : l.length ≤ 1000) (ht : Fef.Tagged l) (w0 : World) (h : Lots w0 v l) :
    Calls Try.prog 27 #[v, .int .i64 p, .int .i64 u] w0 fun e w' => ∃ (M : List Lt) (v' : Value) (n : Int), Hid (M.Perm (l.filter fun x => !Fef.other p x) ∧ M.Pairwise Fef.lt) ∧ e = .returned (.tuple #[v', .int .i64 n]) ∧ Hid (n = (Fef.res M u).2) ∧ St w0 w' [OwnS 52 2 encK v' (Fef.res M u).1] := by
  have HV := Lib.hid h
  clear h
  have I := St.refl w0
  go_enter Try.func27, Try.ntmps27
  go_wp2_with (first | ((with_reducible refine gbox (ty := 3) ?_); (first | refine w_boxA I (by rfl) ?_ | refine w_box1 I (by (conv => lhs; whnf) <;> rfl) (by rfl) ?_); clear I; intro gp w I) | (first | ((with_reducible refine gguard ?_); (first | refine w_guardT (by rfl) (fun hb => ?_) (fun hb => ?_) | refine w_guardF (by rfl) (fun hb => ?_) (fun hb => ?_)) <;> first | (cases hb; done) | cases hb | ((try rw [hb]) <;> (try simp at hb) <;> go_prune <;> (try (with_reducible replace hb := eqPair hb)))) | (((with_reducible refine gbox ?_); first | refine w_boxA I (by rfl) ?_ | refine w_box1 I (by (conv => lhs; whnf) <;> rfl) (by rfl) ?_); clear I; intro g w I) | ((with_reducible refine galloc ?_); refine w_alloc I ?_; clear I; intro g w I) | ((with_reducible refine gload ?_); first | refine w_loadB I (by rfl) (by first | (with_reducible repeat (first | exact .here | apply At.there)); done | repeat (first | exact .here | apply At.there)) (by rfl) ?_ | refine w_loadBR I (by rfl) (by first | (with_reducible repeat (first | exact .here | apply At.there)); done | repeat (first | exact .here | apply At.there)) (by rfl) ?_ | refine w_load0 I (by rfl) (by assumption) ?_) | ((with_reducible refine gstore ?_); (first | refine w_storeB I (by rfl) (by (conv => lhs; whnf) <;> rfl) (by first | (with_reducible repeat (first | exact .here | apply Upd.there)); done | repeat (first | exact .here | apply Upd.there)) (by rfl) (by rfl) (by simp only [List.set_cons_zero, List.set_cons_succ] <;> rfl) ?_ | refine w_storeBR I (by rfl) (by rfl) (by first | (with_reducible repeat (first | exact .here | apply Upd.there)); done | repeat (first | exact .here | apply Upd.there)) (by rfl) (by rfl) (by rfl) ?_); clear I; intro w I)))
  go_step3
  go_upto_region 2 with (first | (first | ((with_reducible refine gguard ?_); (first | refine w_guardT (by rfl) (fun hb => ?_) (fun hb => ?_) | refine w_guardF (by rfl) (fun hb => ?_) (fun hb => ?_)) <;> first | (cases hb; done) | cases hb | ((try rw [hb]) <;> (try simp at hb) <;> go_prune <;> (try (with_reducible replace hb := eqPair hb)))) | (((with_reducible refine gbox ?_); first | refine w_boxA I (by rfl) ?_ | refine w_box1 I (by (conv => lhs; whnf) <;> rfl) (by rfl) ?_); clear I; intro g w I) | ((with_reducible refine galloc ?_); refine w_alloc I ?_; clear I; intro g w I) | ((with_reducible refine gload ?_); first | refine w_loadB I (by rfl) (by first | (with_reducible repeat (first | exact .here | apply At.there)); done | repeat (first | exact .here | apply At.there)) (by rfl) ?_ | refine w_loadBR I (by rfl) (by first | (with_reducible repeat (first | exact .here | apply At.there)); done | repeat (first | exact .here | apply At.there)) (by rfl) ?_ | refine w_load0 I (by rfl) (by assumption) ?_) | ((with_reducible refine gstore ?_); (first | refine w_storeB I (by rfl) (by (conv => lhs; whnf) <;> rfl) (by first | (with_reducible repeat (first | exact .here | apply Upd.there)); done | repeat (first | exact .here | apply Upd.there)) (by rfl) (by rfl) (by simp only [List.set_cons_zero, List.set_cons_succ] <;> rfl) ?_ | refine w_storeBR I (by rfl) (by rfl) (by first | (with_reducible repeat (first | exact .here | apply Upd.there)); done | repeat (first | exact .here | apply Upd.there)) (by rfl) (by rfl) (by rfl) ?_); clear I; intro w I)) | (go_at_call 60; go_must (refine (fefo_sorted v l hl ht _ (HV.out.frF I.fr)).mono ?_; rintro _ w1 ⟨vm, M0, rfl, HM0, S⟩; replace I := I.then1 S; clear S)) | (go_at_call 62; go_must (refine (lots_DeleteFuncAny vm gp _ M0 p _ _ _ _ _ I .here .here).mono ?_; rintro _ w1 ⟨A, k0, c, rfl, hk0, hkc, hcm, hA, S⟩; clear I; have I := S; clear S; replace hk0 := Lib.hid hk0; replace hA := Lib.hid hA)))
  replace hk0 := hk0.out
  replace hA := hA.out
  obtain ⟨M, hM⟩ : ∃ M, (M0.filter fun x => !Fef.other p x) = M := ⟨_, rfl⟩
  have HM : Hid (M.Perm (l.filter fun x => !Fef.other p x) ∧ M.Pairwise Fef.lt) := Lib.hid ⟨by rw [← hM]; exact HM0.out.1.filter _, by rw [← hM]; exact HM0.out.2.filter _⟩
  have HMl : Hid (M.length ≤ 1000) := Lib.hid (by
    have h1 := HM.out.1.length_eq
    have h2 := List.length_filter_le (fun x => !Fef.other p x) l
    omega)
  rw [hM] at hk0 hA I
  have HA := Lib.hid hA
  have HK := Lib.hid hk0
  unfold maxLen at hcm
  clear hM hA HM0 hk0
  by_cases hu1 : u < 1
  · have d1 : decide (u < 1) = true := decide_eq_true hu1
    have HRs : Hid (Fef.res M u = ([], 1)) := Lib.hid (if_pos (.inl hu1))
    go_wp2_with fail
    replace I := I.nilOwn 52 2 encK
    try rw [Exit.noGoto_ret]
    exact ret_2 rfl (by first | (exact ResV.t _ (by rfl)) | (exact ResV.row I (by rfl) (by first | (with_reducible repeat (first | exact .here | apply At.there)); done | repeat (first | exact .here | apply At.there)) (by rfl)) | (exact ResV.one I (by rfl) (by first | (with_reducible repeat (first | exact .here | apply At.there)); done | repeat (first | exact .here | apply At.there)))) (by first | (exact ResV.t _ (by rfl)) | (exact ResV.row I (by rfl) (by first | (with_reducible repeat (first | exact .here | apply At.there)); done | repeat (first | exact .here | apply At.there)) (by rfl)) | (exact ResV.one I (by rfl) (by first | (with_reducible repeat (first | exact .here | apply At.there)); done | repeat (first | exact .here | apply At.there)))) rfl ⟨M, _, _, HM, rfl, Lib.hid (by rw [HRs.out]), by rw [HRs.out]; exact (I.drop (.there .here)).drop (.there .here)⟩
  · have d1 : decide (u < 1) = false := decide_eq_false hu1
    cases hb : M.any Fef.bad with
    | true =>
      have HC := Lib.hid (lots_ContainsFunc (.slice A k0 c) M)
      rw [hb] at HC
      have HRs : Hid (Fef.res M u = ([], 1)) := Lib.hid (if_pos (.inr hb))
      clear hb
      go_wp2_with (first | (first | ((with_reducible refine gguard ?_); (first | refine w_guardT (by rfl) (fun hb => ?_) (fun hb => ?_) | refine w_guardF (by rfl) (fun hb => ?_) (fun hb => ?_)) <;> first | (cases hb; done) | cases hb | ((try rw [hb]) <;> (try simp at hb) <;> go_prune <;> (try (with_reducible replace hb := eqPair hb)))) | (((with_reducible refine gbox ?_); first | refine w_boxA I (by rfl) ?_ | refine w_box1 I (by (conv => lhs; whnf) <;> rfl) (by rfl) ?_); clear I; intro g w I) | ((with_reducible refine galloc ?_); refine w_alloc I ?_; clear I; intro g w I) | ((with_reducible refine gload ?_); first | refine w_loadB I (by rfl) (by first | (with_reducible repeat (first | exact .here | apply At.there)); done | repeat (first | exact .here | apply At.there)) (by rfl) ?_ | refine w_loadBR I (by rfl) (by first | (with_reducible repeat (first | exact .here | apply At.there)); done | repeat (first | exact .here | apply At.there)) (by rfl) ?_ | refine w_load0 I (by rfl) (by assumption) ?_) | ((with_reducible refine gstore ?_); (first | refine w_storeB I (by rfl) (by (conv => lhs; whnf) <;> rfl) (by first | (with_reducible repeat (first | exact .here | apply Upd.there)); done | repeat (first | exact .here | apply Upd.there)) (by rfl) (by rfl) (by simp only [List.set_cons_zero, List.set_cons_succ] <;> rfl) ?_ | refine w_storeBR I (by rfl) (by rfl) (by first | (with_reducible repeat (first | exact .here | apply Upd.there)); done | repeat (first | exact .here | apply Upd.there)) (by rfl) (by rfl) (by rfl) ?_); clear I; intro w I)) | (go_at_call 64; go_must (refine (HC.out _ (I.slv .here encT_len)).mono ?_; rintro _ w1 ⟨rfl, hf⟩; replace I := I.still hf; clear hf)))
      replace I := I.nilOwn 52 2 encK
      try rw [Exit.noGoto_ret]
      exact ret_2 rfl (by first | (exact ResV.t _ (by rfl)) | (exact ResV.row I (by rfl) (by first | (with_reducible repeat (first | exact .here | apply At.there)); done | repeat (first | exact .here | apply At.there)) (by rfl)) | (exact ResV.one I (by rfl) (by first | (with_reducible repeat (first | exact .here | apply At.there)); done | repeat (first | exact .here | apply At.there)))) (by first | (exact ResV.t _ (by rfl)) | (exact ResV.row I (by rfl) (by first | (with_reducible repeat (first | exact .here | apply At.there)); done | repeat (first | exact .here | apply At.there)) (by rfl)) | (exact ResV.one I (by rfl) (by first | (with_reducible repeat (first | exact .here | apply At.there)); done | repeat (first | exact .here | apply At.there)))) rfl ⟨M, _, _, HM, rfl, Lib.hid (by rw [HRs.out]), by rw [HRs.out]; exact (I.drop (.there .here)).drop (.there .here)⟩
    | false =>
      have HC := Lib.hid (lots_ContainsFunc (.slice A k0 c) M)
      rw [hb] at HC
      have HRs : Hid (Fef.res M u = if 0 < (Fef.run M u).2 then ([], 11) else ((Fef.run M u).1, 0)) := Lib.hid (if_neg (by rw [hb]; simp; omega))
      have HGood : Hid (∀ x ∈ M, 1 ≤ x.units) := Lib.hid (fun x hx => by
        have := List.any_eq_false.1 hb x hx
        unfold Fef.bad at this
        simp at this
        omega)
      clear hb
      go_wp2_with (first | (first | ((with_reducible refine gguard ?_); (first | refine w_guardT (by rfl) (fun hb => ?_) (fun hb => ?_) | refine w_guardF (by rfl) (fun hb => ?_) (fun hb => ?_)) <;> first | (cases hb; done) | cases hb | ((try rw [hb]) <;> (try simp at hb) <;> go_prune <;> (try (with_reducible replace hb := eqPair hb)))) | (((with_reducible refine gbox ?_); first | refine w_boxA I (by rfl) ?_ | refine w_box1 I (by (conv => lhs; whnf) <;> rfl) (by rfl) ?_); clear I; intro g w I) | ((with_reducible refine galloc ?_); refine w_alloc I ?_; clear I; intro g w I) | ((with_reducible refine gload ?_); first | refine w_loadB I (by rfl) (by first | (with_reducible repeat (first | exact .here | apply At.there)); done | repeat (first | exact .here | apply At.there)) (by rfl) ?_ | refine w_loadBR I (by rfl) (by first | (with_reducible repeat (first | exact .here | apply At.there)); done | repeat (first | exact .here | apply At.there)) (by rfl) ?_ | refine w_load0 I (by rfl) (by assumption) ?_) | ((with_reducible refine gstore ?_); (first | refine w_storeB I (by rfl) (by (conv => lhs; whnf) <;> rfl) (by first | (with_reducible repeat (first | exact .here | apply Upd.there)); done | repeat (first | exact .here | apply Upd.there)) (by rfl) (by rfl) (by simp only [List.set_cons_zero, List.set_cons_succ] <;> rfl) ?_ | refine w_storeBR I (by rfl) (by rfl) (by first | (with_reducible repeat (first | exact .here | apply Upd.there)); done | repeat (first | exact .here | apply Upd.there)) (by rfl) (by rfl) (by rfl) ?_); clear I; intro w I)) | (go_at_call 64; go_must (refine (HC.out _ (I.slv .here encT_len)).mono ?_; rintro _ w1 ⟨rfl, hf⟩; replace I := I.still hf; clear hf)))
      go_step3
      go_wp2_with fail
      replace I := I.nilOwn 52 2 encK
      go_loopw [2, 9, 25] (fun uv o i wr => ∃ (k : Nat) (uk : Int) (A2 : Option Addr) (c2 : Nat) (out : List (Int × Int)), uv = .int .i64 uk ∧ o = .slice A2 k c2 ∧ i = .int .i64 k ∧ k ≤ k0 ∧ 0 < uk ∧ uk ≤ u ∧ Hid (Fef.Upto M u k uk out) ∧ St w0 wr [OwnS 52 2 encK (.slice A2 k c2) out, OwnT (.slice A k0 c) M]) (fun _ _ i _ => k0 - (intOf i).toNat)
      case atStart => exact ⟨0, u, none, 0, [], rfl, rfl, rfl, by omega, by omega, by omega, Lib.hid (Fef.Upto.start M u), I.drop (.there (.there .here))⟩
      case round =>
        clear I
        obtain ⟨k, uk, A2, c2, out, rfl, rfl, rfl, hk, huk0, huku, HUp, I⟩ := hrel
        rename World => wr
        have hk0l : k0 ≤ 1000 := by rw [HK.out]; exact HMl.out
        by_cases hlt : k < k0
        · have hlt2 : (k : Int) < (k0 : Int) := by omega
          obtain ⟨g, hg⟩ := HA.out (by intro e; have := HK.out; rw [e] at this; simp at this; omega)
          subst hg
          obtain ⟨x, hx⟩ : ∃ x, M[k]? = some x := ⟨_, List.getElem?_eq_getElem (by rw [← HK.out]; exact hlt)⟩
          have HX := Lib.hid hx
          have hxu : 1 ≤ x.units := HGood.out x (List.mem_of_getElem? hx)
          have HR := Lib.hid (fun j uu hj => cellsF (I.take (.there .here)) k x hx wr (Fr.refl _) j uu hj)
          have HKl : Hid (out.length = k) := Lib.hid HUp.out.1
          clear hx
          by_cases hmn : uk < x.units
          · have d2 : decide (uk < x.units) = true := decide_eq_true hmn
            have HU2 : Hid (Fef.Upto M u (k + 1) 0 (out ++ [(x.id, uk)])) := Lib.hid (by have := HUp.out.next HX.out huk0 (n := uk) (by omega); rwa [Int.sub_self] at this)
            have HF : Hid (Fef.res M u = (out ++ [(x.id, uk)], 0)) := Lib.hid (by rw [HRs.out, HU2.out.done (.inl (Int.le_refl _))]; rfl)
            go_wp2_with (first | ((with_reducible refine gload (ty := 59) ?_); refine w_loadR (n := 8) (cs := encT x) (by rfl) rfl (fun j u hj => by rw [addr_add]; exact HR.out j u hj) ?_) | (first | ((with_reducible refine gguard ?_); (first | refine w_guardT (by rfl) (fun hb => ?_) (fun hb => ?_) | refine w_guardF (by rfl) (fun hb => ?_) (fun hb => ?_)) <;> first | (cases hb; done) | cases hb | ((try rw [hb]) <;> (try simp at hb) <;> go_prune <;> (try (with_reducible replace hb := eqPair hb)))) | (((with_reducible refine gbox ?_); first | refine w_boxA I (by rfl) ?_ | refine w_box1 I (by (conv => lhs; whnf) <;> rfl) (by rfl) ?_); clear I; intro g w I) | ((with_reducible refine galloc ?_); refine w_alloc I ?_; clear I; intro g w I) | ((with_reducible refine gload ?_); first | refine w_loadB I (by rfl) (by first | (with_reducible repeat (first | exact .here | apply At.there)); done | repeat (first | exact .here | apply At.there)) (by rfl) ?_ | refine w_loadBR I (by rfl) (by first | (with_reducible repeat (first | exact .here | apply At.there)); done | repeat (first | exact .here | apply At.there)) (by rfl) ?_ | refine w_load0 I (by rfl) (by assumption) ?_) | ((with_reducible refine gstore ?_); (first | refine w_storeB I (by rfl) (by (conv => lhs; whnf) <;> rfl) (by first | (with_reducible repeat (first | exact .here | apply Upd.there)); done | repeat (first | exact .here | apply Upd.there)) (by rfl) (by rfl) (by simp only [List.set_cons_zero, List.set_cons_succ] <;> rfl) ?_ | refine w_storeBR I (by rfl) (by rfl) (by first | (with_reducible repeat (first | exact .here | apply Upd.there)); done | repeat (first | exact .here | apply Upd.there)) (by rfl) (by rfl) (by rfl) ?_); clear I; intro w I)) | (((with_reducible refine gbsr ?_); refine w_bsr (enc := encK) [(x.id, uk)] encK_len I (by rfl) (by rfl) (by decide) (by decide) (by decide) ?_); clear I; intro g w I) | ((with_reducible refine gappend ?_); refine w_append encK_len encK_one (by decide) I (by rfl) (by first | (with_reducible repeat (first | exact .here | apply At.there)); done | repeat (first | exact .here | apply At.there)) (by rfl) (l2 := [(x.id, uk)]) (I.slv .here encK_len) (by have := HKl.out; first | omega | (simp <;> omega)) (by have := HKl.out; unfold maxLen; first | omega | (simp <;> omega)) ?_; clear I; intro A m c w I))
            all_goals try omega
            obtain ⟨A9, c9, e9, -, -, -, -⟩ := (I.own .here).reads encK_len
            injection e9 with _ e9 _
            rw [List.length_append, HKl.out] at e9
            subst e9
            try rw [Exit.noGoto_ret]
            exact ret_2 rfl (by first | (exact ResV.t _ (by rfl)) | (exact ResV.row I (by rfl) (by first | (with_reducible repeat (first | exact .here | apply At.there)); done | repeat (first | exact .here | apply At.there)) (by rfl)) | (exact ResV.one I (by rfl) (by first | (with_reducible repeat (first | exact .here | apply At.there)); done | repeat (first | exact .here | apply At.there)))) (by first | (exact ResV.t _ (by rfl)) | (exact ResV.row I (by rfl) (by first | (with_reducible repeat (first | exact .here | apply At.there)); done | repeat (first | exact .here | apply At.there)) (by rfl)) | (exact ResV.one I (by rfl) (by first | (with_reducible repeat (first | exact .here | apply At.there)); done | repeat (first | exact .here | apply At.there)))) rfl ⟨M, _, _, HM, rfl, Lib.hid (by rw [HF.out]), by rw [HF.out]; exact ((I.drop (.there .here)).drop (.there .here)).drop (.there .here)⟩
          · have d2 : decide (uk < x.units) = false := decide_eq_false hmn
            by_cases hr : uk - x.units = 0
            · have hw : IntKind.i64.wrap (uk - x.units) = 0 := by rw [hr]; rfl
              have HU2 : Hid (Fef.Upto M u (k + 1) 0 (out ++ [(x.id, x.units)])) := Lib.hid (by have := HUp.out.next HX.out huk0 (n := x.units) (by omega); rwa [hr] at this)
              have HF : Hid (Fef.res M u = (out ++ [(x.id, x.units)], 0)) := Lib.hid (by rw [HRs.out, HU2.out.done (.inl (Int.le_refl _))]; rfl)
              clear hr
              go_wp2_with (first | ((with_reducible refine gload (ty := 59) ?_); refine w_loadR (n := 8) (cs := encT x) (by rfl) rfl (fun j u hj => by rw [addr_add]; exact HR.out j u hj) ?_) | (first | ((with_reducible refine gguard ?_); (first | refine w_guardT (by rfl) (fun hb => ?_) (fun hb => ?_) | refine w_guardF (by rfl) (fun hb => ?_) (fun hb => ?_)) <;> first | (cases hb; done) | cases hb | ((try rw [hb]) <;> (try simp at hb) <;> go_prune <;> (try (with_reducible replace hb := eqPair hb)))) | (((with_reducible refine gbox ?_); first | refine w_boxA I (by rfl) ?_ | refine w_box1 I (by (conv => lhs; whnf) <;> rfl) (by rfl) ?_); clear I; intro g w I) | ((with_reducible refine galloc ?_); refine w_alloc I ?_; clear I; intro g w I) | ((with_reducible refine gload ?_); first | refine w_loadB I (by rfl) (by first | (with_reducible repeat (first | exact .here | apply At.there)); done | repeat (first | exact .here | apply At.there)) (by rfl) ?_ | refine w_loadBR I (by rfl) (by first | (with_reducible repeat (first | exact .here | apply At.there)); done | repeat (first | exact .here | apply At.there)) (by rfl) ?_ | refine w_load0 I (by rfl) (by assumption) ?_) | ((with_reducible refine gstore ?_); (first | refine w_storeB I (by rfl) (by (conv => lhs; whnf) <;> rfl) (by first | (with_reducible repeat (first | exact .here | apply Upd.there)); done | repeat (first | exact .here | apply Upd.there)) (by rfl) (by rfl) (by simp only [List.set_cons_zero, List.set_cons_succ] <;> rfl) ?_ | refine w_storeBR I (by rfl) (by rfl) (by first | (with_reducible repeat (first | exact .here | apply Upd.there)); done | repeat (first | exact .here | apply Upd.there)) (by rfl) (by rfl) (by rfl) ?_); clear I; intro w I)) | (((with_reducible refine gbsr ?_); refine w_bsr (enc := encK) [(x.id, x.units)] encK_len I (by rfl) (by rfl) (by decide) (by decide) (by decide) ?_); clear I; intro g w I) | ((with_reducible refine gappend ?_); refine w_append encK_len encK_one (by decide) I (by rfl) (by first | (with_reducible repeat (first | exact .here | apply At.there)); done | repeat (first | exact .here | apply At.there)) (by rfl) (l2 := [(x.id, x.units)]) (I.slv .here encK_len) (by have := HKl.out; first | omega | (simp <;> omega)) (by have := HKl.out; unfold maxLen; first | omega | (simp <;> omega)) ?_; clear I; intro A m c w I))
              all_goals try omega
              obtain ⟨A9, c9, e9, -, -, -, -⟩ := (I.own .here).reads encK_len
              injection e9 with _ e9 _
              rw [List.length_append, HKl.out] at e9
              subst e9
              try rw [Exit.noGoto_ret]
              exact ret_2 rfl (by first | (exact ResV.t _ (by rfl)) | (exact ResV.row I (by rfl) (by first | (with_reducible repeat (first | exact .here | apply At.there)); done | repeat (first | exact .here | apply At.there)) (by rfl)) | (exact ResV.one I (by rfl) (by first | (with_reducible repeat (first | exact .here | apply At.there)); done | repeat (first | exact .here | apply At.there)))) (by first | (exact ResV.t _ (by rfl)) | (exact ResV.row I (by rfl) (by first | (with_reducible repeat (first | exact .here | apply At.there)); done | repeat (first | exact .here | apply At.there)) (by rfl)) | (exact ResV.one I (by rfl) (by first | (with_reducible repeat (first | exact .here | apply At.there)); done | repeat (first | exact .here | apply At.there)))) rfl ⟨M, _, _, HM, rfl, Lib.hid (by rw [HF.out]), by rw [HF.out]; exact ((I.drop (.there .here)).drop (.there .here)).drop (.there .here)⟩
            · obtain ⟨r, hre⟩ : ∃ r, uk - x.units = r := ⟨_, rfl⟩
              have hw : IntKind.i64.wrap (uk - x.units) = r := by rw [IntKind.wrap_i64]; omega
              have hr0 : (r == 0) = false := by simp; omega
              have HU2 : Hid (Fef.Upto M u (k + 1) r (out ++ [(x.id, x.units)])) := Lib.hid (by have := HUp.out.next HX.out huk0 (n := x.units) (by omega); rwa [hre] at this)
              have hrp : 0 < r := by omega
              have hru : r ≤ u := by omega
              clear hr hre
              go_wp2_with (first | ((with_reducible refine gload (ty := 59) ?_); refine w_loadR (n := 8) (cs := encT x) (by rfl) rfl (fun j u hj => by rw [addr_add]; exact HR.out j u hj) ?_) | (first | ((with_reducible refine gguard ?_); (first | refine w_guardT (by rfl) (fun hb => ?_) (fun hb => ?_) | refine w_guardF (by rfl) (fun hb => ?_) (fun hb => ?_)) <;> first | (cases hb; done) | cases hb | ((try rw [hb]) <;> (try simp at hb) <;> go_prune <;> (try (with_reducible replace hb := eqPair hb)))) | (((with_reducible refine gbox ?_); first | refine w_boxA I (by rfl) ?_ | refine w_box1 I (by (conv => lhs; whnf) <;> rfl) (by rfl) ?_); clear I; intro g w I) | ((with_reducible refine galloc ?_); refine w_alloc I ?_; clear I; intro g w I) | ((with_reducible refine gload ?_); first | refine w_loadB I (by rfl) (by first | (with_reducible repeat (first | exact .here | apply At.there)); done | repeat (first | exact .here | apply At.there)) (by rfl) ?_ | refine w_loadBR I (by rfl) (by first | (with_reducible repeat (first | exact .here | apply At.there)); done | repeat (first | exact .here | apply At.there)) (by rfl) ?_ | refine w_load0 I (by rfl) (by assumption) ?_) | ((with_reducible refine gstore ?_); (first | refine w_storeB I (by rfl) (by (conv => lhs; whnf) <;> rfl) (by first | (with_reducible repeat (first | exact .here | apply Upd.there)); done | repeat (first | exact .here | apply Upd.there)) (by rfl) (by rfl) (by simp only [List.set_cons_zero, List.set_cons_succ] <;> rfl) ?_ | refine w_storeBR I (by rfl) (by rfl) (by first | (with_reducible repeat (first | exact .here | apply Upd.there)); done | repeat (first | exact .here | apply Upd.there)) (by rfl) (by rfl) (by rfl) ?_); clear I; intro w I)) | (((with_reducible refine gbsr ?_); refine w_bsr (enc := encK) [(x.id, x.units)] encK_len I (by rfl) (by rfl) (by decide) (by decide) (by decide) ?_); clear I; intro g w I) | ((with_reducible refine gappend ?_); refine w_append encK_len encK_one (by decide) I (by rfl) (by first | (with_reducible repeat (first | exact .here | apply At.there)); done | repeat (first | exact .here | apply At.there)) (by rfl) (l2 := [(x.id, x.units)]) (I.slv .here encK_len) (by have := HKl.out; first | omega | (simp <;> omega)) (by have := HKl.out; unfold maxLen; first | omega | (simp <;> omega)) ?_; clear I; intro A m c w I))
              all_goals try omega
              obtain ⟨A9, c9, e9, -, -, -, -⟩ := (I.own .here).reads encK_len
              injection e9 with _ e9 _
              rw [List.length_append, HKl.out] at e9
              subst e9
              go_roundw
              case rel => exact ⟨k + 1, r, _, _, _, rfl, rfl, by go_num, by omega, hrp, hru, HU2, (I.drop (.there .here)).drop (.there .here)⟩
              case measure => simp [intOf]; omega
        · obtain rfl : k = k0 := by omega
          have hlt2 : ¬ (k : Int) < (k : Int) := by omega
          have d2 : decide ((0 : Int) < uk) = true := decide_eq_true huk0
          have HF : Hid (Fef.res M u = ([], 11)) := Lib.hid (by rw [HRs.out, HUp.out.done (.inr (by rw [HK.out]; exact Nat.le_refl _)), if_pos huk0])
          go_wp2_with fail
          replace I := I.nilOwn 52 2 encK
          try rw [Exit.noGoto_ret]
          exact ret_2 rfl (by first | (exact ResV.t _ (by rfl)) | (exact ResV.row I (by rfl) (by first | (with_reducible repeat (first | exact .here | apply At.there)); done | repeat (first | exact .here | apply At.there)) (by rfl)) | (exact ResV.one I (by rfl) (by first | (with_reducible repeat (first | exact .here | apply At.there)); done | repeat (first | exact .here | apply At.there)))) (by first | (exact ResV.t _ (by rfl)) | (exact ResV.row I (by rfl) (by first | (with_reducible repeat (first | exact .here | apply At.there)); done | repeat (first | exact .here | apply At.there)) (by rfl)) | (exact ResV.one I (by rfl) (by first | (with_reducible repeat (first | exact .here | apply At.there)); done | repeat (first | exact .here | apply At.there)))) rfl ⟨M, _, _, HM, rfl, Lib.hid (by rw [HF.out]), by rw [HF.out]; exact (I.drop (.there .here)).drop (.there .here)⟩
end Go.Proofs.Ytggeloihnbjogaa
