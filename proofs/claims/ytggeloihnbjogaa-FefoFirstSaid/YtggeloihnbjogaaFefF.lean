
/- Lots (layer 15): the live question. -/
import Derived.Test.YtggeloihnbjogaaFefE
import Derived.Laws.StructEq
namespace Go.Proofs.Ytggeloihnbjogaa
open Go.RowKit Go.Hf
theorem pick_is (v : Value) (l M : List Lt) (p u : Int) (r : List (Int × Int)) (n : Int) (hr : Fef.res M u = (r, n)) (hu : -9223372036854775808 ≤ u ∧ u ≤ 9223372036854775807) (hl : l.length ≤ 1000) (ht : Fef.Tagged l) (hp : M.Perm (l.filter fun x => !Fef.other p x)) (hs : M.Pairwise Fef.lt) (w0 : World) (h : Lots w0 v l) :
    Calls Try.prog 27 #[v, .int .i64 p, .int .i64 u] w0 fun e w' => ∃ v', e = .returned (.tuple #[v', .int .i64 n]) ∧ St w0 w' [OwnS 52 2 encK v' r] := by
  refine (fefo_Pick v l p u hu hl ht w0 h).mono ?_
  rintro _ w1 ⟨M', v', k, HM, rfl, hk, S⟩
  obtain rfl := Fef.sort_uniq (HM.out.1.trans hp.symm) HM.out.2 hs
  have hk2 := hk.out
  rw [hr] at hk2 S
  exact ⟨v', by rw [hk2], S⟩
theorem order_is (v : Value) (l M : List Lt) (hl : l.length ≤ 1000) (ht : Fef.Tagged l) (hp : M.Perm l) (hs : M.Pairwise Fef.lt) (w0 : World) (h : Lots w0 v l) :
    Calls Try.prog 25 #[v] w0 fun e w' => ∃ v', e = .returned v' ∧ St w0 w' [OwnS 3 1 encI v' (M.map Lt.id)] := by
  refine (fefo_Order v l hl ht w0 h).mono ?_
  rintro _ w1 ⟨v', M', rfl, HM, S⟩
  obtain rfl := Fef.sort_uniq (HM.out.1.trans hp.symm) HM.out.2 hs
  exact ⟨v', rfl, S⟩
namespace Fef
abbrev a4 : Lt := ⟨4, 1, 5, 30, 0, 0, 0, none, 0, 0, 0⟩
abbrev a2 : Lt := ⟨2, 1, 6, 20, 0, 0, 0, none, 0, 0, 1⟩
abbrev a1 : Lt := ⟨1, 2, 9, 10, 0, 0, 0, none, 0, 0, 2⟩
abbrev a3 : Lt := ⟨3, 1, 7, 20, 0, 0, 0, none, 0, 0, 3⟩
theorem a_tagged : Tagged [a4, a2, a1, a3] := fun i h => match i, h with
  | 0, _ => rfl
  | 1, _ => rfl
  | 2, _ => rfl
  | 3, _ => rfl
  | _ + 4, h => by simp at h; omega
theorem a_filter : [a2, a3, a4].Perm ([a4, a2, a1, a3].filter fun x => !other 1 x) := List.perm_append_comm (l₁ := [a2, a3]) (l₂ := [a4])
theorem a_all : [a1, a2, a3, a4].Perm [a4, a2, a1, a3] := (List.perm_append_comm (l₁ := [a1, a2, a3]) (l₂ := [a4])).trans (List.Perm.cons _ (List.Perm.swap ..))
theorem a_s1 : [a2, a3, a4].Pairwise lt := by simp [lt]
theorem a_s2 : [a1, a2, a3, a4].Pairwise lt := by simp [lt]
theorem a_r1 : res [a2, a3, a4] 15 = ([(2, 6), (3, 7), (4, 2)], 0) := by decide
theorem a_r2 : res [a2, a3, a4] 19 = ([], 11) := by decide
theorem a_r3 : res [a2, a3, a4] 0 = ([], 1) := by decide
theorem a_tot : tot [(2, 6), (3, 7), (4, 2)] = 15 := by decide
end Fef
theorem eq_take (x y : Int × Int) (wx : World) : (Op.equalIn 10000 52 (.agg (encK x).toArray) (.agg (encK y).toArray)).run Try.prog wx = .ok (decide (x = y)) wx := by
  have hu := Try.underlying52
  have h3 := Try.underlying3
  unfold encK
  go_simp
  clear hu h3
  rcases x with ⟨a, b⟩
  rcases y with ⟨a', b'⟩
  (repeat' split) <;> simp_all
theorem total_is (v : Value) (l : List (Int × Int)) (n : Int) (hn : Fef.tot l = n) (hl : l.length ≤ 100000) (w0 : World) (h : SlV 2 (flat encK) w0 v l) :
    Calls Try.prog 29 #[v] w0 fun e w' => e = .returned (.int .i64 n) ∧ Fr w0 w' := by rw [← hn]; exact fefo_Total v l hl w0 h
set_option maxRecDepth 100000 in
set_option maxHeartbeats 4000000 in
theorem law15_alive (w0 : World) : Calls Try.prog 24 #[] w0 fun e w' => e = .returned (.bool true) ∧ Fr w0 w' := by
  have I := St.refl w0
  go_enter Try.func24, Try.ntmps24
  try dsimp only [List.append]
  go_upto_region 6 with (first | (first | ((with_reducible refine gguard ?_); (first | refine w_guardT (by rfl) (fun hb => ?_) (fun hb => ?_) | refine w_guardF (by rfl) (fun hb => ?_) (fun hb => ?_)) <;> first | (cases hb; done) | cases hb | ((try rw [hb]) <;> (try simp at hb) <;> go_prune <;> (try (with_reducible replace hb := eqPair hb)))) | (((with_reducible refine gbox ?_); first | refine w_boxA I (by rfl) ?_ | refine w_box1 I (by (conv => lhs; whnf) <;> rfl) (by rfl) ?_); clear I; intro g w I) | ((with_reducible refine galloc ?_); refine w_alloc I ?_; clear I; intro g w I) | ((with_reducible refine gload ?_); first | refine w_loadB I (by rfl) (by first | (with_reducible repeat (first | exact .here | apply At.there)); done | repeat (first | exact .here | apply At.there)) (by rfl) ?_ | refine w_loadBR I (by rfl) (by first | (with_reducible repeat (first | exact .here | apply At.there)); done | repeat (first | exact .here | apply At.there)) (by rfl) ?_ | refine w_load0 I (by rfl) (by assumption) ?_) | ((with_reducible refine gstore ?_); (first | refine w_storeB I (by rfl) (by (conv => lhs; whnf) <;> rfl) (by first | (with_reducible repeat (first | exact .here | apply Upd.there)); done | repeat (first | exact .here | apply Upd.there)) (by rfl) (by rfl) (by simp only [List.set_cons_zero, List.set_cons_succ] <;> rfl) ?_ | refine w_storeBR I (by rfl) (by rfl) (by first | (with_reducible repeat (first | exact .here | apply Upd.there)); done | repeat (first | exact .here | apply Upd.there)) (by rfl) (by rfl) (by rfl) ?_); clear I; intro w I)) | (((with_reducible refine gbsr ?_); refine w_bsr (enc := encT) [Fef.a4, Fef.a2, Fef.a1, Fef.a3] encT_len I (by rfl) (by rfl) (by decide) (by decide) (by decide) ?_); clear I; intro g w I) | (go_at_call 27; ((with_reducible refine (pick_is _ [Fef.a4, Fef.a2, Fef.a1, Fef.a3] _ 1 15 _ 0 Fef.a_r1 (by omega) (by simp) Fef.a_tagged Fef.a_filter Fef.a_s1 _ (I.slv (by first | (with_reducible repeat (first | exact .here | apply At.there)); done | repeat (first | exact .here | apply At.there)) encT_len)).mono ?_); rintro _ w1 ⟨t1, rfl, S⟩; replace I := I.then1 S; clear S)) | (go_at_call 27; ((with_reducible refine (pick_is _ [Fef.a4, Fef.a2, Fef.a1, Fef.a3] _ 1 19 _ 11 Fef.a_r2 (by omega) (by simp) Fef.a_tagged Fef.a_filter Fef.a_s1 _ (I.slv (by first | (with_reducible repeat (first | exact .here | apply At.there)); done | repeat (first | exact .here | apply At.there)) encT_len)).mono ?_); rintro _ w1 ⟨t2, rfl, S⟩; replace I := I.then1 S; clear S)) | (go_at_call 27; ((with_reducible refine (pick_is _ [Fef.a4, Fef.a2, Fef.a1, Fef.a3] _ 1 0 _ 1 Fef.a_r3 (by omega) (by simp) Fef.a_tagged Fef.a_filter Fef.a_s1 _ (I.slv (by first | (with_reducible repeat (first | exact .here | apply At.there)); done | repeat (first | exact .here | apply At.there)) encT_len)).mono ?_); rintro _ w1 ⟨t3, rfl, S⟩; replace I := I.then1 S; clear S)) | (go_at_call 25; go_must (refine (order_is _ [Fef.a4, Fef.a2, Fef.a1, Fef.a3] _ (by simp) Fef.a_tagged Fef.a_all Fef.a_s2 _ (I.slv (by first | (with_reducible repeat (first | exact .here | apply At.there)); done | repeat (first | exact .here | apply At.there)) encT_len)).mono ?_; rintro _ w1 ⟨t4, rfl, S⟩; replace I := I.then1 S; clear S)))
  all_goals try omega
  obtain ⟨g1, c1, h1, -, -, -⟩ := (I.own (e := 52) (n := 2) (enc := encK) (v := t1) (l := [(2, 6), (3, 7), (4, 2)]) (.there (.there (.there .here)))).base_of (by simp)
  obtain ⟨g4, c4, h4, -, -, -⟩ := (I.own (e := 3) (n := 1) (enc := encI) (v := t4) (l := [Fef.a1, Fef.a2, Fef.a3, Fef.a4].map Lt.id) .here).base_of (by simp)
  replace h1 : t1 = .slice (some ⟨g1, 0, none⟩) 3 c1 := h1
  replace h4 : t4 = .slice (some ⟨g4, 0, none⟩) 4 c4 := h4
  subst h1 h4
  have HT := Lib.hid (I.slv (v := .slice (some ⟨g1, 0, none⟩) 3 c1) (l := [(2, 6), (3, 7), (4, 2)]) (.there (.there (.there .here))) encK_len)
  have e0 := (I.own (v := .slice (some ⟨g1, 0, none⟩) 3 c1) (l := [(2, 6), (3, 7), (4, 2)]) (.there (.there (.there .here)))).cell encK_len 0 (by decide)
  have e1 := (I.own (v := .slice (some ⟨g1, 0, none⟩) 3 c1) (l := [(2, 6), (3, 7), (4, 2)]) (.there (.there (.there .here)))).cell encK_len 1 (by decide)
  have e2 := (I.own (v := .slice (some ⟨g1, 0, none⟩) 3 c1) (l := [(2, 6), (3, 7), (4, 2)]) (.there (.there (.there .here)))).cell encK_len 2 (by decide)
  have f := fun i hi => (I.own (e := 3) (n := 1) (enc := encI) (v := .slice (some ⟨g4, 0, none⟩) 4 c4) (l := [Fef.a1, Fef.a2, Fef.a3, Fef.a4].map Lt.id) .here).cell encI_len i hi 0
  rename World => w
  have x0 : w.cell? ⟨g1, 0, none⟩ = some (.int .i64 2) := e0 0 _ rfl
  have x1 : w.cell? ⟨g1, 1, none⟩ = some (.int .i64 6) := e0 1 _ rfl
  have x2 : w.cell? ⟨g1, 2, none⟩ = some (.int .i64 3) := e1 0 _ rfl
  have x3 : w.cell? ⟨g1, 3, none⟩ = some (.int .i64 7) := e1 1 _ rfl
  have x4 : w.cell? ⟨g1, 4, none⟩ = some (.int .i64 4) := e2 0 _ rfl
  have x5 : w.cell? ⟨g1, 5, none⟩ = some (.int .i64 2) := e2 1 _ rfl
  have y0 : w.cell? ⟨g4, 0, none⟩ = some (.int .i64 1) := f 0 (by decide) _ rfl
  have y1 : w.cell? ⟨g4, 1, none⟩ = some (.int .i64 2) := f 1 (by decide) _ rfl
  have y3 : w.cell? ⟨g4, 3, none⟩ = some (.int .i64 4) := f 3 (by decide) _ rfl
  have q1 := fun wx => eq_take (2, 6) (2, 6) wx
  have q2 := fun wx => eq_take (3, 7) (3, 7) wx
  have q3 := fun wx => eq_take (4, 2) (4, 2) wx
  dsimp only [encK] at q1 q2 q3
  simp only [decide_true] at q1 q2 q3
  have HI := Lib.hid I.fr
  clear I e0 e1 e2 f
  go_wp2_with (first | (go_at_call 29; go_must (refine (total_is _ [(2, 6), (3, 7), (4, 2)] 15 Fef.a_tot (by simp) _ HT.out).mono ?_; rintro _ w1 ⟨rfl, hf⟩)))
  all_goals try omega
  go_ret
  exact ⟨rfl, HI.out.trans hf⟩
end Go.Proofs.Ytggeloihnbjogaa
