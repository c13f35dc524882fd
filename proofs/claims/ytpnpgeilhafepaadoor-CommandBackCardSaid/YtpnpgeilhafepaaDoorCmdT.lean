
/- Commands (layer 18): bytes.Equal, and the program's Same. -/
import Derived.Test.YtpnpgeilhafepaaDoorCmdS
import Derived.Test.YtpnpgeilhafepaaDoorShE
import Derived.Deep.RegionHeld3
import Derived.Laws.StructEq
namespace Go.Proofs.YtpnpgeilhafepaaDoor
open Go.RowKit Go.Hf

theorem bytesOf_nums (l : List UInt8) : Go.Lib.bytesOf (l.map fun b => (b.toNat : Int)) = l := by
  unfold Go.Lib.bytesOf
  rw [List.map_map]
  conv => rhs; rw [← List.map_id l]
  refine List.map_congr_left fun b _ => ?_
  simp
theorem bytesIn_of {w : World} {A : Option Addr} {n c : Nat} {l : List UInt8} (h : Bytes w (.slice A n c) l) : (l.map fun b => (b.toNat : Int)).length = n ∧ Go.Lib.BytesIn w A n (l.map fun b => (b.toNat : Int)) := by
  obtain ⟨A', _, c', e, rfl, _, _, _, hs⟩ := h
  injection e with e1 e2 e3
  subst e1 e2 e3
  refine ⟨by simp, fun hn => ?_⟩
  obtain ⟨b, o, e, _⟩ := hs.atB 0 hn
  refine ⟨b, o, e, fun i hi => ?_⟩
  obtain ⟨b', o', e', hc⟩ := hs.atB i hi
  rw [e] at e'
  injection e' with e'
  injection e' with e1 e2
  subst e1 e2
  rw [hc]
  simp [hi]
theorem bytes_Equal (A1 A2 : Option Addr) (n1 c1 n2 c2 : Nat) (b1 b2 : List UInt8) (w : World) (h1 : Bytes w (.slice A1 n1 c1) b1) (h2 : Bytes w (.slice A2 n2 c2) b2) : Calls Tryd.prog 48 #[.slice A1 n1 c1, .slice A2 n2 c2] w fun e w' => e = .returned (.bool (b1 == b2)) ∧ w = w' := by
  obtain ⟨a, b⟩ := bytesIn_of h1
  obtain ⟨c, d⟩ := bytesIn_of h2
  refine (Tryd.bytes_Equal_all A1 A2 n1 c1 n2 c2 _ _ w a c b d).mono fun e w' ⟨he, hw⟩ => ⟨?_, hw.symm⟩
  rw [bytesOf_nums, bytesOf_nums] at he
  exact he
theorem eq_nums (x y : Com) (wx : World) : (Op.equalIn 10000 50 (agg5 x) (agg5 y)).run Tryd.prog wx = .ok ((x.a == y.a) && (x.b == y.b) && (x.c == y.c) && (x.d == y.d) && (x.e == y.e)) wx := by
  have u3 := Tryd.underlying3
  have a3 := Tryd.isAgg3
  have z3 := Tryd.sizeOf3
  rw [show (10000 : Nat) = 9999 + 1 from rfl, Op.equalIn]
  simp only [Sem.run_bind, run_underlying Tryd.underlying50, Result.andThen_ok]
  simp only [Std.Legacy.Range.forIn_eq_forIn_range', Std.Legacy.Range.size, Nat.sub_zero, Nat.add_sub_cancel, Nat.div_one, List.range'_succ, List.range'_zero, List.forIn_cons, List.forIn_nil]
  go_simp
  by_cases h1 : x.a = y.a <;> by_cases h2 : x.b = y.b <;> by_cases h3 : x.c = y.c <;> by_cases h4 : x.d = y.d <;> by_cases h5 : x.e = y.e <;> simp [h1, h2, h3, h4, h5]
set_option maxRecDepth 100000 in
set_option maxHeartbeats 1000000 in
theorem command_Same (m1 m2 : Com) (A1 A2 : Option Addr) (n1 c1 n2 c2 : Nat) (b1 b2 : List UInt8) (w0 : World) (h1 : Bytes w0 (.slice A1 n1 c1) b1) (h2 : Bytes w0 (.slice A2 n2 c2) b2) : Calls Tryd.prog 18 #[aggM m1 A1 n1 c1, aggM m2 A2 n2 c2] w0 fun e w' => e = .returned (.bool (Cmd.same m1 m2 b1 b2)) ∧ Fr w0 w' := by
  have HB1 := Lib.hid h1
  have HB2 := Lib.hid h2
  clear h1 h2
  have I := St.refl w0
  have hen := eq_nums m1 m2
  have HE : Hid (Cmd.same m1 m2 b1 b2 = ((m1.kind == m2.kind) && ((m1.a == m2.a) && (m1.b == m2.b) && (m1.c == m2.c) && (m1.d == m2.d) && (m1.e == m2.e)) && (b1 == b2))) := Lib.hid (by unfold Cmd.same; cases b1 == b2 <;> cases m1.kind == m2.kind <;> cases m1.a == m2.a <;> cases m1.b == m2.b <;> cases m1.c == m2.c <;> cases m1.d == m2.d <;> cases m1.e == m2.e <;> rfl)
  obtain ⟨q, hq⟩ : ∃ q : Bool, (b1 == b2) = q := ⟨_, rfl⟩
  have HQ := Lib.hid hq
  rw [hq] at HE
  clear hq
  generalize ((m1.a == m2.a) && (m1.b == m2.b) && (m1.c == m2.c) && (m1.d == m2.d) && (m1.e == m2.e)) = ne at hen HE
  go_enter Tryd.func18, Tryd.ntmps18
  try dsimp only [List.append]
  go_upto_region 1 with (first | (guard_hyp ga : Nat; ((with_reducible refine gbox (ty := 25) ?_); (first | refine w_boxA I (by rfl) ?_ | refine w_box1 I (by (conv => lhs; whnf) <;> rfl) (by rfl) ?_); clear I; intro gb w I)) | ((with_reducible refine gbox (ty := 25) ?_); (first | refine w_boxA I (by rfl) ?_ | refine w_box1 I (by (conv => lhs; whnf) <;> rfl) (by rfl) ?_); clear I; intro ga w I) | (first | ((with_reducible refine gguard ?_); (first | refine w_guardT (by rfl) (fun hb => ?_) (fun hb => ?_) | refine w_guardF (by rfl) (fun hb => ?_) (fun hb => ?_)) <;> first | (cases hb; done) | cases hb | ((try rw [hb]) <;> (try simp at hb) <;> go_prune <;> (try (with_reducible replace hb := eqPair hb)))) | (((with_reducible refine gbox ?_); first | refine w_boxA I (by rfl) ?_ | refine w_box1 I (by (conv => lhs; whnf) <;> rfl) (by rfl) ?_); clear I; intro g w I) | ((with_reducible refine galloc ?_); refine w_alloc I ?_; clear I; intro g w I) | ((with_reducible refine gload ?_); first | refine w_loadB I (by rfl) (by first | (with_reducible repeat (first | exact .here | apply At.there)); done | repeat (first | exact .here | apply At.there)) (by rfl) ?_ | refine w_loadBR I (by rfl) (by first | (with_reducible repeat (first | exact .here | apply At.there)); done | repeat (first | exact .here | apply At.there)) (by rfl) ?_ | refine w_load0 I (by rfl) (by assumption) ?_) | ((with_reducible refine gstore ?_); (first | refine w_storeB I (by rfl) (by (conv => lhs; whnf) <;> rfl) (by first | (with_reducible repeat (first | exact .here | apply Upd.there)); done | repeat (first | exact .here | apply Upd.there)) (by rfl) (by rfl) (by simp only [List.set_cons_zero, List.set_cons_succ] <;> rfl) ?_ | refine w_storeBR I (by rfl) (by rfl) (by first | (with_reducible repeat (first | exact .here | apply Upd.there)); done | repeat (first | exact .here | apply Upd.there)) (by rfl) (by rfl) (by rfl) ?_); clear I; intro w I)))
  rename World => w1
  have hp := fun w' (hf : Fr w1 w') i => (((I.still hf).cells (g := ga) (by first | (with_reducible repeat (first | exact .here | apply At.there)); done | repeat (first | exact .here | apply At.there))).1 i)
  have hl := fun w' (hf : Fr w1 w') i => (((I.still hf).cells (g := gb) (by first | (with_reducible repeat (first | exact .here | apply At.there)); done | repeat (first | exact .here | apply At.there))).1 i)
  have hI1 := fun w' (hf : Fr w1 w') => HB1.out.frF (I.fr.trans hf)
  have hI2 := fun w' (hf : Fr w1 w') => HB2.out.frF (I.fr.trans hf)
  replace hI1 := Lib.hid hI1
  replace hI2 := Lib.hid hI2
  replace I := Lib.hid I
  cases hk : (m1.kind == m2.kind) with
  | false =>
    rw [hk] at HE
    first | go_region_held3 (fun w' => Fr w1 w') (first | assumption | exact (Fr.refl _).drew | exact Fr.trans (by assumption) (by assumption)) (first | (go_at_call 32; go_must (refine (command_numbers m1 A1 n1 c1 _).mono ?_; rintro _ w1 ⟨rfl, hf⟩))) | fail
    all_goals
      replace I := I.out.still (by assumption)
      clear hp hl
      go_wp2_with (first | ((with_reducible refine gguard ?_); (first | refine w_guardT (by rfl) (fun hb => ?_) (fun hb => ?_) | refine w_guardF (by rfl) (fun hb => ?_) (fun hb => ?_)) <;> first | (cases hb; done) | cases hb | ((try rw [hb]) <;> (try simp at hb) <;> go_prune <;> (try (with_reducible replace hb := eqPair hb)))) | (((with_reducible refine gbox ?_); first | refine w_boxA I (by rfl) ?_ | refine w_box1 I (by (conv => lhs; whnf) <;> rfl) (by rfl) ?_); clear I; intro g w I) | ((with_reducible refine galloc ?_); refine w_alloc I ?_; clear I; intro g w I) | ((with_reducible refine gload ?_); first | refine w_loadB I (by rfl) (by first | (with_reducible repeat (first | exact .here | apply At.there)); done | repeat (first | exact .here | apply At.there)) (by rfl) ?_ | refine w_loadBR I (by rfl) (by first | (with_reducible repeat (first | exact .here | apply At.there)); done | repeat (first | exact .here | apply At.there)) (by rfl) ?_ | refine w_load0 I (by rfl) (by assumption) ?_) | ((with_reducible refine gstore ?_); (first | refine w_storeB I (by rfl) (by (conv => lhs; whnf) <;> rfl) (by first | (with_reducible repeat (first | exact .here | apply Upd.there)); done | repeat (first | exact .here | apply Upd.there)) (by rfl) (by rfl) (by simp only [List.set_cons_zero, List.set_cons_succ] <;> rfl) ?_ | refine w_storeBR I (by rfl) (by rfl) (by first | (with_reducible repeat (first | exact .here | apply Upd.there)); done | repeat (first | exact .here | apply Upd.there)) (by rfl) (by rfl) (by rfl) ?_); clear I; intro w I))
      go_ret
      exact ⟨by rw [HE.out]; rfl, I.fr⟩
  | true =>
  rw [hk] at HE
  cases ne with
  | false =>
    first | go_region_held3 (fun w' => Fr w1 w') (first | assumption | exact (Fr.refl _).drew | exact Fr.trans (by assumption) (by assumption)) (first | (go_at_call 32; ((with_reducible refine (command_numbers m1 A1 n1 c1 _).mono ?_); rintro _ w1 ⟨rfl, hf⟩)) | (go_at_call 32; ((with_reducible refine (command_numbers m2 A2 n2 c2 _).mono ?_); rintro _ w1 ⟨rfl, hf⟩))) | fail
    all_goals
      replace I := I.out.still (by assumption)
      clear hp hl
      go_wp2_with (first | ((with_reducible refine gguard ?_); (first | refine w_guardT (by rfl) (fun hb => ?_) (fun hb => ?_) | refine w_guardF (by rfl) (fun hb => ?_) (fun hb => ?_)) <;> first | (cases hb; done) | cases hb | ((try rw [hb]) <;> (try simp at hb) <;> go_prune <;> (try (with_reducible replace hb := eqPair hb)))) | (((with_reducible refine gbox ?_); first | refine w_boxA I (by rfl) ?_ | refine w_box1 I (by (conv => lhs; whnf) <;> rfl) (by rfl) ?_); clear I; intro g w I) | ((with_reducible refine galloc ?_); refine w_alloc I ?_; clear I; intro g w I) | ((with_reducible refine gload ?_); first | refine w_loadB I (by rfl) (by first | (with_reducible repeat (first | exact .here | apply At.there)); done | repeat (first | exact .here | apply At.there)) (by rfl) ?_ | refine w_loadBR I (by rfl) (by first | (with_reducible repeat (first | exact .here | apply At.there)); done | repeat (first | exact .here | apply At.there)) (by rfl) ?_ | refine w_load0 I (by rfl) (by assumption) ?_) | ((with_reducible refine gstore ?_); (first | refine w_storeB I (by rfl) (by (conv => lhs; whnf) <;> rfl) (by first | (with_reducible repeat (first | exact .here | apply Upd.there)); done | repeat (first | exact .here | apply Upd.there)) (by rfl) (by rfl) (by simp only [List.set_cons_zero, List.set_cons_succ] <;> rfl) ?_ | refine w_storeBR I (by rfl) (by rfl) (by first | (with_reducible repeat (first | exact .here | apply Upd.there)); done | repeat (first | exact .here | apply Upd.there)) (by rfl) (by rfl) (by rfl) ?_); clear I; intro w I))
      go_ret
      exact ⟨by rw [HE.out]; rfl, I.fr⟩
  | true =>
  first | go_region_held3 (fun w' => Fr w1 w') (first | assumption | exact (Fr.refl _).drew | exact Fr.trans (by assumption) (by assumption)) (first | (go_at_call 32; ((with_reducible refine (command_numbers m1 A1 n1 c1 _).mono ?_); rintro _ w1 ⟨rfl, hf⟩)) | (go_at_call 32; ((with_reducible refine (command_numbers m2 A2 n2 c2 _).mono ?_); rintro _ w1 ⟨rfl, hf⟩)) | (go_at_call 48; go_must (refine (bytes_Equal A1 A2 n1 c1 n2 c2 b1 b2 _ (hI1.out _ (by assumption)) (hI2.out _ (by assumption))).mono ?_; rintro _ w1 ⟨rfl, rfl⟩; rw [HQ.out]))) | fail
  all_goals
    replace I := I.out.still (by assumption)
    clear hp hl
    go_wp2_with (first | ((with_reducible refine gguard ?_); (first | refine w_guardT (by rfl) (fun hb => ?_) (fun hb => ?_) | refine w_guardF (by rfl) (fun hb => ?_) (fun hb => ?_)) <;> first | (cases hb; done) | cases hb | ((try rw [hb]) <;> (try simp at hb) <;> go_prune <;> (try (with_reducible replace hb := eqPair hb)))) | (((with_reducible refine gbox ?_); first | refine w_boxA I (by rfl) ?_ | refine w_box1 I (by (conv => lhs; whnf) <;> rfl) (by rfl) ?_); clear I; intro g w I) | ((with_reducible refine galloc ?_); refine w_alloc I ?_; clear I; intro g w I) | ((with_reducible refine gload ?_); first | refine w_loadB I (by rfl) (by first | (with_reducible repeat (first | exact .here | apply At.there)); done | repeat (first | exact .here | apply At.there)) (by rfl) ?_ | refine w_loadBR I (by rfl) (by first | (with_reducible repeat (first | exact .here | apply At.there)); done | repeat (first | exact .here | apply At.there)) (by rfl) ?_ | refine w_load0 I (by rfl) (by assumption) ?_) | ((with_reducible refine gstore ?_); (first | refine w_storeB I (by rfl) (by (conv => lhs; whnf) <;> rfl) (by first | (with_reducible repeat (first | exact .here | apply Upd.there)); done | repeat (first | exact .here | apply Upd.there)) (by rfl) (by rfl) (by simp only [List.set_cons_zero, List.set_cons_succ] <;> rfl) ?_ | refine w_storeBR I (by rfl) (by rfl) (by first | (with_reducible repeat (first | exact .here | apply Upd.there)); done | repeat (first | exact .here | apply Upd.there)) (by rfl) (by rfl) (by rfl) ?_); clear I; intro w I))
    go_ret
    exact ⟨by rw [HE.out]; rfl, I.fr⟩
end Go.Proofs.YtpnpgeilhafepaaDoor
