
/- Readings (layer 6): the reference's series: its object, ahead. -/
import Derived.Test.YtggeloihnbjogaaSerE
import Derived.Test.YtggeloihnbjogaaSerU
namespace Go.Proofs.Ytggeloihnbjogaa
open Go.RowKit Go.Hf
/-- The reference's series: its block, its readings. -/
abbrev RefO (g : Nat) (a b : Int) (l : List Rd) : Asr := ExS fun v : Value => AllS [Blk g [.int .i64 a, .int .i64 b, v] 32, OwnS 36 3 encR v l]
theorem RefO.open {g : Nat} {a b : Int} {l : List Rd} {w0 w : World} {L R : List Asr} (I : St w0 w L) (hA : At (RefO g a b l) L R) : ∃ v, St w0 w (Blk g [.int .i64 a, .int .i64 b, v] 32 :: OwnS 36 3 encR v l :: R) := by
  obtain ⟨v, I2⟩ := (I.take hA).ex
  exact ⟨v, I2.all⟩
theorem RefO.mk {g : Nat} {a b : Int} {l : List Rd} {v : Value} {w0 w : World} {L R1 R : List Asr} (I : St w0 w L) (h1 : At (OwnS 36 3 encR v l) L R1) (h2 : At (Blk g [.int .i64 a, .int .i64 b, v] 32) R1 R) : St w0 w (RefO g a b l :: R) :=
  St.mkEx v (St.mkAll (((I.take h1).take (.there h2)) : St w0 w (Blk g [.int .i64 a, .int .i64 b, v] 32 :: OwnS 36 3 encR v l :: R)))
def Ser.ahead (x y : Rd) : Bool := decide (x.m < y.m) || ((x.m == y.m) && decide (x.s < y.s))
theorem Ser.ahead_iff (x y : Rd) : Ser.ahead x y = true ↔ Ser.lt x y := by
  unfold Ser.ahead Ser.lt
  simp
set_option maxRecDepth 100000 in
theorem ref06_ahead (x y : Rd) (w0 : World) : Calls Try.prog 56 #[aggR x, aggR y] w0 fun e w' => e = .returned (.bool (Ser.ahead x y)) ∧ Fr w0 w' := by
  have I := St.refl w0
  cases c1 : decide (x.m < y.m) with
  | true =>
    have HE : Hid (Ser.ahead x y = true) := Lib.hid (by unfold Ser.ahead; rw [c1]; rfl)
    rw [HE.out]
    go_enter Try.func56, Try.ntmps56
    try dsimp only [List.append]
    go_upto_region 1 with (first | ((with_reducible refine gguard ?_); (first | refine w_guardT (by rfl) (fun hb => ?_) (fun hb => ?_) | refine w_guardF (by rfl) (fun hb => ?_) (fun hb => ?_)) <;> first | (cases hb; done) | cases hb | ((try rw [hb]) <;> (try simp at hb) <;> go_prune <;> (try (with_reducible replace hb := eqPair hb)))) | (((with_reducible refine gbox ?_); first | refine w_boxA I (by rfl) ?_ | refine w_box1 I (by (conv => lhs; whnf) <;> rfl) (by rfl) ?_); clear I; intro g w I) | ((with_reducible refine galloc ?_); refine w_alloc I ?_; clear I; intro g w I) | ((with_reducible refine gload ?_); first | refine w_loadB I (by rfl) (by first | (with_reducible repeat (first | exact .here | apply At.there)); done | repeat (first | exact .here | apply At.there)) (by rfl) ?_ | refine w_loadBR I (by rfl) (by first | (with_reducible repeat (first | exact .here | apply At.there)); done | repeat (first | exact .here | apply At.there)) (by rfl) ?_ | refine w_load0 I (by rfl) (by assumption) ?_) | ((with_reducible refine gstore ?_); (first | refine w_storeB I (by rfl) (by (conv => lhs; whnf) <;> rfl) (by first | (with_reducible repeat (first | exact .here | apply Upd.there)); done | repeat (first | exact .here | apply Upd.there)) (by rfl) (by rfl) (by simp only [List.set_cons_zero, List.set_cons_succ] <;> rfl) ?_ | refine w_storeBR I (by rfl) (by rfl) (by first | (with_reducible repeat (first | exact .here | apply Upd.there)); done | repeat (first | exact .here | apply Upd.there)) (by rfl) (by rfl) (by rfl) ?_); clear I; intro w I))
    have F := I.facts
    dsimp only [AllF, Asr.facts, Blk, OwnS] at F
    go_wp2_with fail
    go_ret
    exact ⟨rfl, I.fr⟩
  | false =>
    cases c2 : (x.m == y.m) with
    | false =>
      have HE : Hid (Ser.ahead x y = false) := Lib.hid (by unfold Ser.ahead; rw [c1, c2]; rfl)
      rw [HE.out]
      go_enter Try.func56, Try.ntmps56
      try dsimp only [List.append]
      go_upto_region 1 with (first | ((with_reducible refine gguard ?_); (first | refine w_guardT (by rfl) (fun hb => ?_) (fun hb => ?_) | refine w_guardF (by rfl) (fun hb => ?_) (fun hb => ?_)) <;> first | (cases hb; done) | cases hb | ((try rw [hb]) <;> (try simp at hb) <;> go_prune <;> (try (with_reducible replace hb := eqPair hb)))) | (((with_reducible refine gbox ?_); first | refine w_boxA I (by rfl) ?_ | refine w_box1 I (by (conv => lhs; whnf) <;> rfl) (by rfl) ?_); clear I; intro g w I) | ((with_reducible refine galloc ?_); refine w_alloc I ?_; clear I; intro g w I) | ((with_reducible refine gload ?_); first | refine w_loadB I (by rfl) (by first | (with_reducible repeat (first | exact .here | apply At.there)); done | repeat (first | exact .here | apply At.there)) (by rfl) ?_ | refine w_loadBR I (by rfl) (by first | (with_reducible repeat (first | exact .here | apply At.there)); done | repeat (first | exact .here | apply At.there)) (by rfl) ?_ | refine w_load0 I (by rfl) (by assumption) ?_) | ((with_reducible refine gstore ?_); (first | refine w_storeB I (by rfl) (by (conv => lhs; whnf) <;> rfl) (by first | (with_reducible repeat (first | exact .here | apply Upd.there)); done | repeat (first | exact .here | apply Upd.there)) (by rfl) (by rfl) (by simp only [List.set_cons_zero, List.set_cons_succ] <;> rfl) ?_ | refine w_storeBR I (by rfl) (by rfl) (by first | (with_reducible repeat (first | exact .here | apply Upd.there)); done | repeat (first | exact .here | apply Upd.there)) (by rfl) (by rfl) (by rfl) ?_); clear I; intro w I))
      have F := I.facts
      dsimp only [AllF, Asr.facts, Blk, OwnS] at F
      go_wp2_with fail
      go_ret
      exact ⟨rfl, I.fr⟩
    | true =>
      obtain ⟨e, he⟩ : ∃ e, decide (x.s < y.s) = e := ⟨_, rfl⟩
      have HE : Hid (Ser.ahead x y = e) := Lib.hid (by unfold Ser.ahead; rw [c1, c2, he]; rfl)
      rw [HE.out]
      go_enter Try.func56, Try.ntmps56
      try dsimp only [List.append]
      go_upto_region 1 with (first | ((with_reducible refine gguard ?_); (first | refine w_guardT (by rfl) (fun hb => ?_) (fun hb => ?_) | refine w_guardF (by rfl) (fun hb => ?_) (fun hb => ?_)) <;> first | (cases hb; done) | cases hb | ((try rw [hb]) <;> (try simp at hb) <;> go_prune <;> (try (with_reducible replace hb := eqPair hb)))) | (((with_reducible refine gbox ?_); first | refine w_boxA I (by rfl) ?_ | refine w_box1 I (by (conv => lhs; whnf) <;> rfl) (by rfl) ?_); clear I; intro g w I) | ((with_reducible refine galloc ?_); refine w_alloc I ?_; clear I; intro g w I) | ((with_reducible refine gload ?_); first | refine w_loadB I (by rfl) (by first | (with_reducible repeat (first | exact .here | apply At.there)); done | repeat (first | exact .here | apply At.there)) (by rfl) ?_ | refine w_loadBR I (by rfl) (by first | (with_reducible repeat (first | exact .here | apply At.there)); done | repeat (first | exact .here | apply At.there)) (by rfl) ?_ | refine w_load0 I (by rfl) (by assumption) ?_) | ((with_reducible refine gstore ?_); (first | refine w_storeB I (by rfl) (by (conv => lhs; whnf) <;> rfl) (by first | (with_reducible repeat (first | exact .here | apply Upd.there)); done | repeat (first | exact .here | apply Upd.there)) (by rfl) (by rfl) (by simp only [List.set_cons_zero, List.set_cons_succ] <;> rfl) ?_ | refine w_storeBR I (by rfl) (by rfl) (by first | (with_reducible repeat (first | exact .here | apply Upd.there)); done | repeat (first | exact .here | apply Upd.there)) (by rfl) (by rfl) (by rfl) ?_); clear I; intro w I))
      have F := I.facts
      dsimp only [AllF, Asr.facts, Blk, OwnS] at F
      go_wp2_with fail
      go_ret
      exact ⟨rfl, I.fr⟩
end Go.Proofs.Ytggeloihnbjogaa
