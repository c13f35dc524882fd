
/- Numbers that stop at the most (layer 2): the live question. -/
import Derived.Test.YtpnpgeilhafepaaDoorSatT
namespace Go.Proofs.YtpnpgeilhafepaaDoor
open Go.RowKit Go.Hf

theorem fit_is (n r : Int) (h : Sat.fit n = r) (w : World) : Calls Tryd.prog 20 #[.int .i64 n] w fun e w' => e = .returned (.int .i64 r) ∧ w = w' := by rw [← h]; exact sat_Fit n w
theorem add_is (v : Value) (l : List Int) (r : Int) (h : Sat.add l = r) (w : World) (hv : SlV 1 (flat encI) w v l) : Calls Tryd.prog 26 #[v] w fun e w' => e = .returned (.int .i64 r) ∧ w = w' := by rw [← h]; exact sat_Add v l w hv
theorem mul_is (a b r : Int) (h : Sat.mul a b = r) (w : World) : Calls Tryd.prog 22 #[.int .i64 a, .int .i64 b] w fun e w' => e = .returned (.int .i64 r) ∧ Fr w w' := by rw [← h]; exact sat_Mul a b w
theorem less_is (a b r : Int) (h : Sat.less a b = r) (w : World) : Calls Tryd.prog 24 #[.int .i64 a, .int .i64 b] w fun e w' => e = .returned (.int .i64 r) ∧ w = w' := by rw [← h]; exact sat_Less a b w
theorem text_is (n : Int) (r : List UInt8) (h : Sat.text n = r) (w : World) (hT : Pow w) : Calls Tryd.prog 28 #[.int .i64 n] w fun e w' => e = .returned (.string ⟨r.toArray⟩) ∧ Fr w w' := by rw [← h]; exact sat_Text n w hT
theorem Sat.t0 : Sat.text (-1) = [48] := by unfold Sat.text; rw [show (Sat.fit (-1)).toNat = 0 from rfl, Go.Lib.decDigits]; rfl
theorem Sat.t1 : Sat.text 1200 = [49, 50, 48, 48] := by
  unfold Sat.text
  rw [show (Sat.fit 1200).toNat = 1200 from rfl, Go.Lib.decDigits, dif_neg (by decide), Go.Lib.decDigits, dif_neg (by decide), Go.Lib.decDigits, dif_neg (by decide), Go.Lib.decDigits, dif_pos (by decide)]
  rfl
set_option maxRecDepth 100000 in
set_option maxHeartbeats 4000000 in
theorem law02_alive (w0 : World) (hT : Pow w0) : Calls Tryd.prog 19 #[] w0 fun e w' => e = .returned (.bool true) ∧ Fr w0 w' := by
  have I := St.refl w0
  have HT := Lib.hid hT
  clear hT
  go_enter Tryd.func19, Tryd.ntmps19
  try dsimp only [List.append]
  go_wp2_with (first | (((with_reducible refine gbsr ?_); refine w_bsv (enc := encI) [5, -7, 6] (Value.int .i64) (fun _ => rfl) encI_len I (by rfl) (by rfl) (by decide) (by decide) (by decide) ?_); clear I; intro g w I) | (((with_reducible refine gbsr ?_); refine w_bsv (enc := encI) [4611686018427387904, 1] (Value.int .i64) (fun _ => rfl) encI_len I (by rfl) (by rfl) (by decide) (by decide) (by decide) ?_); clear I; intro g w I) | (first | ((with_reducible refine gguard ?_); (first | refine w_guardT (by rfl) (fun hb => ?_) (fun hb => ?_) | refine w_guardF (by rfl) (fun hb => ?_) (fun hb => ?_)) <;> first | (cases hb; done) | cases hb | ((try rw [hb]) <;> (try simp at hb) <;> go_prune <;> (try (with_reducible replace hb := eqPair hb)))) | (((with_reducible refine gbox ?_); first | refine w_boxA I (by rfl) ?_ | refine w_box1 I (by (conv => lhs; whnf) <;> rfl) (by rfl) ?_); clear I; intro g w I) | ((with_reducible refine galloc ?_); refine w_alloc I ?_; clear I; intro g w I) | ((with_reducible refine gload ?_); first | refine w_loadB I (by rfl) (by first | (with_reducible repeat (first | exact .here | apply At.there)); done | repeat (first | exact .here | apply At.there)) (by rfl) ?_ | refine w_loadBR I (by rfl) (by first | (with_reducible repeat (first | exact .here | apply At.there)); done | repeat (first | exact .here | apply At.there)) (by rfl) ?_ | refine w_load0 I (by rfl) (by assumption) ?_) | ((with_reducible refine gstore ?_); (first | refine w_storeB I (by rfl) (by (conv => lhs; whnf) <;> rfl) (by first | (with_reducible repeat (first | exact .here | apply Upd.there)); done | repeat (first | exact .here | apply Upd.there)) (by rfl) (by rfl) (by simp only [List.set_cons_zero, List.set_cons_succ] <;> rfl) ?_ | refine w_storeBR I (by rfl) (by rfl) (by first | (with_reducible repeat (first | exact .here | apply Upd.there)); done | repeat (first | exact .here | apply Upd.there)) (by rfl) (by rfl) (by rfl) ?_); clear I; intro w I)) | (go_at_call 20; ((with_reducible refine (fit_is (-3) 0 rfl _).mono ?_); rintro _ w1 ⟨rfl, rfl⟩)) | (go_at_call 20; ((with_reducible refine (fit_is 9223372036854775807 4611686018427387904 rfl _).mono ?_); rintro _ w1 ⟨rfl, rfl⟩)) | (go_at_call 26; ((with_reducible refine (add_is _ [5, -7, 6] 11 rfl _ (I.slv .here encI_len)).mono ?_); rintro _ w1 ⟨rfl, rfl⟩)) | (go_at_call 26; ((with_reducible refine (add_is _ [4611686018427387904, 1] 4611686018427387904 rfl _ (I.slv .here encI_len)).mono ?_); rintro _ w1 ⟨rfl, rfl⟩)) | (go_at_call 22; ((with_reducible refine (mul_is 7 6 42 rfl _).mono ?_); rintro _ w1 ⟨rfl, hf⟩; replace I := I.still hf; clear hf)) | (go_at_call 22; ((with_reducible refine (mul_is 4611686018427387903 2 4611686018427387904 rfl _).mono ?_); rintro _ w1 ⟨rfl, hf⟩; replace I := I.still hf; clear hf)) | (go_at_call 24; ((with_reducible refine (less_is 3 5 0 rfl _).mono ?_); rintro _ w1 ⟨rfl, rfl⟩)) | (go_at_call 24; ((with_reducible refine (less_is 5 (-3) 5 rfl _).mono ?_); rintro _ w1 ⟨rfl, rfl⟩)) | (go_at_call 28; ((with_reducible refine (text_is (-1) _ Sat.t0 _ (HT.out.fr I.fr)).mono ?_); rintro _ w1 ⟨rfl, hf⟩; replace I := I.still hf; clear hf)) | (go_at_call 28; ((with_reducible refine (text_is 1200 _ Sat.t1 _ (HT.out.fr I.fr)).mono ?_); rintro _ w1 ⟨rfl, hf⟩; replace I := I.still hf; clear hf)))
  all_goals try omega
  go_ret
  exact ⟨rfl, I.fr⟩
end Go.Proofs.YtpnpgeilhafepaaDoor
