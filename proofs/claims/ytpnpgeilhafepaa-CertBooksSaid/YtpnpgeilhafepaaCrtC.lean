
/- Certificates (layer 17): contracts of Right, Encode, Decode, and of the reference's. -/
import Derived.Test.YtpnpgeilhafepaaRows
import Derived.Test.YtpnpgeilhafepaaCrt
import Derived.Test.YtpnpgeilhafepaaCheck
import Derived.Test.YtpnpgeilhafepaaOctS
import Derived.Test.YtpnpgeilhafepaaOctR
import Derived.Test.YtpnpgeilhafepaaOctQ
import Derived.Test.YtpnpgeilhafepaaStO
namespace Go.Proofs.Ytpnpgeilhafepaa
open Go.RowKit Go.Hf

abbrev aggC (c : Cert) : Value := .agg #[.int .i64 c.id, .int .i64 c.order, .int .i64 c.lot, .int .i64 c.product, .int .i64 c.units, .int .i64 c.minute, .int .i64 c.exposure, .int .i64 c.allowance]
def encC (c : Cert) : List Value := [.int .i64 c.id, .int .i64 c.order, .int .i64 c.lot, .int .i64 c.product, .int .i64 c.units, .int .i64 c.minute, .int .i64 c.exposure, .int .i64 c.allowance]
theorem encC_len (c : Cert) : (encC c).length = 8 := rfl
theorem encC_one (c : Cert) : ∀ u ∈ encC c, u.oneCell' = true := by intro u hu; simp [encC] at hu; rcases hu with rfl | rfl | rfl | rfl | rfl | rfl | rfl | rfl <;> rfl

namespace Crt
theorem not_right (c : Cert) (k : Nat) (h : k < (nums c).length) (hn : may (nums c)[k] = false) : right c = false := by
  rw [Bool.eq_false_iff]
  intro hr
  have := List.all_eq_true.1 hr _ (List.getElem_mem h)
  rw [hn] at this
  cases this
theorem may_no (n : Int) (h : n < 0 ∨ 4611686018427387904 < n) : may n = false := by
  rw [Bool.eq_false_iff]
  intro hm
  have := (may_iff n).1 hm
  omega
theorem may_yes (n : Int) (h1 : ¬ n < 0) (h2 : ¬ 4611686018427387904 < n) : may n = true := (may_iff n).2 ⟨by omega, by omega⟩
def upTo (c : Cert) (k : Nat) : Prop := ∀ j (h : j < (nums c).length), j < k → may (nums c)[j] = true
theorem upTo_zero (c : Cert) : upTo c 0 := fun _ _ h => by omega
theorem upTo_succ (c : Cert) (k : Nat) (h : upTo c k) (hk : k < (nums c).length) (hn : may (nums c)[k] = true) : upTo c (k + 1) := fun j hj hl => by
  by_cases e : j = k
  · subst e; exact hn
  · exact h j hj (by omega)
theorem upTo_all (c : Cert) (h : upTo c 8) : right c = true := by
  unfold right
  rw [List.all_eq_true]
  intro x hx
  obtain ⟨j, hj, rfl⟩ := List.getElem_of_mem hx
  exact h j hj (by simpa [nums] using hj)
def rawk (c : Cert) (k : Nat) : List UInt8 := ((nums c).take k).flatMap num8
theorem rawk_succ (c : Cert) (k : Nat) (h : k < (nums c).length) : rawk c (k + 1) = rawk c k ++ num8 (nums c)[k] := by
  unfold rawk
  rw [List.take_succ_eq_append_getElem h, List.flatMap_append]
  simp
theorem rawk_all (c : Cert) : rawk c 8 = raw c := by unfold rawk raw; rfl
theorem flat_len (l : List Int) : (l.flatMap num8).length = 8 * l.length := by
  induction l with
  | nil => rfl
  | cons n l ih => rw [List.flatMap_cons, List.length_append, num8_len, ih, List.length_cons]; omega
theorem rawk_len (c : Cert) (k : Nat) : (rawk c k).length ≤ 64 := by
  unfold rawk
  rw [flat_len, List.length_take]
  have : (nums c).length = 8 := rfl
  omega
theorem putInt_ok (b : List UInt8) (n : Int) : Oct.putInt (b, 0) n = (b ++ num8 n, 0) := by
  unfold Oct.putInt Oct.put num8
  have := Oct.u64_lt n
  rw [if_neg (by simp), if_neg (by rw [show (8 : Int).toNat = 8 from rfl, show (256 : Nat) ^ 8 = 18446744073709551616 by decide]; omega)]
  rfl
theorem putInt_k (c : Cert) (k : Nat) (n : Int) (h : k < (nums c).length) (hn : (nums c)[k] = n) : Oct.putInt (rawk c k, 0) n = (rawk c (k + 1), 0) := by
  rw [putInt_ok, rawk_succ c k h, hn]
theorem int_ok (s : List UInt8) (h : 8 ≤ s.length) : Oct.int (s, 0) = (Oct.i64 (Oct.val (s.take 8)), (s.drop 8, 0)) := by
  unfold Oct.int Oct.num Oct.take
  rw [if_neg (by omega), if_neg (by simp), if_neg (by simp only; omega)]
  rfl
theorem int_k (own : List UInt8) (k : Nat) (h : 8 * k + 8 ≤ own.length) : Oct.int (own.drop (8 * k), 0) = (at_ own k, (own.drop (8 * (k + 1)), 0)) := by
  rw [int_ok _ (by rw [List.length_drop]; omega), List.drop_drop]
  rfl
theorem chunk_take (b : List UInt8) (i : Nat) (h : i < 8) : chunk (b.take 64) i = chunk b i := by
  unfold chunk
  rw [List.drop_take, List.take_take, Nat.min_eq_left (by omega)]
theorem read_take (b : List UInt8) : read (b.take 64) = read b := by
  unfold read at_
  simp only [chunk_take b _ (by omega : 0 < 8), chunk_take b _ (by omega : 1 < 8), chunk_take b _ (by omega : 2 < 8), chunk_take b _ (by omega : 3 < 8), chunk_take b _ (by omega : 4 < 8), chunk_take b _ (by omega : 5 < 8), chunk_take b _ (by omega : 6 < 8), chunk_take b _ (by omega : 7 < 8)]
end Crt

set_option maxRecDepth 100000 in
theorem cert_numbers (c : Cert) (w : World) : Calls Try.prog 58 #[aggC c] w fun e w' => e = .returned (aggC c) ∧ Fr w w' := by
  have I := St.refl w
  go_enter Try.func58, Try.ntmps58
  go_wp2_with (first | ((with_reducible refine gguard ?_); (first | refine w_guardT (by rfl) (fun hb => ?_) (fun hb => ?_) | refine w_guardF (by rfl) (fun hb => ?_) (fun hb => ?_)) <;> first | (cases hb; done) | cases hb | ((try rw [hb]) <;> (try simp at hb) <;> go_prune <;> (try (with_reducible replace hb := eqPair hb)))) | (((with_reducible refine gbox ?_); first | refine w_boxA I (by rfl) ?_ | refine w_box1 I (by (conv => lhs; whnf) <;> rfl) (by rfl) ?_); clear I; intro g w I) | ((with_reducible refine galloc ?_); refine w_alloc I ?_; clear I; intro g w I) | ((with_reducible refine gload ?_); first | refine w_loadB I (by rfl) (by first | (with_reducible repeat (first | exact .here | apply At.there)); done | repeat (first | exact .here | apply At.there)) (by rfl) ?_ | refine w_loadBR I (by rfl) (by first | (with_reducible repeat (first | exact .here | apply At.there)); done | repeat (first | exact .here | apply At.there)) (by rfl) ?_ | refine w_load0 I (by rfl) (by assumption) ?_) | ((with_reducible refine gstore ?_); (first | refine w_storeB I (by rfl) (by (conv => lhs; whnf) <;> rfl) (by first | (with_reducible repeat (first | exact .here | apply Upd.there)); done | repeat (first | exact .here | apply Upd.there)) (by rfl) (by rfl) (by simp only [List.set_cons_zero, List.set_cons_succ] <;> rfl) ?_ | refine w_storeBR I (by rfl) (by rfl) (by first | (with_reducible repeat (first | exact .here | apply Upd.there)); done | repeat (first | exact .here | apply Upd.there)) (by rfl) (by rfl) (by rfl) ?_); clear I; intro w I))
  exact ret_1 rfl (by first | (exact ResV.t _ (by rfl)) | (exact ResV.row I (by rfl) (by first | (with_reducible repeat (first | exact .here | apply At.there)); done | repeat (first | exact .here | apply At.there)) (by rfl)) | (exact ResV.one I (by rfl) (by first | (with_reducible repeat (first | exact .here | apply At.there)); done | repeat (first | exact .here | apply At.there)))) rfl ⟨rfl, I.fr⟩
set_option maxRecDepth 100000 in
theorem cert_of (c : Cert) (w : World) : Calls Try.prog 67 #[aggC c] w fun e w' => e = .returned (aggC c) ∧ Fr w w' := by
  have I := St.refl w
  go_enter Try.func67, Try.ntmps67
  go_wp2_with (first | ((with_reducible refine gguard ?_); (first | refine w_guardT (by rfl) (fun hb => ?_) (fun hb => ?_) | refine w_guardF (by rfl) (fun hb => ?_) (fun hb => ?_)) <;> first | (cases hb; done) | cases hb | ((try rw [hb]) <;> (try simp at hb) <;> go_prune <;> (try (with_reducible replace hb := eqPair hb)))) | (((with_reducible refine gbox ?_); first | refine w_boxA I (by rfl) ?_ | refine w_box1 I (by (conv => lhs; whnf) <;> rfl) (by rfl) ?_); clear I; intro g w I) | ((with_reducible refine galloc ?_); refine w_alloc I ?_; clear I; intro g w I) | ((with_reducible refine gload ?_); first | refine w_loadB I (by rfl) (by first | (with_reducible repeat (first | exact .here | apply At.there)); done | repeat (first | exact .here | apply At.there)) (by rfl) ?_ | refine w_loadBR I (by rfl) (by first | (with_reducible repeat (first | exact .here | apply At.there)); done | repeat (first | exact .here | apply At.there)) (by rfl) ?_ | refine w_load0 I (by rfl) (by assumption) ?_) | ((with_reducible refine gstore ?_); (first | refine w_storeB I (by rfl) (by (conv => lhs; whnf) <;> rfl) (by first | (with_reducible repeat (first | exact .here | apply Upd.there)); done | repeat (first | exact .here | apply Upd.there)) (by rfl) (by rfl) (by simp only [List.set_cons_zero, List.set_cons_succ] <;> rfl) ?_ | refine w_storeBR I (by rfl) (by rfl) (by first | (with_reducible repeat (first | exact .here | apply Upd.there)); done | repeat (first | exact .here | apply Upd.there)) (by rfl) (by rfl) (by rfl) ?_); clear I; intro w I))
  exact ret_1 rfl (by first | (exact ResV.t _ (by rfl)) | (exact ResV.row I (by rfl) (by first | (with_reducible repeat (first | exact .here | apply At.there)); done | repeat (first | exact .here | apply At.there)) (by rfl)) | (exact ResV.one I (by rfl) (by first | (with_reducible repeat (first | exact .here | apply At.there)); done | repeat (first | exact .here | apply At.there)))) rfl ⟨rfl, I.fr⟩
set_option maxRecDepth 100000 in
set_option maxHeartbeats 2000000 in
theorem cert_Right (c : Cert) (w0 : World) : Calls Try.prog 24 #[aggC c] w0 fun e w' => e = .returned (.bool (Crt.right c)) ∧ Fr w0 w' := by
  have I := St.refl w0
  go_enter Try.func24, Try.ntmps24
  go_wp2_with (first | (first | ((with_reducible refine gguard ?_); (first | refine w_guardT (by rfl) (fun hb => ?_) (fun hb => ?_) | refine w_guardF (by rfl) (fun hb => ?_) (fun hb => ?_)) <;> first | (cases hb; done) | cases hb | ((try rw [hb]) <;> (try simp at hb) <;> go_prune <;> (try (with_reducible replace hb := eqPair hb)))) | (((with_reducible refine gbox ?_); first | refine w_boxA I (by rfl) ?_ | refine w_box1 I (by (conv => lhs; whnf) <;> rfl) (by rfl) ?_); clear I; intro g w I) | ((with_reducible refine galloc ?_); refine w_alloc I ?_; clear I; intro g w I) | ((with_reducible refine gload ?_); first | refine w_loadB I (by rfl) (by first | (with_reducible repeat (first | exact .here | apply At.there)); done | repeat (first | exact .here | apply At.there)) (by rfl) ?_ | refine w_loadBR I (by rfl) (by first | (with_reducible repeat (first | exact .here | apply At.there)); done | repeat (first | exact .here | apply At.there)) (by rfl) ?_ | refine w_load0 I (by rfl) (by assumption) ?_) | ((with_reducible refine gstore ?_); (first | refine w_storeB I (by rfl) (by (conv => lhs; whnf) <;> rfl) (by first | (with_reducible repeat (first | exact .here | apply Upd.there)); done | repeat (first | exact .here | apply Upd.there)) (by rfl) (by rfl) (by simp only [List.set_cons_zero, List.set_cons_succ] <;> rfl) ?_ | refine w_storeBR I (by rfl) (by rfl) (by first | (with_reducible repeat (first | exact .here | apply Upd.there)); done | repeat (first | exact .here | apply Upd.there)) (by rfl) (by rfl) (by rfl) ?_); clear I; intro w I)) | (go_at_call 58; go_must (refine (cert_numbers c _).mono ?_; rintro _ w1 ⟨rfl, hf⟩; replace I := I.still hf; clear hf)))
  go_loopw [7] (fun i wr => ∃ k : Nat, i = .int .i64 k ∧ k ≤ 8 ∧ Hid (Crt.upTo c k) ∧ Fr w0 wr) (fun i _ => 8 - (intOf i).toNat)
  case atStart => exact ⟨0, rfl, by omega, Crt.upTo_zero c, I.fr⟩
  case round =>
    clear I
    obtain ⟨k, rfl, hk, hU, hf⟩ := hrel
    have h8 : k = 0 ∨ k = 1 ∨ k = 2 ∨ k = 3 ∨ k = 4 ∨ k = 5 ∨ k = 6 ∨ k = 7 ∨ k = 8 := by omega
    rcases h8 with rfl | rfl | rfl | rfl | rfl | rfl | rfl | rfl | rfl
    · have HU := Lib.hid (fun h => Crt.upTo_succ c 0 hU.out (show (0 : Nat) < 8 by decide) h)
      replace HU : Hid (Crt.may c.id = true → Crt.upTo c (0 + 1)) := HU
      by_cases h1 : c.id < 0
      · have HE : Hid (Crt.right c = false) := Lib.hid (Crt.not_right c 0 (show (0 : Nat) < 8 by decide) (Crt.may_no c.id (.inl h1)))
        go_wp2_with ((with_reducible refine gindex ?_); refine w_index (k := 0) Try.underlying103 (by rfl) (by rfl) (by decide) (by rfl) ?_)
        all_goals try omega
        go_ret
        exact ⟨by rw [HE.out]; rfl, hf⟩
      · by_cases h2 : 4611686018427387904 < c.id
        · have HE : Hid (Crt.right c = false) := Lib.hid (Crt.not_right c 0 (show (0 : Nat) < 8 by decide) (Crt.may_no c.id (.inr h2)))
          go_wp2_with ((with_reducible refine gindex ?_); refine w_index (k := 0) Try.underlying103 (by rfl) (by rfl) (by decide) (by rfl) ?_)
          all_goals try omega
          go_ret
          exact ⟨by rw [HE.out]; rfl, hf⟩
        · have HS := Lib.hid (HU.out (Crt.may_yes _ h1 h2))
          go_wp2_with ((with_reducible refine gindex ?_); refine w_index (k := 0) Try.underlying103 (by rfl) (by rfl) (by decide) (by rfl) ?_)
          all_goals try omega
          go_roundw
          case rel => exact ⟨0 + 1, rfl, by omega, HS, hf⟩
          case measure => simp [intOf]
    · have HU := Lib.hid (fun h => Crt.upTo_succ c 1 hU.out (show (1 : Nat) < 8 by decide) h)
      replace HU : Hid (Crt.may c.order = true → Crt.upTo c (1 + 1)) := HU
      by_cases h1 : c.order < 0
      · have HE : Hid (Crt.right c = false) := Lib.hid (Crt.not_right c 1 (show (1 : Nat) < 8 by decide) (Crt.may_no c.order (.inl h1)))
        go_wp2_with ((with_reducible refine gindex ?_); refine w_index (k := 1) Try.underlying103 (by rfl) (by rfl) (by decide) (by rfl) ?_)
        all_goals try omega
        go_ret
        exact ⟨by rw [HE.out]; rfl, hf⟩
      · by_cases h2 : 4611686018427387904 < c.order
        · have HE : Hid (Crt.right c = false) := Lib.hid (Crt.not_right c 1 (show (1 : Nat) < 8 by decide) (Crt.may_no c.order (.inr h2)))
          go_wp2_with ((with_reducible refine gindex ?_); refine w_index (k := 1) Try.underlying103 (by rfl) (by rfl) (by decide) (by rfl) ?_)
          all_goals try omega
          go_ret
          exact ⟨by rw [HE.out]; rfl, hf⟩
        · have HS := Lib.hid (HU.out (Crt.may_yes _ h1 h2))
          go_wp2_with ((with_reducible refine gindex ?_); refine w_index (k := 1) Try.underlying103 (by rfl) (by rfl) (by decide) (by rfl) ?_)
          all_goals try omega
          go_roundw
          case rel => exact ⟨1 + 1, rfl, by omega, HS, hf⟩
          case measure => simp [intOf]
    · have HU := Lib.hid (fun h => Crt.upTo_succ c 2 hU.out (show (2 : Nat) < 8 by decide) h)
      replace HU : Hid (Crt.may c.lot = true → Crt.upTo c (2 + 1)) := HU
      by_cases h1 : c.lot < 0
      · have HE : Hid (Crt.right c = false) := Lib.hid (Crt.not_right c 2 (show (2 : Nat) < 8 by decide) (Crt.may_no c.lot (.inl h1)))
        go_wp2_with ((with_reducible refine gindex ?_); refine w_index (k := 2) Try.underlying103 (by rfl) (by rfl) (by decide) (by rfl) ?_)
        all_goals try omega
        go_ret
        exact ⟨by rw [HE.out]; rfl, hf⟩
      · by_cases h2 : 4611686018427387904 < c.lot
        · have HE : Hid (Crt.right c = false) := Lib.hid (Crt.not_right c 2 (show (2 : Nat) < 8 by decide) (Crt.may_no c.lot (.inr h2)))
          go_wp2_with ((with_reducible refine gindex ?_); refine w_index (k := 2) Try.underlying103 (by rfl) (by rfl) (by decide) (by rfl) ?_)
          all_goals try omega
          go_ret
          exact ⟨by rw [HE.out]; rfl, hf⟩
        · have HS := Lib.hid (HU.out (Crt.may_yes _ h1 h2))
          go_wp2_with ((with_reducible refine gindex ?_); refine w_index (k := 2) Try.underlying103 (by rfl) (by rfl) (by decide) (by rfl) ?_)
          all_goals try omega
          go_roundw
          case rel => exact ⟨2 + 1, rfl, by omega, HS, hf⟩
          case measure => simp [intOf]
    · have HU := Lib.hid (fun h => Crt.upTo_succ c 3 hU.out (show (3 : Nat) < 8 by decide) h)
      replace HU : Hid (Crt.may c.product = true → Crt.upTo c (3 + 1)) := HU
      by_cases h1 : c.product < 0
      · have HE : Hid (Crt.right c = false) := Lib.hid (Crt.not_right c 3 (show (3 : Nat) < 8 by decide) (Crt.may_no c.product (.inl h1)))
        go_wp2_with ((with_reducible refine gindex ?_); refine w_index (k := 3) Try.underlying103 (by rfl) (by rfl) (by decide) (by rfl) ?_)
        all_goals try omega
        go_ret
        exact ⟨by rw [HE.out]; rfl, hf⟩
      · by_cases h2 : 4611686018427387904 < c.product
        · have HE : Hid (Crt.right c = false) := Lib.hid (Crt.not_right c 3 (show (3 : Nat) < 8 by decide) (Crt.may_no c.product (.inr h2)))
          go_wp2_with ((with_reducible refine gindex ?_); refine w_index (k := 3) Try.underlying103 (by rfl) (by rfl) (by decide) (by rfl) ?_)
          all_goals try omega
          go_ret
          exact ⟨by rw [HE.out]; rfl, hf⟩
        · have HS := Lib.hid (HU.out (Crt.may_yes _ h1 h2))
          go_wp2_with ((with_reducible refine gindex ?_); refine w_index (k := 3) Try.underlying103 (by rfl) (by rfl) (by decide) (by rfl) ?_)
          all_goals try omega
          go_roundw
          case rel => exact ⟨3 + 1, rfl, by omega, HS, hf⟩
          case measure => simp [intOf]
    · have HU := Lib.hid (fun h => Crt.upTo_succ c 4 hU.out (show (4 : Nat) < 8 by decide) h)
      replace HU : Hid (Crt.may c.units = true → Crt.upTo c (4 + 1)) := HU
      by_cases h1 : c.units < 0
      · have HE : Hid (Crt.right c = false) := Lib.hid (Crt.not_right c 4 (show (4 : Nat) < 8 by decide) (Crt.may_no c.units (.inl h1)))
        go_wp2_with ((with_reducible refine gindex ?_); refine w_index (k := 4) Try.underlying103 (by rfl) (by rfl) (by decide) (by rfl) ?_)
        all_goals try omega
        go_ret
        exact ⟨by rw [HE.out]; rfl, hf⟩
      · by_cases h2 : 4611686018427387904 < c.units
        · have HE : Hid (Crt.right c = false) := Lib.hid (Crt.not_right c 4 (show (4 : Nat) < 8 by decide) (Crt.may_no c.units (.inr h2)))
          go_wp2_with ((with_reducible refine gindex ?_); refine w_index (k := 4) Try.underlying103 (by rfl) (by rfl) (by decide) (by rfl) ?_)
          all_goals try omega
          go_ret
          exact ⟨by rw [HE.out]; rfl, hf⟩
        · have HS := Lib.hid (HU.out (Crt.may_yes _ h1 h2))
          go_wp2_with ((with_reducible refine gindex ?_); refine w_index (k := 4) Try.underlying103 (by rfl) (by rfl) (by decide) (by rfl) ?_)
          all_goals try omega
          go_roundw
          case rel => exact ⟨4 + 1, rfl, by omega, HS, hf⟩
          case measure => simp [intOf]
    · have HU := Lib.hid (fun h => Crt.upTo_succ c 5 hU.out (show (5 : Nat) < 8 by decide) h)
      replace HU : Hid (Crt.may c.minute = true → Crt.upTo c (5 + 1)) := HU
      by_cases h1 : c.minute < 0
      · have HE : Hid (Crt.right c = false) := Lib.hid (Crt.not_right c 5 (show (5 : Nat) < 8 by decide) (Crt.may_no c.minute (.inl h1)))
        go_wp2_with ((with_reducible refine gindex ?_); refine w_index (k := 5) Try.underlying103 (by rfl) (by rfl) (by decide) (by rfl) ?_)
        all_goals try omega
        go_ret
        exact ⟨by rw [HE.out]; rfl, hf⟩
      · by_cases h2 : 4611686018427387904 < c.minute
        · have HE : Hid (Crt.right c = false) := Lib.hid (Crt.not_right c 5 (show (5 : Nat) < 8 by decide) (Crt.may_no c.minute (.inr h2)))
          go_wp2_with ((with_reducible refine gindex ?_); refine w_index (k := 5) Try.underlying103 (by rfl) (by rfl) (by decide) (by rfl) ?_)
          all_goals try omega
          go_ret
          exact ⟨by rw [HE.out]; rfl, hf⟩
        · have HS := Lib.hid (HU.out (Crt.may_yes _ h1 h2))
          go_wp2_with ((with_reducible refine gindex ?_); refine w_index (k := 5) Try.underlying103 (by rfl) (by rfl) (by decide) (by rfl) ?_)
          all_goals try omega
          go_roundw
          case rel => exact ⟨5 + 1, rfl, by omega, HS, hf⟩
          case measure => simp [intOf]
    · have HU := Lib.hid (fun h => Crt.upTo_succ c 6 hU.out (show (6 : Nat) < 8 by decide) h)
      replace HU : Hid (Crt.may c.exposure = true → Crt.upTo c (6 + 1)) := HU
      by_cases h1 : c.exposure < 0
      · have HE : Hid (Crt.right c = false) := Lib.hid (Crt.not_right c 6 (show (6 : Nat) < 8 by decide) (Crt.may_no c.exposure (.inl h1)))
        go_wp2_with ((with_reducible refine gindex ?_); refine w_index (k := 6) Try.underlying103 (by rfl) (by rfl) (by decide) (by rfl) ?_)
        all_goals try omega
        go_ret
        exact ⟨by rw [HE.out]; rfl, hf⟩
      · by_cases h2 : 4611686018427387904 < c.exposure
        · have HE : Hid (Crt.right c = false) := Lib.hid (Crt.not_right c 6 (show (6 : Nat) < 8 by decide) (Crt.may_no c.exposure (.inr h2)))
          go_wp2_with ((with_reducible refine gindex ?_); refine w_index (k := 6) Try.underlying103 (by rfl) (by rfl) (by decide) (by rfl) ?_)
          all_goals try omega
          go_ret
          exact ⟨by rw [HE.out]; rfl, hf⟩
        · have HS := Lib.hid (HU.out (Crt.may_yes _ h1 h2))
          go_wp2_with ((with_reducible refine gindex ?_); refine w_index (k := 6) Try.underlying103 (by rfl) (by rfl) (by decide) (by rfl) ?_)
          all_goals try omega
          go_roundw
          case rel => exact ⟨6 + 1, rfl, by omega, HS, hf⟩
          case measure => simp [intOf]
    · have HU := Lib.hid (fun h => Crt.upTo_succ c 7 hU.out (show (7 : Nat) < 8 by decide) h)
      replace HU : Hid (Crt.may c.allowance = true → Crt.upTo c (7 + 1)) := HU
      by_cases h1 : c.allowance < 0
      · have HE : Hid (Crt.right c = false) := Lib.hid (Crt.not_right c 7 (show (7 : Nat) < 8 by decide) (Crt.may_no c.allowance (.inl h1)))
        go_wp2_with ((with_reducible refine gindex ?_); refine w_index (k := 7) Try.underlying103 (by rfl) (by rfl) (by decide) (by rfl) ?_)
        all_goals try omega
        go_ret
        exact ⟨by rw [HE.out]; rfl, hf⟩
      · by_cases h2 : 4611686018427387904 < c.allowance
        · have HE : Hid (Crt.right c = false) := Lib.hid (Crt.not_right c 7 (show (7 : Nat) < 8 by decide) (Crt.may_no c.allowance (.inr h2)))
          go_wp2_with ((with_reducible refine gindex ?_); refine w_index (k := 7) Try.underlying103 (by rfl) (by rfl) (by decide) (by rfl) ?_)
          all_goals try omega
          go_ret
          exact ⟨by rw [HE.out]; rfl, hf⟩
        · have HS := Lib.hid (HU.out (Crt.may_yes _ h1 h2))
          go_wp2_with ((with_reducible refine gindex ?_); refine w_index (k := 7) Try.underlying103 (by rfl) (by rfl) (by decide) (by rfl) ?_)
          all_goals try omega
          go_roundw
          case rel => exact ⟨7 + 1, rfl, by omega, HS, hf⟩
          case measure => simp [intOf]
    · have HE := Lib.hid (Crt.upTo_all c hU.out)
      go_wp2_with fail
      go_ret
      exact ⟨by rw [HE.out]; rfl, hf⟩
set_option maxRecDepth 100000 in
set_option maxHeartbeats 2000000 in
theorem cert_Encode (c : Cert) (w0 : World) : Calls Try.prog 19 #[aggC c] w0 fun e w' => ∃ v', e = .returned (.tuple #[v', .int .i64 (Crt.encode c).2]) ∧ St w0 w' [OwnS 5 1 encB v' (Crt.encode c).1] := by
  have I := St.refl w0
  cases hr : Crt.right c with
  | false =>
    have HR := Lib.hid hr
    have HE : Hid (Crt.encode c = ([], 1)) := Lib.hid (by unfold Crt.encode; rw [hr]; rfl)
    rw [HE.out]
    clear hr
    go_enter Try.func19, Try.ntmps19
    go_wp2_with (first | (first | ((with_reducible refine gguard ?_); (first | refine w_guardT (by rfl) (fun hb => ?_) (fun hb => ?_) | refine w_guardF (by rfl) (fun hb => ?_) (fun hb => ?_)) <;> first | (cases hb; done) | cases hb | ((try rw [hb]) <;> (try simp at hb) <;> go_prune <;> (try (with_reducible replace hb := eqPair hb)))) | (((with_reducible refine gbox ?_); first | refine w_boxA I (by rfl) ?_ | refine w_box1 I (by (conv => lhs; whnf) <;> rfl) (by rfl) ?_); clear I; intro g w I) | ((with_reducible refine galloc ?_); refine w_alloc I ?_; clear I; intro g w I) | ((with_reducible refine gload ?_); first | refine w_loadB I (by rfl) (by first | (with_reducible repeat (first | exact .here | apply At.there)); done | repeat (first | exact .here | apply At.there)) (by rfl) ?_ | refine w_loadBR I (by rfl) (by first | (with_reducible repeat (first | exact .here | apply At.there)); done | repeat (first | exact .here | apply At.there)) (by rfl) ?_ | refine w_load0 I (by rfl) (by assumption) ?_) | ((with_reducible refine gstore ?_); (first | refine w_storeB I (by rfl) (by (conv => lhs; whnf) <;> rfl) (by first | (with_reducible repeat (first | exact .here | apply Upd.there)); done | repeat (first | exact .here | apply Upd.there)) (by rfl) (by rfl) (by simp only [List.set_cons_zero, List.set_cons_succ] <;> rfl) ?_ | refine w_storeBR I (by rfl) (by rfl) (by first | (with_reducible repeat (first | exact .here | apply Upd.there)); done | repeat (first | exact .here | apply Upd.there)) (by rfl) (by rfl) (by rfl) ?_); clear I; intro w I)) | (go_at_call 24; go_must (refine (cert_Right c _).mono ?_; rintro _ w1 ⟨rfl, hf⟩; rw [HR.out]; replace I := I.still hf; clear hf)))
    exact ret_2 rfl (by first | (exact ResV.t _ (by rfl)) | (exact ResV.row I (by rfl) (by first | (with_reducible repeat (first | exact .here | apply At.there)); done | repeat (first | exact .here | apply At.there)) (by rfl)) | (exact ResV.one I (by rfl) (by first | (with_reducible repeat (first | exact .here | apply At.there)); done | repeat (first | exact .here | apply At.there)))) (by first | (exact ResV.t _ (by rfl)) | (exact ResV.row I (by rfl) (by first | (with_reducible repeat (first | exact .here | apply At.there)); done | repeat (first | exact .here | apply At.there)) (by rfl)) | (exact ResV.one I (by rfl) (by first | (with_reducible repeat (first | exact .here | apply At.there)); done | repeat (first | exact .here | apply At.there)))) rfl ⟨_, rfl, I.nil.nilOwn _ _ _⟩
  | true =>
    have HR := Lib.hid hr
    have HE : Hid (Crt.encode c = (Crc.sealed (Crt.raw c), 0)) := Lib.hid (by unfold Crt.encode; rw [hr]; rfl)
    rw [HE.out]
    clear hr
    go_enter Try.func19, Try.ntmps19
    go_wp2_with (first | (first | ((with_reducible refine gguard ?_); (first | refine w_guardT (by rfl) (fun hb => ?_) (fun hb => ?_) | refine w_guardF (by rfl) (fun hb => ?_) (fun hb => ?_)) <;> first | (cases hb; done) | cases hb | ((try rw [hb]) <;> (try simp at hb) <;> go_prune <;> (try (with_reducible replace hb := eqPair hb)))) | (((with_reducible refine gbox ?_); first | refine w_boxA I (by rfl) ?_ | refine w_box1 I (by (conv => lhs; whnf) <;> rfl) (by rfl) ?_); clear I; intro g w I) | ((with_reducible refine galloc ?_); refine w_alloc I ?_; clear I; intro g w I) | ((with_reducible refine gload ?_); first | refine w_loadB I (by rfl) (by first | (with_reducible repeat (first | exact .here | apply At.there)); done | repeat (first | exact .here | apply At.there)) (by rfl) ?_ | refine w_loadBR I (by rfl) (by first | (with_reducible repeat (first | exact .here | apply At.there)); done | repeat (first | exact .here | apply At.there)) (by rfl) ?_ | refine w_load0 I (by rfl) (by assumption) ?_) | ((with_reducible refine gstore ?_); (first | refine w_storeB I (by rfl) (by (conv => lhs; whnf) <;> rfl) (by first | (with_reducible repeat (first | exact .here | apply Upd.there)); done | repeat (first | exact .here | apply Upd.there)) (by rfl) (by rfl) (by simp only [List.set_cons_zero, List.set_cons_succ] <;> rfl) ?_ | refine w_storeBR I (by rfl) (by rfl) (by first | (with_reducible repeat (first | exact .here | apply Upd.there)); done | repeat (first | exact .here | apply Upd.there)) (by rfl) (by rfl) (by rfl) ?_); clear I; intro w I)) | (go_at_call 24; go_must (refine (cert_Right c _).mono ?_; rintro _ w1 ⟨rfl, hf⟩; rw [HR.out]; replace I := I.still hf; clear hf)) | (go_at_call 58; go_must (refine (cert_numbers c _).mono ?_; rintro _ w1 ⟨rfl, hf⟩; replace I := I.still hf; clear hf)) | (go_at_call 57; go_must (refine (octets_NewWriter _ _ _ I).mono ?_; rintro _ w1 ⟨gw, rfl, S⟩; clear I; have I := S; clear S)))
    have I2 : St w0 w1 [Wr gw (Crt.rawk c 0, 0)] := I.pick (by first | (with_reducible repeat (first | exact .here | apply At.there)); done | repeat (first | exact .here | apply At.there))
    go_loopw [15] (fun i wr => ∃ k : Nat, i = .int .i64 k ∧ k ≤ 8 ∧ St w0 wr [Wr gw (Crt.rawk c k, 0)]) (fun i _ => 8 - (intOf i).toNat)
    case atStart => exact ⟨0, rfl, by omega, I2⟩
    case round =>
      clear I I2
      obtain ⟨k, rfl, hk, I⟩ := hrel
      have h8 : k = 0 ∨ k = 1 ∨ k = 2 ∨ k = 3 ∨ k = 4 ∨ k = 5 ∨ k = 6 ∨ k = 7 ∨ k = 8 := by omega
      rcases h8 with rfl | rfl | rfl | rfl | rfl | rfl | rfl | rfl | rfl
      · have HP := Lib.hid (Crt.putInt_k c 0 c.id (show (0 : Nat) < 8 by decide) rfl)
        have HL := Lib.hid (Crt.rawk_len c 0)
        generalize Crt.rawk c 0 = bk at *
        generalize hq : Crt.rawk c (0 + 1) = bq at HP
        go_wp2_with (first | ((with_reducible refine gindex ?_); refine w_index (k := 0) Try.underlying103 (by rfl) (by rfl) (by decide) (by rfl) ?_) | (first | ((with_reducible refine gguard ?_); (first | refine w_guardT (by rfl) (fun hb => ?_) (fun hb => ?_) | refine w_guardF (by rfl) (fun hb => ?_) (fun hb => ?_)) <;> first | (cases hb; done) | cases hb | ((try rw [hb]) <;> (try simp at hb) <;> go_prune <;> (try (with_reducible replace hb := eqPair hb)))) | (((with_reducible refine gbox ?_); first | refine w_boxA I (by rfl) ?_ | refine w_box1 I (by (conv => lhs; whnf) <;> rfl) (by rfl) ?_); clear I; intro g w I) | ((with_reducible refine galloc ?_); refine w_alloc I ?_; clear I; intro g w I) | ((with_reducible refine gload ?_); first | refine w_loadB I (by rfl) (by first | (with_reducible repeat (first | exact .here | apply At.there)); done | repeat (first | exact .here | apply At.there)) (by rfl) ?_ | refine w_loadBR I (by rfl) (by first | (with_reducible repeat (first | exact .here | apply At.there)); done | repeat (first | exact .here | apply At.there)) (by rfl) ?_ | refine w_load0 I (by rfl) (by assumption) ?_) | ((with_reducible refine gstore ?_); (first | refine w_storeB I (by rfl) (by (conv => lhs; whnf) <;> rfl) (by first | (with_reducible repeat (first | exact .here | apply Upd.there)); done | repeat (first | exact .here | apply Upd.there)) (by rfl) (by rfl) (by simp only [List.set_cons_zero, List.set_cons_succ] <;> rfl) ?_ | refine w_storeBR I (by rfl) (by rfl) (by first | (with_reducible repeat (first | exact .here | apply Upd.there)); done | repeat (first | exact .here | apply Upd.there)) (by rfl) (by rfl) (by rfl) ?_); clear I; intro w I)) | (go_at_call 59; go_must (refine (octets_Int gw (bk, 0) c.id (Nat.le_trans HL.out (by decide)) _ _ _ _ I .here).mono ?_; rintro _ w1 ⟨rfl, S⟩; clear I; have I := S; clear S; rw [HP.out] at I)))
        go_roundw
        case rel => exact ⟨0 + 1, rfl, by omega, by rw [hq]; exact I⟩
        case measure => simp [intOf]
      · have HP := Lib.hid (Crt.putInt_k c 1 c.order (show (1 : Nat) < 8 by decide) rfl)
        have HL := Lib.hid (Crt.rawk_len c 1)
        generalize Crt.rawk c 1 = bk at *
        generalize hq : Crt.rawk c (1 + 1) = bq at HP
        go_wp2_with (first | ((with_reducible refine gindex ?_); refine w_index (k := 1) Try.underlying103 (by rfl) (by rfl) (by decide) (by rfl) ?_) | (first | ((with_reducible refine gguard ?_); (first | refine w_guardT (by rfl) (fun hb => ?_) (fun hb => ?_) | refine w_guardF (by rfl) (fun hb => ?_) (fun hb => ?_)) <;> first | (cases hb; done) | cases hb | ((try rw [hb]) <;> (try simp at hb) <;> go_prune <;> (try (with_reducible replace hb := eqPair hb)))) | (((with_reducible refine gbox ?_); first | refine w_boxA I (by rfl) ?_ | refine w_box1 I (by (conv => lhs; whnf) <;> rfl) (by rfl) ?_); clear I; intro g w I) | ((with_reducible refine galloc ?_); refine w_alloc I ?_; clear I; intro g w I) | ((with_reducible refine gload ?_); first | refine w_loadB I (by rfl) (by first | (with_reducible repeat (first | exact .here | apply At.there)); done | repeat (first | exact .here | apply At.there)) (by rfl) ?_ | refine w_loadBR I (by rfl) (by first | (with_reducible repeat (first | exact .here | apply At.there)); done | repeat (first | exact .here | apply At.there)) (by rfl) ?_ | refine w_load0 I (by rfl) (by assumption) ?_) | ((with_reducible refine gstore ?_); (first | refine w_storeB I (by rfl) (by (conv => lhs; whnf) <;> rfl) (by first | (with_reducible repeat (first | exact .here | apply Upd.there)); done | repeat (first | exact .here | apply Upd.there)) (by rfl) (by rfl) (by simp only [List.set_cons_zero, List.set_cons_succ] <;> rfl) ?_ | refine w_storeBR I (by rfl) (by rfl) (by first | (with_reducible repeat (first | exact .here | apply Upd.there)); done | repeat (first | exact .here | apply Upd.there)) (by rfl) (by rfl) (by rfl) ?_); clear I; intro w I)) | (go_at_call 59; go_must (refine (octets_Int gw (bk, 0) c.order (Nat.le_trans HL.out (by decide)) _ _ _ _ I .here).mono ?_; rintro _ w1 ⟨rfl, S⟩; clear I; have I := S; clear S; rw [HP.out] at I)))
        go_roundw
        case rel => exact ⟨1 + 1, rfl, by omega, by rw [hq]; exact I⟩
        case measure => simp [intOf]
      · have HP := Lib.hid (Crt.putInt_k c 2 c.lot (show (2 : Nat) < 8 by decide) rfl)
        have HL := Lib.hid (Crt.rawk_len c 2)
        generalize Crt.rawk c 2 = bk at *
        generalize hq : Crt.rawk c (2 + 1) = bq at HP
        go_wp2_with (first | ((with_reducible refine gindex ?_); refine w_index (k := 2) Try.underlying103 (by rfl) (by rfl) (by decide) (by rfl) ?_) | (first | ((with_reducible refine gguard ?_); (first | refine w_guardT (by rfl) (fun hb => ?_) (fun hb => ?_) | refine w_guardF (by rfl) (fun hb => ?_) (fun hb => ?_)) <;> first | (cases hb; done) | cases hb | ((try rw [hb]) <;> (try simp at hb) <;> go_prune <;> (try (with_reducible replace hb := eqPair hb)))) | (((with_reducible refine gbox ?_); first | refine w_boxA I (by rfl) ?_ | refine w_box1 I (by (conv => lhs; whnf) <;> rfl) (by rfl) ?_); clear I; intro g w I) | ((with_reducible refine galloc ?_); refine w_alloc I ?_; clear I; intro g w I) | ((with_reducible refine gload ?_); first | refine w_loadB I (by rfl) (by first | (with_reducible repeat (first | exact .here | apply At.there)); done | repeat (first | exact .here | apply At.there)) (by rfl) ?_ | refine w_loadBR I (by rfl) (by first | (with_reducible repeat (first | exact .here | apply At.there)); done | repeat (first | exact .here | apply At.there)) (by rfl) ?_ | refine w_load0 I (by rfl) (by assumption) ?_) | ((with_reducible refine gstore ?_); (first | refine w_storeB I (by rfl) (by (conv => lhs; whnf) <;> rfl) (by first | (with_reducible repeat (first | exact .here | apply Upd.there)); done | repeat (first | exact .here | apply Upd.there)) (by rfl) (by rfl) (by simp only [List.set_cons_zero, List.set_cons_succ] <;> rfl) ?_ | refine w_storeBR I (by rfl) (by rfl) (by first | (with_reducible repeat (first | exact .here | apply Upd.there)); done | repeat (first | exact .here | apply Upd.there)) (by rfl) (by rfl) (by rfl) ?_); clear I; intro w I)) | (go_at_call 59; go_must (refine (octets_Int gw (bk, 0) c.lot (Nat.le_trans HL.out (by decide)) _ _ _ _ I .here).mono ?_; rintro _ w1 ⟨rfl, S⟩; clear I; have I := S; clear S; rw [HP.out] at I)))
        go_roundw
        case rel => exact ⟨2 + 1, rfl, by omega, by rw [hq]; exact I⟩
        case measure => simp [intOf]
      · have HP := Lib.hid (Crt.putInt_k c 3 c.product (show (3 : Nat) < 8 by decide) rfl)
        have HL := Lib.hid (Crt.rawk_len c 3)
        generalize Crt.rawk c 3 = bk at *
        generalize hq : Crt.rawk c (3 + 1) = bq at HP
        go_wp2_with (first | ((with_reducible refine gindex ?_); refine w_index (k := 3) Try.underlying103 (by rfl) (by rfl) (by decide) (by rfl) ?_) | (first | ((with_reducible refine gguard ?_); (first | refine w_guardT (by rfl) (fun hb => ?_) (fun hb => ?_) | refine w_guardF (by rfl) (fun hb => ?_) (fun hb => ?_)) <;> first | (cases hb; done) | cases hb | ((try rw [hb]) <;> (try simp at hb) <;> go_prune <;> (try (with_reducible replace hb := eqPair hb)))) | (((with_reducible refine gbox ?_); first | refine w_boxA I (by rfl) ?_ | refine w_box1 I (by (conv => lhs; whnf) <;> rfl) (by rfl) ?_); clear I; intro g w I) | ((with_reducible refine galloc ?_); refine w_alloc I ?_; clear I; intro g w I) | ((with_reducible refine gload ?_); first | refine w_loadB I (by rfl) (by first | (with_reducible repeat (first | exact .here | apply At.there)); done | repeat (first | exact .here | apply At.there)) (by rfl) ?_ | refine w_loadBR I (by rfl) (by first | (with_reducible repeat (first | exact .here | apply At.there)); done | repeat (first | exact .here | apply At.there)) (by rfl) ?_ | refine w_load0 I (by rfl) (by assumption) ?_) | ((with_reducible refine gstore ?_); (first | refine w_storeB I (by rfl) (by (conv => lhs; whnf) <;> rfl) (by first | (with_reducible repeat (first | exact .here | apply Upd.there)); done | repeat (first | exact .here | apply Upd.there)) (by rfl) (by rfl) (by simp only [List.set_cons_zero, List.set_cons_succ] <;> rfl) ?_ | refine w_storeBR I (by rfl) (by rfl) (by first | (with_reducible repeat (first | exact .here | apply Upd.there)); done | repeat (first | exact .here | apply Upd.there)) (by rfl) (by rfl) (by rfl) ?_); clear I; intro w I)) | (go_at_call 59; go_must (refine (octets_Int gw (bk, 0) c.product (Nat.le_trans HL.out (by decide)) _ _ _ _ I .here).mono ?_; rintro _ w1 ⟨rfl, S⟩; clear I; have I := S; clear S; rw [HP.out] at I)))
        go_roundw
        case rel => exact ⟨3 + 1, rfl, by omega, by rw [hq]; exact I⟩
        case measure => simp [intOf]
      · have HP := Lib.hid (Crt.putInt_k c 4 c.units (show (4 : Nat) < 8 by decide) rfl)
        have HL := Lib.hid (Crt.rawk_len c 4)
        generalize Crt.rawk c 4 = bk at *
        generalize hq : Crt.rawk c (4 + 1) = bq at HP
        go_wp2_with (first | ((with_reducible refine gindex ?_); refine w_index (k := 4) Try.underlying103 (by rfl) (by rfl) (by decide) (by rfl) ?_) | (first | ((with_reducible refine gguard ?_); (first | refine w_guardT (by rfl) (fun hb => ?_) (fun hb => ?_) | refine w_guardF (by rfl) (fun hb => ?_) (fun hb => ?_)) <;> first | (cases hb; done) | cases hb | ((try rw [hb]) <;> (try simp at hb) <;> go_prune <;> (try (with_reducible replace hb := eqPair hb)))) | (((with_reducible refine gbox ?_); first | refine w_boxA I (by rfl) ?_ | refine w_box1 I (by (conv => lhs; whnf) <;> rfl) (by rfl) ?_); clear I; intro g w I) | ((with_reducible refine galloc ?_); refine w_alloc I ?_; clear I; intro g w I) | ((with_reducible refine gload ?_); first | refine w_loadB I (by rfl) (by first | (with_reducible repeat (first | exact .here | apply At.there)); done | repeat (first | exact .here | apply At.there)) (by rfl) ?_ | refine w_loadBR I (by rfl) (by first | (with_reducible repeat (first | exact .here | apply At.there)); done | repeat (first | exact .here | apply At.there)) (by rfl) ?_ | refine w_load0 I (by rfl) (by assumption) ?_) | ((with_reducible refine gstore ?_); (first | refine w_storeB I (by rfl) (by (conv => lhs; whnf) <;> rfl) (by first | (with_reducible repeat (first | exact .here | apply Upd.there)); done | repeat (first | exact .here | apply Upd.there)) (by rfl) (by rfl) (by simp only [List.set_cons_zero, List.set_cons_succ] <;> rfl) ?_ | refine w_storeBR I (by rfl) (by rfl) (by first | (with_reducible repeat (first | exact .here | apply Upd.there)); done | repeat (first | exact .here | apply Upd.there)) (by rfl) (by rfl) (by rfl) ?_); clear I; intro w I)) | (go_at_call 59; go_must (refine (octets_Int gw (bk, 0) c.units (Nat.le_trans HL.out (by decide)) _ _ _ _ I .here).mono ?_; rintro _ w1 ⟨rfl, S⟩; clear I; have I := S; clear S; rw [HP.out] at I)))
        go_roundw
        case rel => exact ⟨4 + 1, rfl, by omega, by rw [hq]; exact I⟩
        case measure => simp [intOf]
      · have HP := Lib.hid (Crt.putInt_k c 5 c.minute (show (5 : Nat) < 8 by decide) rfl)
        have HL := Lib.hid (Crt.rawk_len c 5)
        generalize Crt.rawk c 5 = bk at *
        generalize hq : Crt.rawk c (5 + 1) = bq at HP
        go_wp2_with (first | ((with_reducible refine gindex ?_); refine w_index (k := 5) Try.underlying103 (by rfl) (by rfl) (by decide) (by rfl) ?_) | (first | ((with_reducible refine gguard ?_); (first | refine w_guardT (by rfl) (fun hb => ?_) (fun hb => ?_) | refine w_guardF (by rfl) (fun hb => ?_) (fun hb => ?_)) <;> first | (cases hb; done) | cases hb | ((try rw [hb]) <;> (try simp at hb) <;> go_prune <;> (try (with_reducible replace hb := eqPair hb)))) | (((with_reducible refine gbox ?_); first | refine w_boxA I (by rfl) ?_ | refine w_box1 I (by (conv => lhs; whnf) <;> rfl) (by rfl) ?_); clear I; intro g w I) | ((with_reducible refine galloc ?_); refine w_alloc I ?_; clear I; intro g w I) | ((with_reducible refine gload ?_); first | refine w_loadB I (by rfl) (by first | (with_reducible repeat (first | exact .here | apply At.there)); done | repeat (first | exact .here | apply At.there)) (by rfl) ?_ | refine w_loadBR I (by rfl) (by first | (with_reducible repeat (first | exact .here | apply At.there)); done | repeat (first | exact .here | apply At.there)) (by rfl) ?_ | refine w_load0 I (by rfl) (by assumption) ?_) | ((with_reducible refine gstore ?_); (first | refine w_storeB I (by rfl) (by (conv => lhs; whnf) <;> rfl) (by first | (with_reducible repeat (first | exact .here | apply Upd.there)); done | repeat (first | exact .here | apply Upd.there)) (by rfl) (by rfl) (by simp only [List.set_cons_zero, List.set_cons_succ] <;> rfl) ?_ | refine w_storeBR I (by rfl) (by rfl) (by first | (with_reducible repeat (first | exact .here | apply Upd.there)); done | repeat (first | exact .here | apply Upd.there)) (by rfl) (by rfl) (by rfl) ?_); clear I; intro w I)) | (go_at_call 59; go_must (refine (octets_Int gw (bk, 0) c.minute (Nat.le_trans HL.out (by decide)) _ _ _ _ I .here).mono ?_; rintro _ w1 ⟨rfl, S⟩; clear I; have I := S; clear S; rw [HP.out] at I)))
        go_roundw
        case rel => exact ⟨5 + 1, rfl, by omega, by rw [hq]; exact I⟩
        case measure => simp [intOf]
      · have HP := Lib.hid (Crt.putInt_k c 6 c.exposure (show (6 : Nat) < 8 by decide) rfl)
        have HL := Lib.hid (Crt.rawk_len c 6)
        generalize Crt.rawk c 6 = bk at *
        generalize hq : Crt.rawk c (6 + 1) = bq at HP
        go_wp2_with (first | ((with_reducible refine gindex ?_); refine w_index (k := 6) Try.underlying103 (by rfl) (by rfl) (by decide) (by rfl) ?_) | (first | ((with_reducible refine gguard ?_); (first | refine w_guardT (by rfl) (fun hb => ?_) (fun hb => ?_) | refine w_guardF (by rfl) (fun hb => ?_) (fun hb => ?_)) <;> first | (cases hb; done) | cases hb | ((try rw [hb]) <;> (try simp at hb) <;> go_prune <;> (try (with_reducible replace hb := eqPair hb)))) | (((with_reducible refine gbox ?_); first | refine w_boxA I (by rfl) ?_ | refine w_box1 I (by (conv => lhs; whnf) <;> rfl) (by rfl) ?_); clear I; intro g w I) | ((with_reducible refine galloc ?_); refine w_alloc I ?_; clear I; intro g w I) | ((with_reducible refine gload ?_); first | refine w_loadB I (by rfl) (by first | (with_reducible repeat (first | exact .here | apply At.there)); done | repeat (first | exact .here | apply At.there)) (by rfl) ?_ | refine w_loadBR I (by rfl) (by first | (with_reducible repeat (first | exact .here | apply At.there)); done | repeat (first | exact .here | apply At.there)) (by rfl) ?_ | refine w_load0 I (by rfl) (by assumption) ?_) | ((with_reducible refine gstore ?_); (first | refine w_storeB I (by rfl) (by (conv => lhs; whnf) <;> rfl) (by first | (with_reducible repeat (first | exact .here | apply Upd.there)); done | repeat (first | exact .here | apply Upd.there)) (by rfl) (by rfl) (by simp only [List.set_cons_zero, List.set_cons_succ] <;> rfl) ?_ | refine w_storeBR I (by rfl) (by rfl) (by first | (with_reducible repeat (first | exact .here | apply Upd.there)); done | repeat (first | exact .here | apply Upd.there)) (by rfl) (by rfl) (by rfl) ?_); clear I; intro w I)) | (go_at_call 59; go_must (refine (octets_Int gw (bk, 0) c.exposure (Nat.le_trans HL.out (by decide)) _ _ _ _ I .here).mono ?_; rintro _ w1 ⟨rfl, S⟩; clear I; have I := S; clear S; rw [HP.out] at I)))
        go_roundw
        case rel => exact ⟨6 + 1, rfl, by omega, by rw [hq]; exact I⟩
        case measure => simp [intOf]
      · have HP := Lib.hid (Crt.putInt_k c 7 c.allowance (show (7 : Nat) < 8 by decide) rfl)
        have HL := Lib.hid (Crt.rawk_len c 7)
        generalize Crt.rawk c 7 = bk at *
        generalize hq : Crt.rawk c (7 + 1) = bq at HP
        go_wp2_with (first | ((with_reducible refine gindex ?_); refine w_index (k := 7) Try.underlying103 (by rfl) (by rfl) (by decide) (by rfl) ?_) | (first | ((with_reducible refine gguard ?_); (first | refine w_guardT (by rfl) (fun hb => ?_) (fun hb => ?_) | refine w_guardF (by rfl) (fun hb => ?_) (fun hb => ?_)) <;> first | (cases hb; done) | cases hb | ((try rw [hb]) <;> (try simp at hb) <;> go_prune <;> (try (with_reducible replace hb := eqPair hb)))) | (((with_reducible refine gbox ?_); first | refine w_boxA I (by rfl) ?_ | refine w_box1 I (by (conv => lhs; whnf) <;> rfl) (by rfl) ?_); clear I; intro g w I) | ((with_reducible refine galloc ?_); refine w_alloc I ?_; clear I; intro g w I) | ((with_reducible refine gload ?_); first | refine w_loadB I (by rfl) (by first | (with_reducible repeat (first | exact .here | apply At.there)); done | repeat (first | exact .here | apply At.there)) (by rfl) ?_ | refine w_loadBR I (by rfl) (by first | (with_reducible repeat (first | exact .here | apply At.there)); done | repeat (first | exact .here | apply At.there)) (by rfl) ?_ | refine w_load0 I (by rfl) (by assumption) ?_) | ((with_reducible refine gstore ?_); (first | refine w_storeB I (by rfl) (by (conv => lhs; whnf) <;> rfl) (by first | (with_reducible repeat (first | exact .here | apply Upd.there)); done | repeat (first | exact .here | apply Upd.there)) (by rfl) (by rfl) (by simp only [List.set_cons_zero, List.set_cons_succ] <;> rfl) ?_ | refine w_storeBR I (by rfl) (by rfl) (by first | (with_reducible repeat (first | exact .here | apply Upd.there)); done | repeat (first | exact .here | apply Upd.there)) (by rfl) (by rfl) (by rfl) ?_); clear I; intro w I)) | (go_at_call 59; go_must (refine (octets_Int gw (bk, 0) c.allowance (Nat.le_trans HL.out (by decide)) _ _ _ _ I .here).mono ?_; rintro _ w1 ⟨rfl, S⟩; clear I; have I := S; clear S; rw [HP.out] at I)))
        go_roundw
        case rel => exact ⟨7 + 1, rfl, by omega, by rw [hq]; exact I⟩
        case measure => simp [intOf]
      · rw [Crt.rawk_all] at I
        have HL := Lib.hid (Crt.raw_len c)
        go_wp2_with (first | (first | ((with_reducible refine gguard ?_); (first | refine w_guardT (by rfl) (fun hb => ?_) (fun hb => ?_) | refine w_guardF (by rfl) (fun hb => ?_) (fun hb => ?_)) <;> first | (cases hb; done) | cases hb | ((try rw [hb]) <;> (try simp at hb) <;> go_prune <;> (try (with_reducible replace hb := eqPair hb)))) | (((with_reducible refine gbox ?_); first | refine w_boxA I (by rfl) ?_ | refine w_box1 I (by (conv => lhs; whnf) <;> rfl) (by rfl) ?_); clear I; intro g w I) | ((with_reducible refine galloc ?_); refine w_alloc I ?_; clear I; intro g w I) | ((with_reducible refine gload ?_); first | refine w_loadB I (by rfl) (by first | (with_reducible repeat (first | exact .here | apply At.there)); done | repeat (first | exact .here | apply At.there)) (by rfl) ?_ | refine w_loadBR I (by rfl) (by first | (with_reducible repeat (first | exact .here | apply At.there)); done | repeat (first | exact .here | apply At.there)) (by rfl) ?_ | refine w_load0 I (by rfl) (by assumption) ?_) | ((with_reducible refine gstore ?_); (first | refine w_storeB I (by rfl) (by (conv => lhs; whnf) <;> rfl) (by first | (with_reducible repeat (first | exact .here | apply Upd.there)); done | repeat (first | exact .here | apply Upd.there)) (by rfl) (by rfl) (by simp only [List.set_cons_zero, List.set_cons_succ] <;> rfl) ?_ | refine w_storeBR I (by rfl) (by rfl) (by first | (with_reducible repeat (first | exact .here | apply Upd.there)); done | repeat (first | exact .here | apply Upd.there)) (by rfl) (by rfl) (by rfl) ?_); clear I; intro w I)) | (go_at_call 60; go_must (refine (octets_Done gw (Crt.raw c, 0) (by have := HL.out; dsimp only; omega) _ _ _ _ I .here).mono ?_; rintro _ w1 ⟨A1, m1, c1, rfl, S⟩; clear I; have I := S; clear S; rw [if_pos rfl] at I)) | (go_at_call 61; go_must (refine (check_Seal _ (Crt.raw c) _ (by rw [HL.out]; decide) (I.slv .here encB_len)).mono ?_; rintro _ w1 ⟨v2, rfl, ho, hf⟩; replace I := I.mkOwn hf ho; clear hf ho)))
        exact ret_2 rfl (by first | (exact ResV.t _ (by rfl)) | (exact ResV.row I (by rfl) (by first | (with_reducible repeat (first | exact .here | apply At.there)); done | repeat (first | exact .here | apply At.there)) (by rfl)) | (exact ResV.one I (by rfl) (by first | (with_reducible repeat (first | exact .here | apply At.there)); done | repeat (first | exact .here | apply At.there)))) (by first | (exact ResV.t _ (by rfl)) | (exact ResV.row I (by rfl) (by first | (with_reducible repeat (first | exact .here | apply At.there)); done | repeat (first | exact .here | apply At.there)) (by rfl)) | (exact ResV.one I (by rfl) (by first | (with_reducible repeat (first | exact .here | apply At.there)); done | repeat (first | exact .here | apply At.there)))) rfl ⟨_, rfl, I.pick .here⟩
/-- The array behind k rounds. -/
def Crt.cells (own : List UInt8) (k : Nat) : List Value := [.int .i64 (if 0 < k then Crt.at_ own 0 else 0), .int .i64 (if 1 < k then Crt.at_ own 1 else 0), .int .i64 (if 2 < k then Crt.at_ own 2 else 0), .int .i64 (if 3 < k then Crt.at_ own 3 else 0), .int .i64 (if 4 < k then Crt.at_ own 4 else 0), .int .i64 (if 5 < k then Crt.at_ own 5 else 0), .int .i64 (if 6 < k then Crt.at_ own 6 else 0), .int .i64 (if 7 < k then Crt.at_ own 7 else 0)]
set_option maxRecDepth 100000 in
set_option maxHeartbeats 2000000 in
theorem cert_Decode (v : Value) (b : List UInt8) (w0 : World) (h : Bytes w0 v b) (hb : b.length ≤ 1000) : Calls Try.prog 21 #[v] w0 fun e w' => e = .returned (.tuple #[aggC (Crt.decode b).1, .int .i64 (Crt.decode b).2]) ∧ Fr w0 w' := by
  have HV := Lib.hid h
  obtain ⟨A, _, c, rfl, rfl, hmc, hcm, _, _⟩ := h
  unfold maxLen at hcm
  have I := St.refl w0
  by_cases hl : b.length = 66
  · have hlb : ((b.length : Int) != 66) = false := by simp [hl]
    have hO := fun wx (hf : Fr w0 wx) => check_Open _ b wx (by omega) (HV.out.frF hf)
    cases hg : Crc.good b with
    | false =>
      have HE : Hid (Crt.decode b = (Crt.zero, 3)) := Lib.hid (by unfold Crt.decode; rw [if_neg (by simp [hl]), if_pos hg])
      rw [HE.out]
      simp only [hg, if_neg Bool.false_ne_true] at hO
      have HO := Lib.hid hO
      clear hO hg hl
      go_enter Try.func21, Try.ntmps21
      go_wp2_with (first | (first | ((with_reducible refine gguard ?_); (first | refine w_guardT (by rfl) (fun hb => ?_) (fun hb => ?_) | refine w_guardF (by rfl) (fun hb => ?_) (fun hb => ?_)) <;> first | (cases hb; done) | cases hb | ((try rw [hb]) <;> (try simp at hb) <;> go_prune <;> (try (with_reducible replace hb := eqPair hb)))) | (((with_reducible refine gbox ?_); first | refine w_boxA I (by rfl) ?_ | refine w_box1 I (by (conv => lhs; whnf) <;> rfl) (by rfl) ?_); clear I; intro g w I) | ((with_reducible refine galloc ?_); refine w_alloc I ?_; clear I; intro g w I) | ((with_reducible refine gload ?_); first | refine w_loadB I (by rfl) (by first | (with_reducible repeat (first | exact .here | apply At.there)); done | repeat (first | exact .here | apply At.there)) (by rfl) ?_ | refine w_loadBR I (by rfl) (by first | (with_reducible repeat (first | exact .here | apply At.there)); done | repeat (first | exact .here | apply At.there)) (by rfl) ?_ | refine w_load0 I (by rfl) (by assumption) ?_) | ((with_reducible refine gstore ?_); (first | refine w_storeB I (by rfl) (by (conv => lhs; whnf) <;> rfl) (by first | (with_reducible repeat (first | exact .here | apply Upd.there)); done | repeat (first | exact .here | apply Upd.there)) (by rfl) (by rfl) (by simp only [List.set_cons_zero, List.set_cons_succ] <;> rfl) ?_ | refine w_storeBR I (by rfl) (by rfl) (by first | (with_reducible repeat (first | exact .here | apply Upd.there)); done | repeat (first | exact .here | apply Upd.there)) (by rfl) (by rfl) (by rfl) ?_); clear I; intro w I)) | (go_at_call 64; go_must (refine (HO.out _ I.fr).mono ?_; rintro _ w1 ⟨v1, rfl, ho, hf⟩; replace I := I.still hf; clear hf ho)))
      exact ret_2 rfl (by first | (exact ResV.t _ (by rfl)) | (exact ResV.row I (by rfl) (by first | (with_reducible repeat (first | exact .here | apply At.there)); done | repeat (first | exact .here | apply At.there)) (by rfl)) | (exact ResV.one I (by rfl) (by first | (with_reducible repeat (first | exact .here | apply At.there)); done | repeat (first | exact .here | apply At.there)))) (by first | (exact ResV.t _ (by rfl)) | (exact ResV.row I (by rfl) (by first | (with_reducible repeat (first | exact .here | apply At.there)); done | repeat (first | exact .here | apply At.there)) (by rfl)) | (exact ResV.one I (by rfl) (by first | (with_reducible repeat (first | exact .here | apply At.there)); done | repeat (first | exact .here | apply At.there)))) rfl ⟨rfl, I.fr⟩
    | true =>
      simp only [hg, if_true] at hO
      have hown : Crc.body b = b.take 64 := by unfold Crc.body; rw [hl]
      simp only [hown] at hO
      have HO := Lib.hid hO
      have HD : Hid (Crt.decode b = if Crt.right (Crt.read (b.take 64)) = true then (Crt.read (b.take 64), 0) else (Crt.zero, 2)) := Lib.hid (by unfold Crt.decode; rw [if_neg (by simp [hl]), if_neg (by simp [hg]), Crt.read_take])
      have HOL : Hid ((b.take 64).length = 64) := Lib.hid (by rw [List.length_take, hl]; rfl)
      clear hO hg hown hl
      generalize b.take 64 = own at *
      have HI := Lib.hid (fun k hk => Crt.int_k own k (show 8 * k + 8 ≤ own.length by rw [HOL.out]; omega : 8 * k + 8 ≤ own.length))
      go_enter Try.func21, Try.ntmps21
      go_wp2_with (first | ((with_reducible refine galloc (ty := 38) ?_); refine w_alloc I ?_; clear I; intro g2 w I) | ((with_reducible refine galloc (ty := 103) ?_); refine w_alloc I ?_; clear I; intro ga w I) | (first | ((with_reducible refine gguard ?_); (first | refine w_guardT (by rfl) (fun hb => ?_) (fun hb => ?_) | refine w_guardF (by rfl) (fun hb => ?_) (fun hb => ?_)) <;> first | (cases hb; done) | cases hb | ((try rw [hb]) <;> (try simp at hb) <;> go_prune <;> (try (with_reducible replace hb := eqPair hb)))) | (((with_reducible refine gbox ?_); first | refine w_boxA I (by rfl) ?_ | refine w_box1 I (by (conv => lhs; whnf) <;> rfl) (by rfl) ?_); clear I; intro g w I) | ((with_reducible refine galloc ?_); refine w_alloc I ?_; clear I; intro g w I) | ((with_reducible refine gload ?_); first | refine w_loadB I (by rfl) (by first | (with_reducible repeat (first | exact .here | apply At.there)); done | repeat (first | exact .here | apply At.there)) (by rfl) ?_ | refine w_loadBR I (by rfl) (by first | (with_reducible repeat (first | exact .here | apply At.there)); done | repeat (first | exact .here | apply At.there)) (by rfl) ?_ | refine w_load0 I (by rfl) (by assumption) ?_) | ((with_reducible refine gstore ?_); (first | refine w_storeB I (by rfl) (by (conv => lhs; whnf) <;> rfl) (by first | (with_reducible repeat (first | exact .here | apply Upd.there)); done | repeat (first | exact .here | apply Upd.there)) (by rfl) (by rfl) (by simp only [List.set_cons_zero, List.set_cons_succ] <;> rfl) ?_ | refine w_storeBR I (by rfl) (by rfl) (by first | (with_reducible repeat (first | exact .here | apply Upd.there)); done | repeat (first | exact .here | apply Upd.there)) (by rfl) (by rfl) (by rfl) ?_); clear I; intro w I)) | (go_at_call 64; go_must (refine (HO.out _ I.fr).mono ?_; rintro _ w1 ⟨v1, rfl, ho, hf⟩; replace I := I.mkOwn hf ho; clear hf ho)) | (go_at_call 65; go_must (refine (octets_NewReader _ own (by rw [HOL.out]; decide) _ _ _ I (I.slv .here encB_len)).mono ?_; rintro _ w1 ⟨gr, rfl, S⟩; clear I; have I := S; clear S)))
      have I2 : St w0 w [Re gr (own.drop (8 * 0), 0), Blk ga (Crt.cells own 0) 103, Blk g2 (encC Crt.zero) 38] := (I.drop (.there (.there .here))).take (.there .here)
      clear I
      go_loopw [24] (fun i wr => ∃ k : Nat, i = .int .i64 k ∧ k ≤ 8 ∧ St w0 wr [Re gr (own.drop (8 * k), 0), Blk ga (Crt.cells own k) 103, Blk g2 (encC Crt.zero) 38]) (fun i _ => 8 - (intOf i).toNat)
      case atStart => exact ⟨0, rfl, by omega, I2⟩
      case round =>
        clear I2
        obtain ⟨k, rfl, hk, I⟩ := hrel
        rename World => wr
        have h8 : k = 0 ∨ k = 1 ∨ k = 2 ∨ k = 3 ∨ k = 4 ∨ k = 5 ∨ k = 6 ∨ k = 7 ∨ k = 8 := by omega
        rcases h8 with rfl | rfl | rfl | rfl | rfl | rfl | rfl | rfl | rfl
        · have HP := Lib.hid (HI.out 0 (by decide))
          have HL : Hid ((own.drop (8 * 0)).length ≤ 1000000) := Lib.hid (by rw [List.length_drop, HOL.out]; decide)
          generalize own.drop (8 * 0) = dk at *
          generalize hq : own.drop (8 * (0 + 1)) = dq at HP
          unfold Crt.cells at I
          go_wp2_with (first | (first | ((with_reducible refine gguard ?_); (first | refine w_guardT (by rfl) (fun hb => ?_) (fun hb => ?_) | refine w_guardF (by rfl) (fun hb => ?_) (fun hb => ?_)) <;> first | (cases hb; done) | cases hb | ((try rw [hb]) <;> (try simp at hb) <;> go_prune <;> (try (with_reducible replace hb := eqPair hb)))) | (((with_reducible refine gbox ?_); first | refine w_boxA I (by rfl) ?_ | refine w_box1 I (by (conv => lhs; whnf) <;> rfl) (by rfl) ?_); clear I; intro g w I) | ((with_reducible refine galloc ?_); refine w_alloc I ?_; clear I; intro g w I) | ((with_reducible refine gload ?_); first | refine w_loadB I (by rfl) (by first | (with_reducible repeat (first | exact .here | apply At.there)); done | repeat (first | exact .here | apply At.there)) (by rfl) ?_ | refine w_loadBR I (by rfl) (by first | (with_reducible repeat (first | exact .here | apply At.there)); done | repeat (first | exact .here | apply At.there)) (by rfl) ?_ | refine w_load0 I (by rfl) (by assumption) ?_) | ((with_reducible refine gstore ?_); (first | refine w_storeB I (by rfl) (by (conv => lhs; whnf) <;> rfl) (by first | (with_reducible repeat (first | exact .here | apply Upd.there)); done | repeat (first | exact .here | apply Upd.there)) (by rfl) (by rfl) (by simp only [List.set_cons_zero, List.set_cons_succ] <;> rfl) ?_ | refine w_storeBR I (by rfl) (by rfl) (by first | (with_reducible repeat (first | exact .here | apply Upd.there)); done | repeat (first | exact .here | apply Upd.there)) (by rfl) (by rfl) (by rfl) ?_); clear I; intro w I)) | (go_at_call 66; go_must (refine (octets_RInt gr (dk, 0) HL.out _ _ _ _ I .here).mono ?_; rintro _ w1 ⟨rfl, S⟩; clear I; have I := S; clear S; rw [HP.out] at I ⊢; dsimp only at I ⊢)))
          go_roundw
          case rel => exact ⟨0 + 1, rfl, by omega, by rw [hq]; exact I⟩
          case measure => simp [intOf]
        · have HP := Lib.hid (HI.out 1 (by decide))
          have HL : Hid ((own.drop (8 * 1)).length ≤ 1000000) := Lib.hid (by rw [List.length_drop, HOL.out]; decide)
          generalize own.drop (8 * 1) = dk at *
          generalize hq : own.drop (8 * (1 + 1)) = dq at HP
          unfold Crt.cells at I
          go_wp2_with (first | (first | ((with_reducible refine gguard ?_); (first | refine w_guardT (by rfl) (fun hb => ?_) (fun hb => ?_) | refine w_guardF (by rfl) (fun hb => ?_) (fun hb => ?_)) <;> first | (cases hb; done) | cases hb | ((try rw [hb]) <;> (try simp at hb) <;> go_prune <;> (try (with_reducible replace hb := eqPair hb)))) | (((with_reducible refine gbox ?_); first | refine w_boxA I (by rfl) ?_ | refine w_box1 I (by (conv => lhs; whnf) <;> rfl) (by rfl) ?_); clear I; intro g w I) | ((with_reducible refine galloc ?_); refine w_alloc I ?_; clear I; intro g w I) | ((with_reducible refine gload ?_); first | refine w_loadB I (by rfl) (by first | (with_reducible repeat (first | exact .here | apply At.there)); done | repeat (first | exact .here | apply At.there)) (by rfl) ?_ | refine w_loadBR I (by rfl) (by first | (with_reducible repeat (first | exact .here | apply At.there)); done | repeat (first | exact .here | apply At.there)) (by rfl) ?_ | refine w_load0 I (by rfl) (by assumption) ?_) | ((with_reducible refine gstore ?_); (first | refine w_storeB I (by rfl) (by (conv => lhs; whnf) <;> rfl) (by first | (with_reducible repeat (first | exact .here | apply Upd.there)); done | repeat (first | exact .here | apply Upd.there)) (by rfl) (by rfl) (by simp only [List.set_cons_zero, List.set_cons_succ] <;> rfl) ?_ | refine w_storeBR I (by rfl) (by rfl) (by first | (with_reducible repeat (first | exact .here | apply Upd.there)); done | repeat (first | exact .here | apply Upd.there)) (by rfl) (by rfl) (by rfl) ?_); clear I; intro w I)) | (go_at_call 66; go_must (refine (octets_RInt gr (dk, 0) HL.out _ _ _ _ I .here).mono ?_; rintro _ w1 ⟨rfl, S⟩; clear I; have I := S; clear S; rw [HP.out] at I ⊢; dsimp only at I ⊢)))
          go_roundw
          case rel => exact ⟨1 + 1, rfl, by omega, by rw [hq]; exact I⟩
          case measure => simp [intOf]
        · have HP := Lib.hid (HI.out 2 (by decide))
          have HL : Hid ((own.drop (8 * 2)).length ≤ 1000000) := Lib.hid (by rw [List.length_drop, HOL.out]; decide)
          generalize own.drop (8 * 2) = dk at *
          generalize hq : own.drop (8 * (2 + 1)) = dq at HP
          unfold Crt.cells at I
          go_wp2_with (first | (first | ((with_reducible refine gguard ?_); (first | refine w_guardT (by rfl) (fun hb => ?_) (fun hb => ?_) | refine w_guardF (by rfl) (fun hb => ?_) (fun hb => ?_)) <;> first | (cases hb; done) | cases hb | ((try rw [hb]) <;> (try simp at hb) <;> go_prune <;> (try (with_reducible replace hb := eqPair hb)))) | (((with_reducible refine gbox ?_); first | refine w_boxA I (by rfl) ?_ | refine w_box1 I (by (conv => lhs; whnf) <;> rfl) (by rfl) ?_); clear I; intro g w I) | ((with_reducible refine galloc ?_); refine w_alloc I ?_; clear I; intro g w I) | ((with_reducible refine gload ?_); first | refine w_loadB I (by rfl) (by first | (with_reducible repeat (first | exact .here | apply At.there)); done | repeat (first | exact .here | apply At.there)) (by rfl) ?_ | refine w_loadBR I (by rfl) (by first | (with_reducible repeat (first | exact .here | apply At.there)); done | repeat (first | exact .here | apply At.there)) (by rfl) ?_ | refine w_load0 I (by rfl) (by assumption) ?_) | ((with_reducible refine gstore ?_); (first | refine w_storeB I (by rfl) (by (conv => lhs; whnf) <;> rfl) (by first | (with_reducible repeat (first | exact .here | apply Upd.there)); done | repeat (first | exact .here | apply Upd.there)) (by rfl) (by rfl) (by simp only [List.set_cons_zero, List.set_cons_succ] <;> rfl) ?_ | refine w_storeBR I (by rfl) (by rfl) (by first | (with_reducible repeat (first | exact .here | apply Upd.there)); done | repeat (first | exact .here | apply Upd.there)) (by rfl) (by rfl) (by rfl) ?_); clear I; intro w I)) | (go_at_call 66; go_must (refine (octets_RInt gr (dk, 0) HL.out _ _ _ _ I .here).mono ?_; rintro _ w1 ⟨rfl, S⟩; clear I; have I := S; clear S; rw [HP.out] at I ⊢; dsimp only at I ⊢)))
          go_roundw
          case rel => exact ⟨2 + 1, rfl, by omega, by rw [hq]; exact I⟩
          case measure => simp [intOf]
        · have HP := Lib.hid (HI.out 3 (by decide))
          have HL : Hid ((own.drop (8 * 3)).length ≤ 1000000) := Lib.hid (by rw [List.length_drop, HOL.out]; decide)
          generalize own.drop (8 * 3) = dk at *
          generalize hq : own.drop (8 * (3 + 1)) = dq at HP
          unfold Crt.cells at I
          go_wp2_with (first | (first | ((with_reducible refine gguard ?_); (first | refine w_guardT (by rfl) (fun hb => ?_) (fun hb => ?_) | refine w_guardF (by rfl) (fun hb => ?_) (fun hb => ?_)) <;> first | (cases hb; done) | cases hb | ((try rw [hb]) <;> (try simp at hb) <;> go_prune <;> (try (with_reducible replace hb := eqPair hb)))) | (((with_reducible refine gbox ?_); first | refine w_boxA I (by rfl) ?_ | refine w_box1 I (by (conv => lhs; whnf) <;> rfl) (by rfl) ?_); clear I; intro g w I) | ((with_reducible refine galloc ?_); refine w_alloc I ?_; clear I; intro g w I) | ((with_reducible refine gload ?_); first | refine w_loadB I (by rfl) (by first | (with_reducible repeat (first | exact .here | apply At.there)); done | repeat (first | exact .here | apply At.there)) (by rfl) ?_ | refine w_loadBR I (by rfl) (by first | (with_reducible repeat (first | exact .here | apply At.there)); done | repeat (first | exact .here | apply At.there)) (by rfl) ?_ | refine w_load0 I (by rfl) (by assumption) ?_) | ((with_reducible refine gstore ?_); (first | refine w_storeB I (by rfl) (by (conv => lhs; whnf) <;> rfl) (by first | (with_reducible repeat (first | exact .here | apply Upd.there)); done | repeat (first | exact .here | apply Upd.there)) (by rfl) (by rfl) (by simp only [List.set_cons_zero, List.set_cons_succ] <;> rfl) ?_ | refine w_storeBR I (by rfl) (by rfl) (by first | (with_reducible repeat (first | exact .here | apply Upd.there)); done | repeat (first | exact .here | apply Upd.there)) (by rfl) (by rfl) (by rfl) ?_); clear I; intro w I)) | (go_at_call 66; go_must (refine (octets_RInt gr (dk, 0) HL.out _ _ _ _ I .here).mono ?_; rintro _ w1 ⟨rfl, S⟩; clear I; have I := S; clear S; rw [HP.out] at I ⊢; dsimp only at I ⊢)))
          go_roundw
          case rel => exact ⟨3 + 1, rfl, by omega, by rw [hq]; exact I⟩
          case measure => simp [intOf]
        · have HP := Lib.hid (HI.out 4 (by decide))
          have HL : Hid ((own.drop (8 * 4)).length ≤ 1000000) := Lib.hid (by rw [List.length_drop, HOL.out]; decide)
          generalize own.drop (8 * 4) = dk at *
          generalize hq : own.drop (8 * (4 + 1)) = dq at HP
          unfold Crt.cells at I
          go_wp2_with (first | (first | ((with_reducible refine gguard ?_); (first | refine w_guardT (by rfl) (fun hb => ?_) (fun hb => ?_) | refine w_guardF (by rfl) (fun hb => ?_) (fun hb => ?_)) <;> first | (cases hb; done) | cases hb | ((try rw [hb]) <;> (try simp at hb) <;> go_prune <;> (try (with_reducible replace hb := eqPair hb)))) | (((with_reducible refine gbox ?_); first | refine w_boxA I (by rfl) ?_ | refine w_box1 I (by (conv => lhs; whnf) <;> rfl) (by rfl) ?_); clear I; intro g w I) | ((with_reducible refine galloc ?_); refine w_alloc I ?_; clear I; intro g w I) | ((with_reducible refine gload ?_); first | refine w_loadB I (by rfl) (by first | (with_reducible repeat (first | exact .here | apply At.there)); done | repeat (first | exact .here | apply At.there)) (by rfl) ?_ | refine w_loadBR I (by rfl) (by first | (with_reducible repeat (first | exact .here | apply At.there)); done | repeat (first | exact .here | apply At.there)) (by rfl) ?_ | refine w_load0 I (by rfl) (by assumption) ?_) | ((with_reducible refine gstore ?_); (first | refine w_storeB I (by rfl) (by (conv => lhs; whnf) <;> rfl) (by first | (with_reducible repeat (first | exact .here | apply Upd.there)); done | repeat (first | exact .here | apply Upd.there)) (by rfl) (by rfl) (by simp only [List.set_cons_zero, List.set_cons_succ] <;> rfl) ?_ | refine w_storeBR I (by rfl) (by rfl) (by first | (with_reducible repeat (first | exact .here | apply Upd.there)); done | repeat (first | exact .here | apply Upd.there)) (by rfl) (by rfl) (by rfl) ?_); clear I; intro w I)) | (go_at_call 66; go_must (refine (octets_RInt gr (dk, 0) HL.out _ _ _ _ I .here).mono ?_; rintro _ w1 ⟨rfl, S⟩; clear I; have I := S; clear S; rw [HP.out] at I ⊢; dsimp only at I ⊢)))
          go_roundw
          case rel => exact ⟨4 + 1, rfl, by omega, by rw [hq]; exact I⟩
          case measure => simp [intOf]
        · have HP := Lib.hid (HI.out 5 (by decide))
          have HL : Hid ((own.drop (8 * 5)).length ≤ 1000000) := Lib.hid (by rw [List.length_drop, HOL.out]; decide)
          generalize own.drop (8 * 5) = dk at *
          generalize hq : own.drop (8 * (5 + 1)) = dq at HP
          unfold Crt.cells at I
          go_wp2_with (first | (first | ((with_reducible refine gguard ?_); (first | refine w_guardT (by rfl) (fun hb => ?_) (fun hb => ?_) | refine w_guardF (by rfl) (fun hb => ?_) (fun hb => ?_)) <;> first | (cases hb; done) | cases hb | ((try rw [hb]) <;> (try simp at hb) <;> go_prune <;> (try (with_reducible replace hb := eqPair hb)))) | (((with_reducible refine gbox ?_); first | refine w_boxA I (by rfl) ?_ | refine w_box1 I (by (conv => lhs; whnf) <;> rfl) (by rfl) ?_); clear I; intro g w I) | ((with_reducible refine galloc ?_); refine w_alloc I ?_; clear I; intro g w I) | ((with_reducible refine gload ?_); first | refine w_loadB I (by rfl) (by first | (with_reducible repeat (first | exact .here | apply At.there)); done | repeat (first | exact .here | apply At.there)) (by rfl) ?_ | refine w_loadBR I (by rfl) (by first | (with_reducible repeat (first | exact .here | apply At.there)); done | repeat (first | exact .here | apply At.there)) (by rfl) ?_ | refine w_load0 I (by rfl) (by assumption) ?_) | ((with_reducible refine gstore ?_); (first | refine w_storeB I (by rfl) (by (conv => lhs; whnf) <;> rfl) (by first | (with_reducible repeat (first | exact .here | apply Upd.there)); done | repeat (first | exact .here | apply Upd.there)) (by rfl) (by rfl) (by simp only [List.set_cons_zero, List.set_cons_succ] <;> rfl) ?_ | refine w_storeBR I (by rfl) (by rfl) (by first | (with_reducible repeat (first | exact .here | apply Upd.there)); done | repeat (first | exact .here | apply Upd.there)) (by rfl) (by rfl) (by rfl) ?_); clear I; intro w I)) | (go_at_call 66; go_must (refine (octets_RInt gr (dk, 0) HL.out _ _ _ _ I .here).mono ?_; rintro _ w1 ⟨rfl, S⟩; clear I; have I := S; clear S; rw [HP.out] at I ⊢; dsimp only at I ⊢)))
          go_roundw
          case rel => exact ⟨5 + 1, rfl, by omega, by rw [hq]; exact I⟩
          case measure => simp [intOf]
        · have HP := Lib.hid (HI.out 6 (by decide))
          have HL : Hid ((own.drop (8 * 6)).length ≤ 1000000) := Lib.hid (by rw [List.length_drop, HOL.out]; decide)
          generalize own.drop (8 * 6) = dk at *
          generalize hq : own.drop (8 * (6 + 1)) = dq at HP
          unfold Crt.cells at I
          go_wp2_with (first | (first | ((with_reducible refine gguard ?_); (first | refine w_guardT (by rfl) (fun hb => ?_) (fun hb => ?_) | refine w_guardF (by rfl) (fun hb => ?_) (fun hb => ?_)) <;> first | (cases hb; done) | cases hb | ((try rw [hb]) <;> (try simp at hb) <;> go_prune <;> (try (with_reducible replace hb := eqPair hb)))) | (((with_reducible refine gbox ?_); first | refine w_boxA I (by rfl) ?_ | refine w_box1 I (by (conv => lhs; whnf) <;> rfl) (by rfl) ?_); clear I; intro g w I) | ((with_reducible refine galloc ?_); refine w_alloc I ?_; clear I; intro g w I) | ((with_reducible refine gload ?_); first | refine w_loadB I (by rfl) (by first | (with_reducible repeat (first | exact .here | apply At.there)); done | repeat (first | exact .here | apply At.there)) (by rfl) ?_ | refine w_loadBR I (by rfl) (by first | (with_reducible repeat (first | exact .here | apply At.there)); done | repeat (first | exact .here | apply At.there)) (by rfl) ?_ | refine w_load0 I (by rfl) (by assumption) ?_) | ((with_reducible refine gstore ?_); (first | refine w_storeB I (by rfl) (by (conv => lhs; whnf) <;> rfl) (by first | (with_reducible repeat (first | exact .here | apply Upd.there)); done | repeat (first | exact .here | apply Upd.there)) (by rfl) (by rfl) (by simp only [List.set_cons_zero, List.set_cons_succ] <;> rfl) ?_ | refine w_storeBR I (by rfl) (by rfl) (by first | (with_reducible repeat (first | exact .here | apply Upd.there)); done | repeat (first | exact .here | apply Upd.there)) (by rfl) (by rfl) (by rfl) ?_); clear I; intro w I)) | (go_at_call 66; go_must (refine (octets_RInt gr (dk, 0) HL.out _ _ _ _ I .here).mono ?_; rintro _ w1 ⟨rfl, S⟩; clear I; have I := S; clear S; rw [HP.out] at I ⊢; dsimp only at I ⊢)))
          go_roundw
          case rel => exact ⟨6 + 1, rfl, by omega, by rw [hq]; exact I⟩
          case measure => simp [intOf]
        · have HP := Lib.hid (HI.out 7 (by decide))
          have HL : Hid ((own.drop (8 * 7)).length ≤ 1000000) := Lib.hid (by rw [List.length_drop, HOL.out]; decide)
          generalize own.drop (8 * 7) = dk at *
          generalize hq : own.drop (8 * (7 + 1)) = dq at HP
          unfold Crt.cells at I
          go_wp2_with (first | (first | ((with_reducible refine gguard ?_); (first | refine w_guardT (by rfl) (fun hb => ?_) (fun hb => ?_) | refine w_guardF (by rfl) (fun hb => ?_) (fun hb => ?_)) <;> first | (cases hb; done) | cases hb | ((try rw [hb]) <;> (try simp at hb) <;> go_prune <;> (try (with_reducible replace hb := eqPair hb)))) | (((with_reducible refine gbox ?_); first | refine w_boxA I (by rfl) ?_ | refine w_box1 I (by (conv => lhs; whnf) <;> rfl) (by rfl) ?_); clear I; intro g w I) | ((with_reducible refine galloc ?_); refine w_alloc I ?_; clear I; intro g w I) | ((with_reducible refine gload ?_); first | refine w_loadB I (by rfl) (by first | (with_reducible repeat (first | exact .here | apply At.there)); done | repeat (first | exact .here | apply At.there)) (by rfl) ?_ | refine w_loadBR I (by rfl) (by first | (with_reducible repeat (first | exact .here | apply At.there)); done | repeat (first | exact .here | apply At.there)) (by rfl) ?_ | refine w_load0 I (by rfl) (by assumption) ?_) | ((with_reducible refine gstore ?_); (first | refine w_storeB I (by rfl) (by (conv => lhs; whnf) <;> rfl) (by first | (with_reducible repeat (first | exact .here | apply Upd.there)); done | repeat (first | exact .here | apply Upd.there)) (by rfl) (by rfl) (by simp only [List.set_cons_zero, List.set_cons_succ] <;> rfl) ?_ | refine w_storeBR I (by rfl) (by rfl) (by first | (with_reducible repeat (first | exact .here | apply Upd.there)); done | repeat (first | exact .here | apply Upd.there)) (by rfl) (by rfl) (by rfl) ?_); clear I; intro w I)) | (go_at_call 66; go_must (refine (octets_RInt gr (dk, 0) HL.out _ _ _ _ I .here).mono ?_; rintro _ w1 ⟨rfl, S⟩; clear I; have I := S; clear S; rw [HP.out] at I ⊢; dsimp only at I ⊢)))
          go_roundw
          case rel => exact ⟨7 + 1, rfl, by omega, by rw [hq]; exact I⟩
          case measure => simp [intOf]
        · rw [List.drop_eq_nil_of_le (by rw [HOL.out]; decide)] at I
          replace I : St w0 wr [Re gr ([], 0), Blk ga (encC (Crt.read own)) 103, Blk g2 (encC Crt.zero) 38] := I
          cases hr : Crt.right (Crt.read own) with
          | false =>
            have HR := Lib.hid hr
            have HF := Lib.hid (HD.out.trans (if_neg (by rw [hr]; simp)))
            clear hr
            go_wp2_with (first | (first | ((with_reducible refine gguard ?_); (first | refine w_guardT (by rfl) (fun hb => ?_) (fun hb => ?_) | refine w_guardF (by rfl) (fun hb => ?_) (fun hb => ?_)) <;> first | (cases hb; done) | cases hb | ((try rw [hb]) <;> (try simp at hb) <;> go_prune <;> (try (with_reducible replace hb := eqPair hb)))) | (((with_reducible refine gbox ?_); first | refine w_boxA I (by rfl) ?_ | refine w_box1 I (by (conv => lhs; whnf) <;> rfl) (by rfl) ?_); clear I; intro g w I) | ((with_reducible refine galloc ?_); refine w_alloc I ?_; clear I; intro g w I) | ((with_reducible refine gload ?_); first | refine w_loadB I (by rfl) (by first | (with_reducible repeat (first | exact .here | apply At.there)); done | repeat (first | exact .here | apply At.there)) (by rfl) ?_ | refine w_loadBR I (by rfl) (by first | (with_reducible repeat (first | exact .here | apply At.there)); done | repeat (first | exact .here | apply At.there)) (by rfl) ?_ | refine w_load0 I (by rfl) (by assumption) ?_) | ((with_reducible refine gstore ?_); (first | refine w_storeB I (by rfl) (by (conv => lhs; whnf) <;> rfl) (by first | (with_reducible repeat (first | exact .here | apply Upd.there)); done | repeat (first | exact .here | apply Upd.there)) (by rfl) (by rfl) (by simp only [List.set_cons_zero, List.set_cons_succ] <;> rfl) ?_ | refine w_storeBR I (by rfl) (by rfl) (by first | (with_reducible repeat (first | exact .here | apply Upd.there)); done | repeat (first | exact .here | apply Upd.there)) (by rfl) (by rfl) (by rfl) ?_); clear I; intro w I)) | (go_at_call 67; go_must (refine (cert_of (Crt.read own) _).mono ?_; rintro _ w1 ⟨rfl, hf⟩; replace I := I.still hf; clear hf)) | (go_at_call 68; go_must (refine (octets_RDone gr ([], 0) _ _ _ _ I (by first | (with_reducible repeat (first | exact .here | apply At.there)); done | repeat (first | exact .here | apply At.there))).mono ?_; rintro _ w1 ⟨rfl, rfl⟩; rw [show Oct.done ([], 0) = 0 from rfl])) | (go_at_call 24; go_must (refine (cert_Right (Crt.read own) _).mono ?_; rintro _ w1 ⟨rfl, hf⟩; rw [HR.out]; replace I := I.still hf; clear hf)))
            exact ret_2 rfl (by first | (exact ResV.t _ (by rfl)) | (exact ResV.row I (by rfl) (by first | (with_reducible repeat (first | exact .here | apply At.there)); done | repeat (first | exact .here | apply At.there)) (by rfl)) | (exact ResV.one I (by rfl) (by first | (with_reducible repeat (first | exact .here | apply At.there)); done | repeat (first | exact .here | apply At.there)))) (by first | (exact ResV.t _ (by rfl)) | (exact ResV.row I (by rfl) (by first | (with_reducible repeat (first | exact .here | apply At.there)); done | repeat (first | exact .here | apply At.there)) (by rfl)) | (exact ResV.one I (by rfl) (by first | (with_reducible repeat (first | exact .here | apply At.there)); done | repeat (first | exact .here | apply At.there)))) rfl ⟨by rw [HF.out]; rfl, I.fr⟩
          | true =>
            have HR := Lib.hid hr
            have HF := Lib.hid (HD.out.trans (if_pos hr))
            clear hr
            go_wp2_with (first | (first | ((with_reducible refine gguard ?_); (first | refine w_guardT (by rfl) (fun hb => ?_) (fun hb => ?_) | refine w_guardF (by rfl) (fun hb => ?_) (fun hb => ?_)) <;> first | (cases hb; done) | cases hb | ((try rw [hb]) <;> (try simp at hb) <;> go_prune <;> (try (with_reducible replace hb := eqPair hb)))) | (((with_reducible refine gbox ?_); first | refine w_boxA I (by rfl) ?_ | refine w_box1 I (by (conv => lhs; whnf) <;> rfl) (by rfl) ?_); clear I; intro g w I) | ((with_reducible refine galloc ?_); refine w_alloc I ?_; clear I; intro g w I) | ((with_reducible refine gload ?_); first | refine w_loadB I (by rfl) (by first | (with_reducible repeat (first | exact .here | apply At.there)); done | repeat (first | exact .here | apply At.there)) (by rfl) ?_ | refine w_loadBR I (by rfl) (by first | (with_reducible repeat (first | exact .here | apply At.there)); done | repeat (first | exact .here | apply At.there)) (by rfl) ?_ | refine w_load0 I (by rfl) (by assumption) ?_) | ((with_reducible refine gstore ?_); (first | refine w_storeB I (by rfl) (by (conv => lhs; whnf) <;> rfl) (by first | (with_reducible repeat (first | exact .here | apply Upd.there)); done | repeat (first | exact .here | apply Upd.there)) (by rfl) (by rfl) (by simp only [List.set_cons_zero, List.set_cons_succ] <;> rfl) ?_ | refine w_storeBR I (by rfl) (by rfl) (by first | (with_reducible repeat (first | exact .here | apply Upd.there)); done | repeat (first | exact .here | apply Upd.there)) (by rfl) (by rfl) (by rfl) ?_); clear I; intro w I)) | (go_at_call 67; go_must (refine (cert_of (Crt.read own) _).mono ?_; rintro _ w1 ⟨rfl, hf⟩; replace I := I.still hf; clear hf)) | (go_at_call 68; go_must (refine (octets_RDone gr ([], 0) _ _ _ _ I (by first | (with_reducible repeat (first | exact .here | apply At.there)); done | repeat (first | exact .here | apply At.there))).mono ?_; rintro _ w1 ⟨rfl, rfl⟩; rw [show Oct.done ([], 0) = 0 from rfl])) | (go_at_call 24; go_must (refine (cert_Right (Crt.read own) _).mono ?_; rintro _ w1 ⟨rfl, hf⟩; rw [HR.out]; replace I := I.still hf; clear hf)))
            exact ret_2 rfl (by first | (exact ResV.t _ (by rfl)) | (exact ResV.row I (by rfl) (by first | (with_reducible repeat (first | exact .here | apply At.there)); done | repeat (first | exact .here | apply At.there)) (by rfl)) | (exact ResV.one I (by rfl) (by first | (with_reducible repeat (first | exact .here | apply At.there)); done | repeat (first | exact .here | apply At.there)))) (by first | (exact ResV.t _ (by rfl)) | (exact ResV.row I (by rfl) (by first | (with_reducible repeat (first | exact .here | apply At.there)); done | repeat (first | exact .here | apply At.there)) (by rfl)) | (exact ResV.one I (by rfl) (by first | (with_reducible repeat (first | exact .here | apply At.there)); done | repeat (first | exact .here | apply At.there)))) rfl ⟨by rw [HF.out]; rfl, I.fr⟩
  · have hlb : ((b.length : Int) != 66) = true := by simp; omega
    have HE : Hid (Crt.decode b = (Crt.zero, 2)) := Lib.hid (by unfold Crt.decode; rw [if_pos hl])
    rw [HE.out]
    go_enter Try.func21, Try.ntmps21
    go_wp2_with (first | ((with_reducible refine gguard ?_); (first | refine w_guardT (by rfl) (fun hb => ?_) (fun hb => ?_) | refine w_guardF (by rfl) (fun hb => ?_) (fun hb => ?_)) <;> first | (cases hb; done) | cases hb | ((try rw [hb]) <;> (try simp at hb) <;> go_prune <;> (try (with_reducible replace hb := eqPair hb)))) | (((with_reducible refine gbox ?_); first | refine w_boxA I (by rfl) ?_ | refine w_box1 I (by (conv => lhs; whnf) <;> rfl) (by rfl) ?_); clear I; intro g w I) | ((with_reducible refine galloc ?_); refine w_alloc I ?_; clear I; intro g w I) | ((with_reducible refine gload ?_); first | refine w_loadB I (by rfl) (by first | (with_reducible repeat (first | exact .here | apply At.there)); done | repeat (first | exact .here | apply At.there)) (by rfl) ?_ | refine w_loadBR I (by rfl) (by first | (with_reducible repeat (first | exact .here | apply At.there)); done | repeat (first | exact .here | apply At.there)) (by rfl) ?_ | refine w_load0 I (by rfl) (by assumption) ?_) | ((with_reducible refine gstore ?_); (first | refine w_storeB I (by rfl) (by (conv => lhs; whnf) <;> rfl) (by first | (with_reducible repeat (first | exact .here | apply Upd.there)); done | repeat (first | exact .here | apply Upd.there)) (by rfl) (by rfl) (by simp only [List.set_cons_zero, List.set_cons_succ] <;> rfl) ?_ | refine w_storeBR I (by rfl) (by rfl) (by first | (with_reducible repeat (first | exact .here | apply Upd.there)); done | repeat (first | exact .here | apply Upd.there)) (by rfl) (by rfl) (by rfl) ?_); clear I; intro w I))
    exact ret_2 rfl (by first | (exact ResV.t _ (by rfl)) | (exact ResV.row I (by rfl) (by first | (with_reducible repeat (first | exact .here | apply At.there)); done | repeat (first | exact .here | apply At.there)) (by rfl)) | (exact ResV.one I (by rfl) (by first | (with_reducible repeat (first | exact .here | apply At.there)); done | repeat (first | exact .here | apply At.there)))) (by first | (exact ResV.t _ (by rfl)) | (exact ResV.row I (by rfl) (by first | (with_reducible repeat (first | exact .here | apply At.there)); done | repeat (first | exact .here | apply At.there)) (by rfl)) | (exact ResV.one I (by rfl) (by first | (with_reducible repeat (first | exact .here | apply At.there)); done | repeat (first | exact .here | apply At.there)))) rfl ⟨rfl, I.fr⟩
end Go.Proofs.Ytpnpgeilhafepaa
