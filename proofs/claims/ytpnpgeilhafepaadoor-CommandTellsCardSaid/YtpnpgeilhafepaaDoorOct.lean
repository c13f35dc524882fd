
/- Octets (layer 4): the writer, and the reference's. -/
import Derived.Test.YtpnpgeilhafepaaDoorTypes
import Derived.Test.YtpnpgeilhafepaaDoorCheck
import Derived.Test.YtpnpgeilhafepaaDoorOctP
import Derived.Deep.RegionLaw
import Derived.Deep.CutBlock
import Derived.Deep.RegionHeld3
namespace Go.Proofs.YtpnpgeilhafepaaDoor
open Go.RowKit Go.Hf

theorem octets_fails (g : Nat) (e0 e : Int) (v : Value) (t : TypeId) (w0 w : World) (L R : List Asr) (I : St w0 w L) (hA : At (Blk g [v, .int .i64 e0] t) L R) :
    Calls Tryd.prog 51 #[.pointer (some ⟨g, 0, none⟩), .int .i64 e] w fun en w' => en = .returned (.tuple #[]) ∧ St w0 w' (Blk g [v, .int .i64 (if e0 = 0 then e else e0)] t :: R) := by
  replace I := I.take hA
  clear hA
  by_cases h : e0 = 0
  · rw [if_pos h]
    have hb : (e0 == 0) = true := by simp [h]
    clear h
    go_enter Tryd.func51, Tryd.ntmps51
    go_wp2_with (first | ((with_reducible refine gguard ?_); (first | refine w_guardT (by rfl) (fun hb => ?_) (fun hb => ?_) | refine w_guardF (by rfl) (fun hb => ?_) (fun hb => ?_)) <;> first | (cases hb; done) | cases hb | ((try rw [hb]) <;> (try simp at hb) <;> go_prune <;> (try (with_reducible replace hb := eqPair hb)))) | (((with_reducible refine gbox ?_); first | refine w_boxA I (by rfl) ?_ | refine w_box1 I (by (conv => lhs; whnf) <;> rfl) (by rfl) ?_); clear I; intro g w I) | ((with_reducible refine galloc ?_); refine w_alloc I ?_; clear I; intro g w I) | ((with_reducible refine gload ?_); first | refine w_loadB I (by rfl) (by first | (with_reducible repeat (first | exact .here | apply At.there)); done | repeat (first | exact .here | apply At.there)) (by rfl) ?_ | refine w_loadBR I (by rfl) (by first | (with_reducible repeat (first | exact .here | apply At.there)); done | repeat (first | exact .here | apply At.there)) (by rfl) ?_ | refine w_load0 I (by rfl) (by assumption) ?_) | ((with_reducible refine gstore ?_); (first | refine w_storeB I (by rfl) (by (conv => lhs; whnf) <;> rfl) (by first | (with_reducible repeat (first | exact .here | apply Upd.there)); done | repeat (first | exact .here | apply Upd.there)) (by rfl) (by rfl) (by simp only [List.set_cons_zero, List.set_cons_succ] <;> rfl) ?_ | refine w_storeBR I (by rfl) (by rfl) (by first | (with_reducible repeat (first | exact .here | apply Upd.there)); done | repeat (first | exact .here | apply Upd.there)) (by rfl) (by rfl) (by rfl) ?_); clear I; intro w I))
    go_end0
    exact ⟨rfl, I⟩
  · rw [if_neg h]
    have hb : (e0 == 0) = false := by simp [h]
    clear h
    go_enter Tryd.func51, Tryd.ntmps51
    go_wp2_with (first | ((with_reducible refine gguard ?_); (first | refine w_guardT (by rfl) (fun hb => ?_) (fun hb => ?_) | refine w_guardF (by rfl) (fun hb => ?_) (fun hb => ?_)) <;> first | (cases hb; done) | cases hb | ((try rw [hb]) <;> (try simp at hb) <;> go_prune <;> (try (with_reducible replace hb := eqPair hb)))) | (((with_reducible refine gbox ?_); first | refine w_boxA I (by rfl) ?_ | refine w_box1 I (by (conv => lhs; whnf) <;> rfl) (by rfl) ?_); clear I; intro g w I) | ((with_reducible refine galloc ?_); refine w_alloc I ?_; clear I; intro g w I) | ((with_reducible refine gload ?_); first | refine w_loadB I (by rfl) (by first | (with_reducible repeat (first | exact .here | apply At.there)); done | repeat (first | exact .here | apply At.there)) (by rfl) ?_ | refine w_loadBR I (by rfl) (by first | (with_reducible repeat (first | exact .here | apply At.there)); done | repeat (first | exact .here | apply At.there)) (by rfl) ?_ | refine w_load0 I (by rfl) (by assumption) ?_) | ((with_reducible refine gstore ?_); (first | refine w_storeB I (by rfl) (by (conv => lhs; whnf) <;> rfl) (by first | (with_reducible repeat (first | exact .here | apply Upd.there)); done | repeat (first | exact .here | apply Upd.there)) (by rfl) (by rfl) (by simp only [List.set_cons_zero, List.set_cons_succ] <;> rfl) ?_ | refine w_storeBR I (by rfl) (by rfl) (by first | (with_reducible repeat (first | exact .here | apply Upd.there)); done | repeat (first | exact .here | apply Upd.there)) (by rfl) (by rfl) (by rfl) ?_); clear I; intro w I))
    go_end0
    exact ⟨rfl, I⟩

/-- A writer: what it has written, and its error. -/
def Wr (g : Nat) (s : List UInt8 × Int) : Asr := ExS fun v => AllS [Blk g [v, .int .i64 s.2] 72, OwnS 5 1 encB v s.1]
theorem Wr.open {g : Nat} {s : List UInt8 × Int} {w0 w : World} {L R : List Asr} (I : St w0 w L) (hA : At (Wr g s) L R) : ∃ v, St w0 w (Blk g [v, .int .i64 s.2] 72 :: OwnS 5 1 encB v s.1 :: R) := by
  obtain ⟨v, I⟩ := (I.take hA).ex
  exact ⟨v, I.all⟩
theorem Wr.mk {g : Nat} {b : List UInt8} {e : Int} {v : Value} {w0 w : World} {L R1 R : List Asr} (I : St w0 w L) (h1 : At (OwnS 5 1 encB v b) L R1) (h2 : At (Blk g [v, .int .i64 e] 72) R1 R) : St w0 w (Wr g (b, e) :: R) :=
  St.mkEx v (St.mkAll (M := [_, _]) ((((I.take h1).take (.there h2)))))

theorem octets_NewWriter (w0 w : World) (L : List Asr) (I : St w0 w L) : Calls Tryd.prog 30 #[] w fun en w' => ∃ g, en = .returned (.pointer (some ⟨g, 0, none⟩)) ∧ St w0 w' (Wr g ([], 0) :: L) := by
  go_enter Tryd.func30, Tryd.ntmps30
  go_wp2_with (first | ((with_reducible refine gguard ?_); (first | refine w_guardT (by rfl) (fun hb => ?_) (fun hb => ?_) | refine w_guardF (by rfl) (fun hb => ?_) (fun hb => ?_)) <;> first | (cases hb; done) | cases hb | ((try rw [hb]) <;> (try simp at hb) <;> go_prune <;> (try (with_reducible replace hb := eqPair hb)))) | (((with_reducible refine gbox ?_); first | refine w_boxA I (by rfl) ?_ | refine w_box1 I (by (conv => lhs; whnf) <;> rfl) (by rfl) ?_); clear I; intro g w I) | ((with_reducible refine galloc ?_); refine w_alloc I ?_; clear I; intro g w I) | ((with_reducible refine gload ?_); first | refine w_loadB I (by rfl) (by first | (with_reducible repeat (first | exact .here | apply At.there)); done | repeat (first | exact .here | apply At.there)) (by rfl) ?_ | refine w_loadBR I (by rfl) (by first | (with_reducible repeat (first | exact .here | apply At.there)); done | repeat (first | exact .here | apply At.there)) (by rfl) ?_ | refine w_load0 I (by rfl) (by assumption) ?_) | ((with_reducible refine gstore ?_); (first | refine w_storeB I (by rfl) (by (conv => lhs; whnf) <;> rfl) (by first | (with_reducible repeat (first | exact .here | apply Upd.there)); done | repeat (first | exact .here | apply Upd.there)) (by rfl) (by rfl) (by simp only [List.set_cons_zero, List.set_cons_succ] <;> rfl) ?_ | refine w_storeBR I (by rfl) (by rfl) (by first | (with_reducible repeat (first | exact .here | apply Upd.there)); done | repeat (first | exact .here | apply Upd.there)) (by rfl) (by rfl) (by rfl) ?_); clear I; intro w I))
  go_ret
  exact ⟨_, rfl, Wr.mk (I.nilOwn 5 1 encB) (by first | (with_reducible repeat (first | exact .here | apply At.there)); done | repeat (first | exact .here | apply At.there)) (by first | (with_reducible repeat (first | exact .here | apply At.there)); done | repeat (first | exact .here | apply At.there))⟩

theorem octets_Num_no (g : Nat) (s : List UInt8 × Int) (n : Nat) (size : Int) (hn : n < 18446744073709551616) (he : s.2 ≠ 0) (w0 w : World) (L R : List Asr) (I : St w0 w L) (hA : At (Wr g s) L R) :
    Calls Tryd.prog 31 #[.pointer (some ⟨g, 0, none⟩), .int .u64 n, .int .i64 size] w fun en w' => en = .returned (.tuple #[]) ∧ St w0 w' (Wr g s :: R) := by
  obtain ⟨v, I⟩ := Wr.open I hA
  have hb : (s.2 != 0) = true := by simpa using he
  clear hA he
  go_enter Tryd.func31, Tryd.ntmps31
  go_wp2_with (first | ((with_reducible refine gguard ?_); (first | refine w_guardT (by rfl) (fun hb => ?_) (fun hb => ?_) | refine w_guardF (by rfl) (fun hb => ?_) (fun hb => ?_)) <;> first | (cases hb; done) | cases hb | ((try rw [hb]) <;> (try simp at hb) <;> go_prune <;> (try (with_reducible replace hb := eqPair hb)))) | (((with_reducible refine gbox ?_); first | refine w_boxA I (by rfl) ?_ | refine w_box1 I (by (conv => lhs; whnf) <;> rfl) (by rfl) ?_); clear I; intro g w I) | ((with_reducible refine galloc ?_); refine w_alloc I ?_; clear I; intro g w I) | ((with_reducible refine gload ?_); first | refine w_loadB I (by rfl) (by first | (with_reducible repeat (first | exact .here | apply At.there)); done | repeat (first | exact .here | apply At.there)) (by rfl) ?_ | refine w_loadBR I (by rfl) (by first | (with_reducible repeat (first | exact .here | apply At.there)); done | repeat (first | exact .here | apply At.there)) (by rfl) ?_ | refine w_load0 I (by rfl) (by assumption) ?_) | ((with_reducible refine gstore ?_); (first | refine w_storeB I (by rfl) (by (conv => lhs; whnf) <;> rfl) (by first | (with_reducible repeat (first | exact .here | apply Upd.there)); done | repeat (first | exact .here | apply Upd.there)) (by rfl) (by rfl) (by simp only [List.set_cons_zero, List.set_cons_succ] <;> rfl) ?_ | refine w_storeBR I (by rfl) (by rfl) (by first | (with_reducible repeat (first | exact .here | apply Upd.there)); done | repeat (first | exact .here | apply Upd.there)) (by rfl) (by rfl) (by rfl) ?_); clear I; intro w I))
  exact ret_0 rfl rfl ⟨rfl, Wr.mk I (by first | (with_reducible repeat (first | exact .here | apply At.there)); done | repeat (first | exact .here | apply At.there)) (by first | (with_reducible repeat (first | exact .here | apply At.there)); done | repeat (first | exact .here | apply At.there))⟩
theorem wrap_u8 (x : Int) : IntKind.u8.wrap x = x % 256 := by simp [IntKind.wrap, IntKind.signed, IntKind.bits]
theorem shr_eq (n k : Nat) : (n : Int) / 2 ^ (8 * k) = ((n / 256 ^ k : Nat) : Int) := by
  have h : (2 : Int) ^ (8 * k) = ((256 ^ k : Nat) : Int) := by rw [Int.pow_mul]; simp
  rw [h]; simp
set_option maxHeartbeats 1000000 in
theorem octets_Num_arg (g : Nat) (s : List UInt8 × Int) (n : Nat) (size : Int) (he : s.2 = 0) (hz : size < 1 ∨ 8 < size) (w0 w : World) (L R : List Asr) (I : St w0 w L) (hA : At (Wr g s) L R) :
    Calls Tryd.prog 31 #[.pointer (some ⟨g, 0, none⟩), .int .u64 n, .int .i64 size] w fun en w' => en = .returned (.tuple #[]) ∧ St w0 w' (Wr g (s.1, 1) :: R) := by
  obtain ⟨v, I⟩ := Wr.open I hA
  have hb : (s.2 != 0) = false := by simp [he]
  have HE := Lib.hid he
  clear hA he
  rcases hz with hz | hz
  all_goals
   have hz1 : ¬ (8 < size ∧ size < 1) := by omega
   go_enter Tryd.func31, Tryd.ntmps31
   go_wp2_with (first | (first | ((with_reducible refine gguard ?_); (first | refine w_guardT (by rfl) (fun hb => ?_) (fun hb => ?_) | refine w_guardF (by rfl) (fun hb => ?_) (fun hb => ?_)) <;> first | (cases hb; done) | cases hb | ((try rw [hb]) <;> (try simp at hb) <;> go_prune <;> (try (with_reducible replace hb := eqPair hb)))) | (((with_reducible refine gbox ?_); first | refine w_boxA I (by rfl) ?_ | refine w_box1 I (by (conv => lhs; whnf) <;> rfl) (by rfl) ?_); clear I; intro g w I) | ((with_reducible refine galloc ?_); refine w_alloc I ?_; clear I; intro g w I) | ((with_reducible refine gload ?_); first | refine w_loadB I (by rfl) (by first | (with_reducible repeat (first | exact .here | apply At.there)); done | repeat (first | exact .here | apply At.there)) (by rfl) ?_ | refine w_loadBR I (by rfl) (by first | (with_reducible repeat (first | exact .here | apply At.there)); done | repeat (first | exact .here | apply At.there)) (by rfl) ?_ | refine w_load0 I (by rfl) (by assumption) ?_) | ((with_reducible refine gstore ?_); (first | refine w_storeB I (by rfl) (by (conv => lhs; whnf) <;> rfl) (by first | (with_reducible repeat (first | exact .here | apply Upd.there)); done | repeat (first | exact .here | apply Upd.there)) (by rfl) (by rfl) (by simp only [List.set_cons_zero, List.set_cons_succ] <;> rfl) ?_ | refine w_storeBR I (by rfl) (by rfl) (by first | (with_reducible repeat (first | exact .here | apply Upd.there)); done | repeat (first | exact .here | apply Upd.there)) (by rfl) (by rfl) (by rfl) ?_); clear I; intro w I)) | (go_at_call 51; go_must (refine (octets_fails g _ 1 _ _ _ _ _ _ I (by first | (with_reducible repeat (first | exact .here | apply At.there)); done | repeat (first | exact .here | apply At.there))).mono ?_; rintro _ w1 ⟨rfl, S⟩; rw [if_pos HE.out] at S; replace I := S; clear S)))
   all_goals first | exact ret_0 rfl rfl ⟨rfl, Wr.mk I (by first | (with_reducible repeat (first | exact .here | apply At.there)); done | repeat (first | exact .here | apply At.there)) (by first | (with_reducible repeat (first | exact .here | apply At.there)); done | repeat (first | exact .here | apply At.there))⟩ | omega


set_option maxHeartbeats 1000000 in
theorem octets_Num_big (g : Nat) (s : List UInt8 × Int) (n : Nat) (size : Nat) (he : s.2 = 0) (h1 : 1 ≤ size) (h8 : size < 8) (hn : 256 ^ size ≤ n) (w0 w : World) (L R : List Asr) (I : St w0 w L) (hA : At (Wr g s) L R) :
    Calls Tryd.prog 31 #[.pointer (some ⟨g, 0, none⟩), .int .u64 n, .int .i64 size] w fun en w' => en = .returned (.tuple #[]) ∧ St w0 w' (Wr g (s.1, 1) :: R) := by
  obtain ⟨v, I⟩ := Wr.open I hA
  have hb : (s.2 != 0) = false := by simp [he]
  have HE := Lib.hid he
  have hz : ((n : Int) / 2 ^ (8 * size) != 0) = true := by
    rw [shr_eq]
    have : 0 < n / 256 ^ size := Nat.div_pos hn (Nat.pow_pos (by decide))
    simp only [bne_iff_ne, ne_eq]
    omega
  have z1 : decide ((size : Int) < 1) = false := decide_eq_false (by omega)
  have z8 : decide (8 < (size : Int)) = false := decide_eq_false (by omega)
  have z9 : decide ((size : Int) < 8) = true := decide_eq_true (by omega)
  have s1 : (1 : Int) ≤ (size : Int) := by omega
  have s8 : (size : Int) < 8 := by omega
  clear hA he hn
  go_enter Tryd.func31, Tryd.ntmps31
  go_upto_region 1 with (first | ((with_reducible refine gguard ?_); (first | refine w_guardT (by rfl) (fun hb => ?_) (fun hb => ?_) | refine w_guardF (by rfl) (fun hb => ?_) (fun hb => ?_)) <;> first | (cases hb; done) | cases hb | ((try rw [hb]) <;> (try simp at hb) <;> go_prune <;> (try (with_reducible replace hb := eqPair hb)))) | (((with_reducible refine gbox ?_); first | refine w_boxA I (by rfl) ?_ | refine w_box1 I (by (conv => lhs; whnf) <;> rfl) (by rfl) ?_); clear I; intro g w I) | ((with_reducible refine galloc ?_); refine w_alloc I ?_; clear I; intro g w I) | ((with_reducible refine gload ?_); first | refine w_loadB I (by rfl) (by first | (with_reducible repeat (first | exact .here | apply At.there)); done | repeat (first | exact .here | apply At.there)) (by rfl) ?_ | refine w_loadBR I (by rfl) (by first | (with_reducible repeat (first | exact .here | apply At.there)); done | repeat (first | exact .here | apply At.there)) (by rfl) ?_ | refine w_load0 I (by rfl) (by assumption) ?_) | ((with_reducible refine gstore ?_); (first | refine w_storeB I (by rfl) (by (conv => lhs; whnf) <;> rfl) (by first | (with_reducible repeat (first | exact .here | apply Upd.there)); done | repeat (first | exact .here | apply Upd.there)) (by rfl) (by rfl) (by simp only [List.set_cons_zero, List.set_cons_succ] <;> rfl) ?_ | refine w_storeBR I (by rfl) (by rfl) (by first | (with_reducible repeat (first | exact .here | apply Upd.there)); done | repeat (first | exact .here | apply Upd.there)) (by rfl) (by rfl) (by rfl) ?_); clear I; intro w I))
  go_wp2_with (first | (first | ((with_reducible refine gguard ?_); (first | refine w_guardT (by rfl) (fun hb => ?_) (fun hb => ?_) | refine w_guardF (by rfl) (fun hb => ?_) (fun hb => ?_)) <;> first | (cases hb; done) | cases hb | ((try rw [hb]) <;> (try simp at hb) <;> go_prune <;> (try (with_reducible replace hb := eqPair hb)))) | (((with_reducible refine gbox ?_); first | refine w_boxA I (by rfl) ?_ | refine w_box1 I (by (conv => lhs; whnf) <;> rfl) (by rfl) ?_); clear I; intro g w I) | ((with_reducible refine galloc ?_); refine w_alloc I ?_; clear I; intro g w I) | ((with_reducible refine gload ?_); first | refine w_loadB I (by rfl) (by first | (with_reducible repeat (first | exact .here | apply At.there)); done | repeat (first | exact .here | apply At.there)) (by rfl) ?_ | refine w_loadBR I (by rfl) (by first | (with_reducible repeat (first | exact .here | apply At.there)); done | repeat (first | exact .here | apply At.there)) (by rfl) ?_ | refine w_load0 I (by rfl) (by assumption) ?_) | ((with_reducible refine gstore ?_); (first | refine w_storeB I (by rfl) (by (conv => lhs; whnf) <;> rfl) (by first | (with_reducible repeat (first | exact .here | apply Upd.there)); done | repeat (first | exact .here | apply Upd.there)) (by rfl) (by rfl) (by simp only [List.set_cons_zero, List.set_cons_succ] <;> rfl) ?_ | refine w_storeBR I (by rfl) (by rfl) (by first | (with_reducible repeat (first | exact .here | apply Upd.there)); done | repeat (first | exact .here | apply Upd.there)) (by rfl) (by rfl) (by rfl) ?_); clear I; intro w I)) | (go_at_call 51; go_must (refine (octets_fails g _ 1 _ _ _ _ _ _ I (by first | (with_reducible repeat (first | exact .here | apply At.there)); done | repeat (first | exact .here | apply At.there))).mono ?_; rintro _ w1 ⟨rfl, S⟩; rw [if_pos HE.out] at S; replace I := S; clear S)))
  all_goals exact ret_0 rfl rfl ⟨rfl, Wr.mk I (by first | (with_reducible repeat (first | exact .here | apply At.there)); done | repeat (first | exact .here | apply At.there)) (by first | (with_reducible repeat (first | exact .here | apply At.there)); done | repeat (first | exact .here | apply At.there))⟩
set_option maxRecDepth 100000 in
set_option maxHeartbeats 1000000 in
theorem octets_Num_ok (g : Nat) (s : List UInt8 × Int) (n : Nat) (size : Nat) (he : s.2 = 0) (h1 : 1 ≤ size) (h8 : size ≤ 8) (hn : n < 256 ^ size) (hl : s.1.length ≤ 1000000) (w0 w : World) (L R : List Asr) (I : St w0 w L) (hA : At (Wr g s) L R) :
    Calls Tryd.prog 31 #[.pointer (some ⟨g, 0, none⟩), .int .u64 n, .int .i64 size] w fun en w' => en = .returned (.tuple #[]) ∧ St w0 w' (Wr g (s.1 ++ Oct.be size n, 0) :: R) := by
  obtain ⟨v, I⟩ := Wr.open I hA
  have hb : (s.2 != 0) = false := by simp [he]
  have HE := Lib.hid he
  have hz : ((n : Int) / 2 ^ (8 * size) != 0) = false := by rw [shr_eq, Nat.div_eq_of_lt hn]; rfl
  have z1 : decide ((size : Int) < 1) = false := decide_eq_false (by omega)
  have z8 : decide (8 < (size : Int)) = false := decide_eq_false (by omega)
  have s1 : (1 : Int) ≤ (size : Int) := by omega
  have s8 : (size : Int) ≤ 8 := by omega
  clear hA he hn
  go_enter Tryd.func31, Tryd.ntmps31
  go_upto_region 1 with (first | ((with_reducible refine gguard ?_); (first | refine w_guardT (by rfl) (fun hb => ?_) (fun hb => ?_) | refine w_guardF (by rfl) (fun hb => ?_) (fun hb => ?_)) <;> first | (cases hb; done) | cases hb | ((try rw [hb]) <;> (try simp at hb) <;> go_prune <;> (try (with_reducible replace hb := eqPair hb)))) | (((with_reducible refine gbox ?_); first | refine w_boxA I (by rfl) ?_ | refine w_box1 I (by (conv => lhs; whnf) <;> rfl) (by rfl) ?_); clear I; intro g w I) | ((with_reducible refine galloc ?_); refine w_alloc I ?_; clear I; intro g w I) | ((with_reducible refine gload ?_); first | refine w_loadB I (by rfl) (by first | (with_reducible repeat (first | exact .here | apply At.there)); done | repeat (first | exact .here | apply At.there)) (by rfl) ?_ | refine w_loadBR I (by rfl) (by first | (with_reducible repeat (first | exact .here | apply At.there)); done | repeat (first | exact .here | apply At.there)) (by rfl) ?_ | refine w_load0 I (by rfl) (by assumption) ?_) | ((with_reducible refine gstore ?_); (first | refine w_storeB I (by rfl) (by (conv => lhs; whnf) <;> rfl) (by first | (with_reducible repeat (first | exact .here | apply Upd.there)); done | repeat (first | exact .here | apply Upd.there)) (by rfl) (by rfl) (by simp only [List.set_cons_zero, List.set_cons_succ] <;> rfl) ?_ | refine w_storeBR I (by rfl) (by rfl) (by first | (with_reducible repeat (first | exact .here | apply Upd.there)); done | repeat (first | exact .here | apply Upd.there)) (by rfl) (by rfl) (by rfl) ?_); clear I; intro w I))
  go_upto_region 4 with fail
  all_goals
    clear hz z1 z8 hb
    go_loopw [6] (fun i wr => ∃ (k : Nat) (v : Value) (pre : List UInt8), i = .int .i64 ((k : Int) - 1) ∧ k + pre.length = size ∧ Hid (pre ++ Oct.be k n = Oct.be size n) ∧ St w0 wr (OwnS 5 1 encB v (s.1 ++ pre) :: Blk g [v, .int .i64 0] 72 :: R)) (fun i _ => (intOf i + 1).toNat)
    case atStart => exact ⟨size, v, [], rfl, by simp, Lib.hid rfl, by rw [List.append_nil]; have := I.take (.there .here); rw [HE.out] at this; exact this⟩
    case round =>
      clear I v
      obtain ⟨k, v, pre, rfl, hk, HB, I⟩ := hrel
      cases k with
      | zero =>
        go_wp2_with fail
        exact end_0 rfl rfl ⟨rfl, by have hp := HB.out; simp only [Oct.be, List.append_nil] at hp; subst hp; exact Wr.mk I (by first | (with_reducible repeat (first | exact .here | apply At.there)); done | repeat (first | exact .here | apply At.there)) (by first | (with_reducible repeat (first | exact .here | apply At.there)); done | repeat (first | exact .here | apply At.there))⟩
      | succ k =>
        have hi : ((k + 1 : Nat) : Int) - 1 = (k : Int) := by omega
        have hk8 : (k : Int) < 8 := by omega
        have hk0 : (0 : Int) ≤ (k : Int) := by omega
        have hs := shr_eq n k
        have J := I.drew
        rw [hi]
        clear hi
        go_wp2_with fail
        have hw := IntWalk.i64_in (8 * (k : Int)) (by omega)
        have hw0 : 0 ≤ 8 * (k : Int) := by omega
        have hw1 : (8 * (k : Int)).toNat = 8 * k := by omega
        have hw2 : min (8 * k) 64 = 8 * k := by omega
        have F := J.facts
        dsimp only [AllF, Asr.facts, Blk, OwnS] at F
        have FA := fun o => (I.still ((Fr.refl _).alloc o)).facts
        dsimp only [AllF, Asr.facts, Blk, OwnS] at FA
        go_region_law ((refine step_append encB_len encB_one (by decide) (I.alloc _ _).drew (by rfl) (by first | (with_reducible repeat (first | exact .here | apply At.there)); done | repeat (first | exact .here | apply At.there)) (by rfl) ((I.alloc _ _).drew.slvB (l2 := [UInt8.ofNat (n / 256 ^ k)]) (by first | (with_reducible repeat (first | exact .here | apply At.there)); done | repeat (first | exact .here | apply At.there)) (by simp [encB, wrap_u8]) rfl (by simp [maxLen]) encB_len) (by simp; omega) (by simp [maxLen]; omega) ?_; intro A2 m2 c2 w2 I2; have F2 := I2.facts; dsimp only [AllF, Asr.facts, Blk, OwnS] at F2))
        all_goals
          have I3 := (I2.set (g := g) (i := 0) (v := .slice A2 m2 c2) (by first | (with_reducible repeat (first | exact .here | apply Upd.there)); done | repeat (first | exact .here | apply Upd.there)) rfl).drop (A := Blk wr.heap.size _ _) (by first | (with_reducible repeat (first | exact .here | apply At.there)); done | repeat (first | exact .here | apply At.there))
          clear F FA F2 J I2 I
          go_wp2_with fail
          go_roundw
          case rel => exact ⟨k, _, pre ++ [UInt8.ofNat (n / 256 ^ k)], rfl, by simp; omega, Lib.hid (by rw [List.append_assoc]; exact HB.out), by rw [← List.append_assoc]; exact I3⟩
          case measure => simp [intOf] <;> omega
theorem octets_Num (g : Nat) (s : List UInt8 × Int) (n : Nat) (size : Int) (hn : n < 18446744073709551616) (hl : s.1.length ≤ 1000000) (w0 w : World) (L R : List Asr) (I : St w0 w L) (hA : At (Wr g s) L R) :
    Calls Tryd.prog 31 #[.pointer (some ⟨g, 0, none⟩), .int .u64 n, .int .i64 size] w fun en w' => en = .returned (.tuple #[]) ∧ St w0 w' (Wr g (Oct.put s n size) :: R) := by
  unfold Oct.put
  by_cases he : s.2 = 0
  · rw [if_neg (by simp [he])]
    by_cases hz : size < 1 ∨ 8 < size
    · rw [if_pos (by omega)]
      exact octets_Num_arg g s n size he hz w0 w L R I hA
    · obtain ⟨k, rfl⟩ : ∃ k : Nat, size = k := ⟨size.toNat, by omega⟩
      by_cases hk : 256 ^ k ≤ n
      · rw [if_pos (by simp only [Int.toNat_natCast]; exact .inr (.inr hk))]
        have : k < 8 := by
          refine Nat.lt_of_not_le fun h => ?_
          have h2 : 256 ^ 8 ≤ 256 ^ k := Nat.pow_le_pow_right (by decide) h
          have h3 : (256 : Nat) ^ 8 = 18446744073709551616 := by decide
          omega
        exact octets_Num_big g s n k he (by omega) this hk w0 w L R I hA
      · rw [if_neg (by simp only [Int.toNat_natCast]; omega)]
        exact octets_Num_ok g s n k he (by omega) (by omega) (by omega) hl w0 w L R I hA
  · rw [if_pos he]
    exact octets_Num_no g s n size hn he w0 w L R I hA

theorem u64_conv (n : Int) : IntKind.u64.wrap n = (Oct.u64 n : Int) := by
  unfold Oct.u64
  simp only [IntKind.wrap, IntKind.signed, IntKind.bits]
  simp
  omega
theorem octets_Int (g : Nat) (s : List UInt8 × Int) (n : Int) (hl : s.1.length ≤ 1000000) (w0 w : World) (L R : List Asr) (I : St w0 w L) (hA : At (Wr g s) L R) :
    Calls Tryd.prog 33 #[.pointer (some ⟨g, 0, none⟩), .int .i64 n] w fun en w' => en = .returned (.tuple #[]) ∧ St w0 w' (Wr g (Oct.putInt s n) :: R) := by
  unfold Oct.putInt
  have hq := u64_conv n
  have hc := octets_Num g s (Oct.u64 n) 8 (Oct.u64_lt n) hl w0 w L R I hA
  have HC := Lib.hid hc
  clear hc
  generalize Oct.u64 n = q at *
  go_enter Tryd.func33, Tryd.ntmps33
  go_wp2_with (go_at_call 31; go_must (refine (HC.out).mono ?_; rintro _ w1 ⟨rfl, S⟩))
  exact end_0 rfl rfl ⟨rfl, S⟩
/-- A receiver that is nil. -/
theorem octets_Num_nil (n size : Int) (w : World) : Calls Tryd.prog 31 #[.pointer none, .int .u64 n, .int .i64 size] w fun en w' => en = .returned (.tuple #[]) ∧ w = w' := by
  go_enter Tryd.func31, Tryd.ntmps31
  go_wp2_with fail
  exact ret_0 rfl rfl ⟨rfl, rfl⟩
theorem octets_Run_nil (l : List UInt8) (v : Value) (w : World) (h : Bytes w v l) : Calls Tryd.prog 34 #[.pointer none, v] w fun en w' => en = .returned (.tuple #[]) ∧ w = w' := by
  obtain ⟨A, m, c, rfl, h1, h2, h3, _, _⟩ := h
  unfold maxLen at h3
  go_enter Tryd.func34, Tryd.ntmps34
  go_wp2_with (go_at_call 31; go_must (refine (octets_Num_nil _ _ _).mono ?_; rintro _ w1 ⟨rfl, rfl⟩))
  exact end_0 rfl rfl ⟨rfl, rfl⟩
theorem octets_Done_nil (w : World) : Calls Tryd.prog 35 #[.pointer none] w fun en w' => en = .returned (.tuple #[.slice none 0 0, .int .i64 1]) ∧ w = w' := by
  go_enter Tryd.func35, Tryd.ntmps35
  go_wp2_with fail
  go_ret2
  exact ⟨rfl, rfl⟩
theorem u64_nat (n : Nat) (h : n < 18446744073709551616) : IntKind.u64.wrap (n : Int) = n := by
  simp only [IntKind.wrap, IntKind.signed, IntKind.bits]
  simp
  omega
set_option maxHeartbeats 1000000 in
theorem octets_RunG (g : Nat) (s : List UInt8 × Int) (l : List UInt8) (v : Value) (hl : s.1.length ≤ 100000) (hl2 : l.length ≤ 100000) (w0 w : World) (L R : List Asr) (I : St w0 w L) (hA : At (Wr g s) L R) (hr : ∀ wx M, St w0 wx (M ++ R) → Bytes wx v l) :
    Calls Tryd.prog 34 #[.pointer (some ⟨g, 0, none⟩), v] w fun en w' => en = .returned (.tuple #[]) ∧ St w0 w' (Wr g (Oct.putRun s l) :: R) := by
  have HB := Lib.hid hr
  obtain ⟨A, m, c, rfl, rfl, h2, h3, _, _⟩ := hr _ [_] (I.take hA)
  clear hr
  unfold maxLen at h3
  have HC := Lib.hid (octets_Num g s l.length 4 (by omega) (by omega) w0 w L R I hA)
  have hq := u64_nat l.length (by omega)
  unfold Oct.putRun
  have hp : (Oct.put s l.length 4).1.length ≤ 100008 := by have := Oct.put_len s l.length 4; omega
  generalize Oct.put s l.length 4 = q at HC hp ⊢
  obtain ⟨b, e⟩ := q
  dsimp only at hp ⊢
  by_cases he : e = 0
  · subst he
    rw [if_neg (by simp)]
    go_enter Tryd.func34, Tryd.ntmps34
    go_wp2_with (first | (first | ((with_reducible refine gguard ?_); (first | refine w_guardT (by rfl) (fun hb => ?_) (fun hb => ?_) | refine w_guardF (by rfl) (fun hb => ?_) (fun hb => ?_)) <;> first | (cases hb; done) | cases hb | ((try rw [hb]) <;> (try simp at hb) <;> go_prune <;> (try (with_reducible replace hb := eqPair hb)))) | (((with_reducible refine gbox ?_); first | refine w_boxA I (by rfl) ?_ | refine w_box1 I (by (conv => lhs; whnf) <;> rfl) (by rfl) ?_); clear I; intro g w I) | ((with_reducible refine galloc ?_); refine w_alloc I ?_; clear I; intro g w I) | ((with_reducible refine gload ?_); first | refine w_loadB I (by rfl) (by first | (with_reducible repeat (first | exact .here | apply At.there)); done | repeat (first | exact .here | apply At.there)) (by rfl) ?_ | refine w_loadBR I (by rfl) (by first | (with_reducible repeat (first | exact .here | apply At.there)); done | repeat (first | exact .here | apply At.there)) (by rfl) ?_ | refine w_load0 I (by rfl) (by assumption) ?_) | ((with_reducible refine gstore ?_); (first | refine w_storeB I (by rfl) (by (conv => lhs; whnf) <;> rfl) (by first | (with_reducible repeat (first | exact .here | apply Upd.there)); done | repeat (first | exact .here | apply Upd.there)) (by rfl) (by rfl) (by simp only [List.set_cons_zero, List.set_cons_succ] <;> rfl) ?_ | refine w_storeBR I (by rfl) (by rfl) (by first | (with_reducible repeat (first | exact .here | apply Upd.there)); done | repeat (first | exact .here | apply Upd.there)) (by rfl) (by rfl) (by rfl) ?_); clear I; intro w I)) | (go_at_call 31; go_must (refine (HC.out).mono ?_; rintro _ w1 ⟨rfl, S⟩; clear I hA; obtain ⟨v, I⟩ := Wr.open S .here; clear S)) | ((with_reducible refine gappend ?_); refine w_append encB_len encB_one (by decide) I (by rfl) (by first | (with_reducible repeat (first | exact .here | apply At.there)); done | repeat (first | exact .here | apply At.there)) (by rfl) (l2 := l) (HB.out _ [_, _] I) (by first | omega | (simp <;> omega)) (by unfold maxLen; first | omega | (simp <;> omega)) ?_; clear I; intro A m c w I))
    exact end_0 rfl rfl ⟨rfl, Wr.mk I (by first | (with_reducible repeat (first | exact .here | apply At.there)); done | repeat (first | exact .here | apply At.there)) (by first | (with_reducible repeat (first | exact .here | apply At.there)); done | repeat (first | exact .here | apply At.there))⟩
  · rw [if_pos he]
    have hb : (e == 0) = false := by simpa using he
    clear he
    go_enter Tryd.func34, Tryd.ntmps34
    go_wp2_with (first | (first | ((with_reducible refine gguard ?_); (first | refine w_guardT (by rfl) (fun hb => ?_) (fun hb => ?_) | refine w_guardF (by rfl) (fun hb => ?_) (fun hb => ?_)) <;> first | (cases hb; done) | cases hb | ((try rw [hb]) <;> (try simp at hb) <;> go_prune <;> (try (with_reducible replace hb := eqPair hb)))) | (((with_reducible refine gbox ?_); first | refine w_boxA I (by rfl) ?_ | refine w_box1 I (by (conv => lhs; whnf) <;> rfl) (by rfl) ?_); clear I; intro g w I) | ((with_reducible refine galloc ?_); refine w_alloc I ?_; clear I; intro g w I) | ((with_reducible refine gload ?_); first | refine w_loadB I (by rfl) (by first | (with_reducible repeat (first | exact .here | apply At.there)); done | repeat (first | exact .here | apply At.there)) (by rfl) ?_ | refine w_loadBR I (by rfl) (by first | (with_reducible repeat (first | exact .here | apply At.there)); done | repeat (first | exact .here | apply At.there)) (by rfl) ?_ | refine w_load0 I (by rfl) (by assumption) ?_) | ((with_reducible refine gstore ?_); (first | refine w_storeB I (by rfl) (by (conv => lhs; whnf) <;> rfl) (by first | (with_reducible repeat (first | exact .here | apply Upd.there)); done | repeat (first | exact .here | apply Upd.there)) (by rfl) (by rfl) (by simp only [List.set_cons_zero, List.set_cons_succ] <;> rfl) ?_ | refine w_storeBR I (by rfl) (by rfl) (by first | (with_reducible repeat (first | exact .here | apply Upd.there)); done | repeat (first | exact .here | apply Upd.there)) (by rfl) (by rfl) (by rfl) ?_); clear I; intro w I)) | (go_at_call 31; go_must (refine (HC.out).mono ?_; rintro _ w1 ⟨rfl, S⟩; clear I hA; obtain ⟨v, I⟩ := Wr.open S .here; clear S)))
    exact end_0 rfl rfl ⟨rfl, Wr.mk I (by first | (with_reducible repeat (first | exact .here | apply At.there)); done | repeat (first | exact .here | apply At.there)) (by first | (with_reducible repeat (first | exact .here | apply At.there)); done | repeat (first | exact .here | apply At.there))⟩
theorem octets_Run (g : Nat) (s : List UInt8 × Int) (l : List UInt8) (v : Value) (hl : s.1.length ≤ 100000) (hl2 : l.length ≤ 100000) (w0 w : World) (L R : List Asr) (I : St w0 w L) (hA : At (Wr g s) L R) (h : Bytes w0 v l) :
    Calls Tryd.prog 34 #[.pointer (some ⟨g, 0, none⟩), v] w fun en w' => en = .returned (.tuple #[]) ∧ St w0 w' (Wr g (Oct.putRun s l) :: R) :=
  octets_RunG g s l v hl hl2 w0 w L R I hA (fun _ _ J => h.frF J.fr)
theorem At.behind {A : Asr} {L R : List Asr} (h : At A L R) : ∀ M : List Asr, At A (M ++ L) (M ++ R)
  | [] => h
  | _ :: M => .there (At.behind h M)
theorem octets_RunO (g : Nat) (s : List UInt8 × Int) (l : List UInt8) (v : Value) (hl : s.1.length ≤ 100000) (hl2 : l.length ≤ 100000) (w0 w : World) (L R R2 : List Asr) (I : St w0 w L) (hA : At (Wr g s) L R) (h : At (OwnS 5 1 encB v l) R R2) :
    Calls Tryd.prog 34 #[.pointer (some ⟨g, 0, none⟩), v] w fun en w' => en = .returned (.tuple #[]) ∧ St w0 w' (Wr g (Oct.putRun s l) :: R) :=
  octets_RunG g s l v hl hl2 w0 w L R I hA (fun _ M J => J.slv (At.behind h M) encB_len)
theorem Bytes_own {w0 w : World} {L R : List Asr} {v : Value} {l : List UInt8} (I : St w0 w L) (h : At (OwnS 5 1 encB v l) L R) : ∃ A m c, v = .slice A m c := by
  obtain ⟨A, c, h, _⟩ := (I.own h).reads encB_len
  exact ⟨A, _, c, h⟩
theorem octets_Done (g : Nat) (s : List UInt8 × Int) (hl : s.1.length ≤ 1000000) (w0 w : World) (L R : List Asr) (I : St w0 w L) (hA : At (Wr g s) L R) :
    Calls Tryd.prog 35 #[.pointer (some ⟨g, 0, none⟩)] w fun en w' => ∃ A m c, en = .returned (.tuple #[.slice A m c, .int .i64 s.2]) ∧ St w0 w' (OwnS 5 1 encB (.slice A m c) (if s.2 = 0 then s.1 else []) :: L) := by
  obtain ⟨v, I⟩ := Wr.open I hA
  by_cases he : s.2 = 0
  · rw [if_pos he]
    have hb : (s.2 != 0) = false := by simp [he]
    have HE := Lib.hid he
    clear he
    go_enter Tryd.func35, Tryd.ntmps35
    go_wp2_with (first | (first | ((with_reducible refine gguard ?_); (first | refine w_guardT (by rfl) (fun hb => ?_) (fun hb => ?_) | refine w_guardF (by rfl) (fun hb => ?_) (fun hb => ?_)) <;> first | (cases hb; done) | cases hb | ((try rw [hb]) <;> (try simp at hb) <;> go_prune <;> (try (with_reducible replace hb := eqPair hb)))) | (((with_reducible refine gbox ?_); first | refine w_boxA I (by rfl) ?_ | refine w_box1 I (by (conv => lhs; whnf) <;> rfl) (by rfl) ?_); clear I; intro g w I) | ((with_reducible refine galloc ?_); refine w_alloc I ?_; clear I; intro g w I) | ((with_reducible refine gload ?_); first | refine w_loadB I (by rfl) (by first | (with_reducible repeat (first | exact .here | apply At.there)); done | repeat (first | exact .here | apply At.there)) (by rfl) ?_ | refine w_loadBR I (by rfl) (by first | (with_reducible repeat (first | exact .here | apply At.there)); done | repeat (first | exact .here | apply At.there)) (by rfl) ?_ | refine w_load0 I (by rfl) (by assumption) ?_) | ((with_reducible refine gstore ?_); (first | refine w_storeB I (by rfl) (by (conv => lhs; whnf) <;> rfl) (by first | (with_reducible repeat (first | exact .here | apply Upd.there)); done | repeat (first | exact .here | apply Upd.there)) (by rfl) (by rfl) (by simp only [List.set_cons_zero, List.set_cons_succ] <;> rfl) ?_ | refine w_storeBR I (by rfl) (by rfl) (by first | (with_reducible repeat (first | exact .here | apply Upd.there)); done | repeat (first | exact .here | apply Upd.there)) (by rfl) (by rfl) (by rfl) ?_); clear I; intro w I)) | (go_at_call 52; go_must (refine (clone_bytes _ s.1 _ (I.slv (by first | (with_reducible repeat (first | exact .here | apply At.there)); done | repeat (first | exact .here | apply At.there)) encB_len) (by omega)).mono ?_; rintro _ w1 ⟨v2, rfl, o, f, _⟩; replace I := I.mkOwn f o; clear o f)))
    obtain ⟨A2, m2, c2, rfl⟩ := Bytes_own I .here
    go_ret2
    exact ⟨A2, m2, c2, by rw [HE.out]; rfl, (Wr.mk (e := s.2) I (.there (.there .here)) (.there .here)).give (.there hA)⟩
  · rw [if_neg he]
    have hb : (s.2 != 0) = true := by simpa using he
    clear he
    have F := I.facts
    dsimp only [AllF, Asr.facts, Blk, OwnS] at F
    go_enter Tryd.func35, Tryd.ntmps35
    go_wp2_with fail
    go_quiet (fail)
    go_wp2_with fail
    go_ret2
    exact ⟨none, 0, 0, rfl, ((Wr.mk (I.drewN _) (by first | (with_reducible repeat (first | exact .here | apply At.there)); done | repeat (first | exact .here | apply At.there)) (by first | (with_reducible repeat (first | exact .here | apply At.there)); done | repeat (first | exact .here | apply At.there))).give hA).nilOwn _ _ _⟩
end Go.Proofs.YtpnpgeilhafepaaDoor
