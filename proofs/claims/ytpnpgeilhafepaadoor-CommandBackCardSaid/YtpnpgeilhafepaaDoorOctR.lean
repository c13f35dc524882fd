
/- Octets (layer 4): the reference's writer. -/
import Derived.Test.YtpnpgeilhafepaaDoorOct
namespace Go.Proofs.YtpnpgeilhafepaaDoor
open Go.RowKit Go.Hf

set_option maxRecDepth 100000 in
set_option maxHeartbeats 1000000 in
theorem ref04_Num (n size : Nat) (h1 : 1 ≤ size) (h8 : size ≤ 8) (hn : n < 18446744073709551616) (w0 : World) :
    Calls Tryd.prog 53 #[.int .u64 n, .int .i64 size] w0 fun en w' => ∃ A m c, en = .returned (.tuple #[.slice A m c, .bool (decide (n < 256 ^ size))]) ∧ St w0 w' [OwnS 5 1 encB (.slice A m c) (Oct.be size n)] := by
  have I := St.refl w0
  have s1 : (1 : Int) ≤ (size : Int) := by omega
  have s8 : (size : Int) ≤ 8 := by omega
  have z1 : decide ((size : Int) < 1) = false := decide_eq_false (by omega)
  have z8 : decide (8 < (size : Int)) = false := decide_eq_false (by omega)
  have HN := Lib.hid hn
  clear hn
  go_enter Tryd.func53, Tryd.ntmps53
  go_wp2_with ((with_reducible refine gmake ?_); refine w_make1 (enc := encB) (zero := (0 : UInt8)) rfl rfl I (q := size) (by rfl) (by rfl) (by omega) (by unfold maxLen; omega) ?_; clear I; intro g w I)
  go_loopw [7, 8] (fun u i wr => ∃ (k m q : Nat) (r : List UInt8), i = .int .i64 ((k : Int) - 1) ∧ u = .int .u64 q ∧ k + m = size ∧ Hid (q = n / 256 ^ m) ∧ q < 18446744073709551616 ∧ Hid (r = Oct.be m n) ∧ St w0 wr [OwnS 5 1 encB (.slice (some ⟨g, 0, none⟩) size size) (List.replicate k 0 ++ r)]) (fun _ i _ => (intOf i + 1).toNat)
  case atStart => exact ⟨size, 0, n, [], rfl, rfl, rfl, Lib.hid (by simp), HN.out, Lib.hid rfl, by rw [List.append_nil]; exact I⟩
  case round =>
    clear I
    obtain ⟨k, m, q, r, rfl, rfl, hk, HQ, hq, HR, I⟩ := hrel
    cases k with
    | zero =>
      have hd : ((q : Int) == 0) = decide (n < 256 ^ size) := by
        have h := HQ.out
        obtain rfl : m = size := by omega
        have hp : 0 < 256 ^ m := Nat.pow_pos (by decide)
        rw [Bool.eq_iff_iff]
        simp only [beq_iff_eq, decide_eq_true_eq]
        rw [← Nat.div_eq_zero_iff_lt hp, ← h]
        omega
      have HD := Lib.hid hd
      clear hd hq
      have hm : m = size := by omega
      have HM := Lib.hid hm
      clear hm hk
      go_wp2_with fail
      go_ret2
      refine ⟨some ⟨g, 0, none⟩, size, size, ?_, ?_⟩
      · have h := HD.out
        simp only [Ending.returned.injEq, Value.tuple.injEq]
        exact congrArg (fun b => #[Value.slice (some ⟨g, 0, none⟩) size size, Value.bool b]) h
      · have h := HR.out
        subst h
        rw [HM.out] at I
        exact I
    | succ k =>
      have hi : ((k + 1 : Nat) : Int) - 1 = (k : Int) := by omega
      have hk0 : (k : Int) < (size : Int) := by omega
      have HI : Hid ((List.replicate (k + 1) 0 ++ r)[k]? = some (0 : UInt8)) := Lib.hid (by rw [List.getElem?_append_left (by simp)]; simp)
      rw [hi]
      clear hi
      go_wp2_with ((with_reducible refine gstore ?_); refine w_storeO encB_len I (by rfl) (by (conv => lhs; whnf) <;> rfl) (by first | (with_reducible repeat (first | exact .here | apply Upd.there)); done | repeat (first | exact .here | apply Upd.there)) (i := k) (f := 0) (by simp) HI.out (b' := UInt8.ofNat q) (by decide) (by rfl) (by simp [encB, wrap_u8]) (Oct.set_rep k _ r) ?_; clear I; intro w I)
      go_roundw
      case rel => exact ⟨k, m + 1, q / 256, UInt8.ofNat q :: r, rfl, by go_num, by omega, Lib.hid (by rw [HQ.out, Nat.div_div_eq_div_mul, Nat.pow_succ]), by omega, Lib.hid (by rw [HR.out, HQ.out]; rfl), I⟩
      case measure => simp [intOf] <;> omega
theorem ref04_Num_no (n : Nat) (size : Int) (h : size < 1 ∨ 8 < size) (w : World) :
    Calls Tryd.prog 53 #[.int .u64 n, .int .i64 size] w fun en w' => en = .returned (.tuple #[.slice none 0 0, .bool false]) ∧ w = w' := by
  go_enter Tryd.func53, Tryd.ntmps53
  go_wp2_with (first | ((with_reducible refine gguard ?_); (first | refine w_guardT (by rfl) (fun hb => ?_) (fun hb => ?_) | refine w_guardF (by rfl) (fun hb => ?_) (fun hb => ?_)) <;> first | (cases hb; done) | cases hb | ((try rw [hb]) <;> (try simp at hb) <;> go_prune <;> (try (with_reducible replace hb := eqPair hb)))) | (((with_reducible refine gbox ?_); first | refine w_boxA I (by rfl) ?_ | refine w_box1 I (by (conv => lhs; whnf) <;> rfl) (by rfl) ?_); clear I; intro g w I) | ((with_reducible refine galloc ?_); refine w_alloc I ?_; clear I; intro g w I) | ((with_reducible refine gload ?_); first | refine w_loadB I (by rfl) (by first | (with_reducible repeat (first | exact .here | apply At.there)); done | repeat (first | exact .here | apply At.there)) (by rfl) ?_ | refine w_loadBR I (by rfl) (by first | (with_reducible repeat (first | exact .here | apply At.there)); done | repeat (first | exact .here | apply At.there)) (by rfl) ?_ | refine w_load0 I (by rfl) (by assumption) ?_) | ((with_reducible refine gstore ?_); (first | refine w_storeB I (by rfl) (by (conv => lhs; whnf) <;> rfl) (by first | (with_reducible repeat (first | exact .here | apply Upd.there)); done | repeat (first | exact .here | apply Upd.there)) (by rfl) (by rfl) (by simp only [List.set_cons_zero, List.set_cons_succ] <;> rfl) ?_ | refine w_storeBR I (by rfl) (by rfl) (by first | (with_reducible repeat (first | exact .here | apply Upd.there)); done | repeat (first | exact .here | apply Upd.there)) (by rfl) (by rfl) (by rfl) ?_); clear I; intro w I))
  all_goals first | (go_ret2; exact ⟨rfl, rfl⟩) | omega

/-- The reference's writer. -/
def RWr (g : Nat) (s : List UInt8 × Int) : Asr := ExS fun v => AllS [Blk g [v, .int .i64 s.2] 57, OwnS 5 1 encB v s.1]
theorem RWr.open {g : Nat} {s : List UInt8 × Int} {w0 w : World} {L R : List Asr} (I : St w0 w L) (hA : At (RWr g s) L R) : ∃ v, St w0 w (Blk g [v, .int .i64 s.2] 57 :: OwnS 5 1 encB v s.1 :: R) := by
  obtain ⟨v, I⟩ := (I.take hA).ex
  exact ⟨v, I.all⟩
theorem RWr.mk {g : Nat} {b : List UInt8} {e : Int} {v : Value} {w0 w : World} {L R1 R : List Asr} (I : St w0 w L) (h1 : At (OwnS 5 1 encB v b) L R1) (h2 : At (Blk g [v, .int .i64 e] 57) R1 R) : St w0 w (RWr g (b, e) :: R) :=
  St.mkEx v (St.mkAll (M := [_, _]) ((((I.take h1).take (.there h2)))))
set_option maxHeartbeats 1000000 in
theorem ref04_WNum (g : Nat) (s : List UInt8 × Int) (n : Nat) (size : Int) (hn : n < 18446744073709551616) (hl : s.1.length ≤ 1000000) (w0 w : World) (L R : List Asr) (I : St w0 w L) (hA : At (RWr g s) L R) :
    Calls Tryd.prog 36 #[.pointer (some ⟨g, 0, none⟩), .int .u64 n, .int .i64 size] w fun en w' => en = .returned (.tuple #[]) ∧ St w0 w' (RWr g (Oct.put s n size) :: R) := by
  obtain ⟨v, I⟩ := RWr.open I hA
  clear hA
  unfold Oct.put
  by_cases he : s.2 = 0
  · rw [if_neg (by simp [he])]
    have hb : (s.2 != 0) = false := by simp [he]
    have HE := Lib.hid he
    clear he
    by_cases hz : size < 1 ∨ 8 < size
    · rw [if_pos (by omega)]
      have HC := Lib.hid (fun wx => ref04_Num_no n size hz wx)
      clear hz
      go_enter Tryd.func36, Tryd.ntmps36
      go_wp2_with (first | (first | ((with_reducible refine gguard ?_); (first | refine w_guardT (by rfl) (fun hb => ?_) (fun hb => ?_) | refine w_guardF (by rfl) (fun hb => ?_) (fun hb => ?_)) <;> first | (cases hb; done) | cases hb | ((try rw [hb]) <;> (try simp at hb) <;> go_prune <;> (try (with_reducible replace hb := eqPair hb)))) | (((with_reducible refine gbox ?_); first | refine w_boxA I (by rfl) ?_ | refine w_box1 I (by (conv => lhs; whnf) <;> rfl) (by rfl) ?_); clear I; intro g w I) | ((with_reducible refine galloc ?_); refine w_alloc I ?_; clear I; intro g w I) | ((with_reducible refine gload ?_); first | refine w_loadB I (by rfl) (by first | (with_reducible repeat (first | exact .here | apply At.there)); done | repeat (first | exact .here | apply At.there)) (by rfl) ?_ | refine w_loadBR I (by rfl) (by first | (with_reducible repeat (first | exact .here | apply At.there)); done | repeat (first | exact .here | apply At.there)) (by rfl) ?_ | refine w_load0 I (by rfl) (by assumption) ?_) | ((with_reducible refine gstore ?_); (first | refine w_storeB I (by rfl) (by (conv => lhs; whnf) <;> rfl) (by first | (with_reducible repeat (first | exact .here | apply Upd.there)); done | repeat (first | exact .here | apply Upd.there)) (by rfl) (by rfl) (by simp only [List.set_cons_zero, List.set_cons_succ] <;> rfl) ?_ | refine w_storeBR I (by rfl) (by rfl) (by first | (with_reducible repeat (first | exact .here | apply Upd.there)); done | repeat (first | exact .here | apply Upd.there)) (by rfl) (by rfl) (by rfl) ?_); clear I; intro w I)) | (go_at_call 53; go_must (refine (HC.out _).mono ?_; rintro _ w1 ⟨rfl, rfl⟩)))
      exact ret_0 rfl rfl ⟨rfl, RWr.mk I (by first | (with_reducible repeat (first | exact .here | apply At.there)); done | repeat (first | exact .here | apply At.there)) (by first | (with_reducible repeat (first | exact .here | apply At.there)); done | repeat (first | exact .here | apply At.there))⟩
    · obtain ⟨k, rfl⟩ : ∃ k : Nat, size = k := ⟨size.toNat, by omega⟩
      have HC := Lib.hid (fun wx => ref04_Num n k (by omega) (by omega) hn wx)
      have hk8 : k ≤ 8 := by omega
      have hbl := Oct.be_len k n
      have HBL : Hid ((Oct.be k n).length ≤ 8) := Lib.hid (by omega)
      clear hbl
      by_cases hk : n < 256 ^ k
      · rw [if_neg (by simp only [Int.toNat_natCast]; omega)]
        rw [decide_eq_true hk] at HC
        have hto : ((k : Int).toNat) = k := by omega
        rw [hto]
        clear hk hto hz
        go_enter Tryd.func36, Tryd.ntmps36
        go_wp2_with (first | (first | ((with_reducible refine gguard ?_); (first | refine w_guardT (by rfl) (fun hb => ?_) (fun hb => ?_) | refine w_guardF (by rfl) (fun hb => ?_) (fun hb => ?_)) <;> first | (cases hb; done) | cases hb | ((try rw [hb]) <;> (try simp at hb) <;> go_prune <;> (try (with_reducible replace hb := eqPair hb)))) | (((with_reducible refine gbox ?_); first | refine w_boxA I (by rfl) ?_ | refine w_box1 I (by (conv => lhs; whnf) <;> rfl) (by rfl) ?_); clear I; intro g w I) | ((with_reducible refine galloc ?_); refine w_alloc I ?_; clear I; intro g w I) | ((with_reducible refine gload ?_); first | refine w_loadB I (by rfl) (by first | (with_reducible repeat (first | exact .here | apply At.there)); done | repeat (first | exact .here | apply At.there)) (by rfl) ?_ | refine w_loadBR I (by rfl) (by first | (with_reducible repeat (first | exact .here | apply At.there)); done | repeat (first | exact .here | apply At.there)) (by rfl) ?_ | refine w_load0 I (by rfl) (by assumption) ?_) | ((with_reducible refine gstore ?_); (first | refine w_storeB I (by rfl) (by (conv => lhs; whnf) <;> rfl) (by first | (with_reducible repeat (first | exact .here | apply Upd.there)); done | repeat (first | exact .here | apply Upd.there)) (by rfl) (by rfl) (by simp only [List.set_cons_zero, List.set_cons_succ] <;> rfl) ?_ | refine w_storeBR I (by rfl) (by rfl) (by first | (with_reducible repeat (first | exact .here | apply Upd.there)); done | repeat (first | exact .here | apply Upd.there)) (by rfl) (by rfl) (by rfl) ?_); clear I; intro w I)) | (go_at_call 53; go_must (refine (HC.out _).mono ?_; rintro _ w1 ⟨A2, m2, c2, rfl, S⟩; replace I := I.then1 S; clear S)) | ((with_reducible refine gappend ?_); refine w_append encB_len encB_one (by decide) I (by rfl) (by first | (with_reducible repeat (first | exact .here | apply At.there)); done | repeat (first | exact .here | apply At.there)) (by rfl) (l2 := Oct.be k n) (I.slv (by first | (with_reducible repeat (first | exact .here | apply At.there)); done | repeat (first | exact .here | apply At.there)) encB_len) (by have := HBL.out; first | omega | (simp <;> omega)) (by have := HBL.out; unfold maxLen; first | omega | (simp <;> omega)) ?_; clear I; intro A m c w I))
        rw [HE.out] at I
        exact end_0 rfl rfl ⟨rfl, (RWr.mk I (by first | (with_reducible repeat (first | exact .here | apply At.there)); done | repeat (first | exact .here | apply At.there)) (by first | (with_reducible repeat (first | exact .here | apply At.there)); done | repeat (first | exact .here | apply At.there))).drop (.there .here)⟩
      · rw [if_pos (by simp only [Int.toNat_natCast]; omega)]
        rw [decide_eq_false hk] at HC
        clear hk hz
        go_enter Tryd.func36, Tryd.ntmps36
        go_wp2_with (first | (first | ((with_reducible refine gguard ?_); (first | refine w_guardT (by rfl) (fun hb => ?_) (fun hb => ?_) | refine w_guardF (by rfl) (fun hb => ?_) (fun hb => ?_)) <;> first | (cases hb; done) | cases hb | ((try rw [hb]) <;> (try simp at hb) <;> go_prune <;> (try (with_reducible replace hb := eqPair hb)))) | (((with_reducible refine gbox ?_); first | refine w_boxA I (by rfl) ?_ | refine w_box1 I (by (conv => lhs; whnf) <;> rfl) (by rfl) ?_); clear I; intro g w I) | ((with_reducible refine galloc ?_); refine w_alloc I ?_; clear I; intro g w I) | ((with_reducible refine gload ?_); first | refine w_loadB I (by rfl) (by first | (with_reducible repeat (first | exact .here | apply At.there)); done | repeat (first | exact .here | apply At.there)) (by rfl) ?_ | refine w_loadBR I (by rfl) (by first | (with_reducible repeat (first | exact .here | apply At.there)); done | repeat (first | exact .here | apply At.there)) (by rfl) ?_ | refine w_load0 I (by rfl) (by assumption) ?_) | ((with_reducible refine gstore ?_); (first | refine w_storeB I (by rfl) (by (conv => lhs; whnf) <;> rfl) (by first | (with_reducible repeat (first | exact .here | apply Upd.there)); done | repeat (first | exact .here | apply Upd.there)) (by rfl) (by rfl) (by simp only [List.set_cons_zero, List.set_cons_succ] <;> rfl) ?_ | refine w_storeBR I (by rfl) (by rfl) (by first | (with_reducible repeat (first | exact .here | apply Upd.there)); done | repeat (first | exact .here | apply Upd.there)) (by rfl) (by rfl) (by rfl) ?_); clear I; intro w I)) | (go_at_call 53; go_must (refine (HC.out _).mono ?_; rintro _ w1 ⟨A2, m2, c2, rfl, S⟩; replace I := I.then1 S; clear S)))
        exact ret_0 rfl rfl ⟨rfl, (RWr.mk (I.drop .here) (by first | (with_reducible repeat (first | exact .here | apply At.there)); done | repeat (first | exact .here | apply At.there)) (by first | (with_reducible repeat (first | exact .here | apply At.there)); done | repeat (first | exact .here | apply At.there)))⟩
  · rw [if_pos he]
    have hb : (s.2 != 0) = true := by simpa using he
    clear he
    go_enter Tryd.func36, Tryd.ntmps36
    go_wp2_with (first | ((with_reducible refine gguard ?_); (first | refine w_guardT (by rfl) (fun hb => ?_) (fun hb => ?_) | refine w_guardF (by rfl) (fun hb => ?_) (fun hb => ?_)) <;> first | (cases hb; done) | cases hb | ((try rw [hb]) <;> (try simp at hb) <;> go_prune <;> (try (with_reducible replace hb := eqPair hb)))) | (((with_reducible refine gbox ?_); first | refine w_boxA I (by rfl) ?_ | refine w_box1 I (by (conv => lhs; whnf) <;> rfl) (by rfl) ?_); clear I; intro g w I) | ((with_reducible refine galloc ?_); refine w_alloc I ?_; clear I; intro g w I) | ((with_reducible refine gload ?_); first | refine w_loadB I (by rfl) (by first | (with_reducible repeat (first | exact .here | apply At.there)); done | repeat (first | exact .here | apply At.there)) (by rfl) ?_ | refine w_loadBR I (by rfl) (by first | (with_reducible repeat (first | exact .here | apply At.there)); done | repeat (first | exact .here | apply At.there)) (by rfl) ?_ | refine w_load0 I (by rfl) (by assumption) ?_) | ((with_reducible refine gstore ?_); (first | refine w_storeB I (by rfl) (by (conv => lhs; whnf) <;> rfl) (by first | (with_reducible repeat (first | exact .here | apply Upd.there)); done | repeat (first | exact .here | apply Upd.there)) (by rfl) (by rfl) (by simp only [List.set_cons_zero, List.set_cons_succ] <;> rfl) ?_ | refine w_storeBR I (by rfl) (by rfl) (by first | (with_reducible repeat (first | exact .here | apply Upd.there)); done | repeat (first | exact .here | apply Upd.there)) (by rfl) (by rfl) (by rfl) ?_); clear I; intro w I))
    exact ret_0 rfl rfl ⟨rfl, RWr.mk I (by first | (with_reducible repeat (first | exact .here | apply At.there)); done | repeat (first | exact .here | apply At.there)) (by first | (with_reducible repeat (first | exact .here | apply At.there)); done | repeat (first | exact .here | apply At.there))⟩
theorem ref04_WInt (g : Nat) (s : List UInt8 × Int) (n : Int) (hl : s.1.length ≤ 1000000) (w0 w : World) (L R : List Asr) (I : St w0 w L) (hA : At (RWr g s) L R) :
    Calls Tryd.prog 37 #[.pointer (some ⟨g, 0, none⟩), .int .i64 n] w fun en w' => en = .returned (.tuple #[]) ∧ St w0 w' (RWr g (Oct.putInt s n) :: R) := by
  unfold Oct.putInt
  have hq := u64_conv n
  have hc := ref04_WNum g s (Oct.u64 n) 8 (Oct.u64_lt n) hl w0 w L R I hA
  have HC := Lib.hid hc
  clear hc
  generalize Oct.u64 n = q at *
  go_enter Tryd.func37, Tryd.ntmps37
  go_wp2_with (go_at_call 36; go_must (refine (HC.out).mono ?_; rintro _ w1 ⟨rfl, S⟩))
  exact end_0 rfl rfl ⟨rfl, S⟩
set_option maxHeartbeats 1000000 in
theorem ref04_WRun (g : Nat) (s : List UInt8 × Int) (l : List UInt8) (v : Value) (hl : s.1.length ≤ 100000) (hl2 : l.length ≤ 100000) (w0 w : World) (L R : List Asr) (I : St w0 w L) (hA : At (RWr g s) L R) (h : Bytes w0 v l) :
    Calls Tryd.prog 39 #[.pointer (some ⟨g, 0, none⟩), v] w fun en w' => en = .returned (.tuple #[]) ∧ St w0 w' (RWr g (Oct.putRun s l) :: R) := by
  have HB := Lib.hid h
  obtain ⟨A, m, c, rfl, rfl, h2, h3, _, _⟩ := h
  unfold maxLen at h3
  have HC := Lib.hid (ref04_WNum g s l.length 4 (by omega) (by omega) w0 w L R I hA)
  have hq := u64_nat l.length (by omega)
  unfold Oct.putRun
  have hp : (Oct.put s l.length 4).1.length ≤ 100008 := by have := Oct.put_len s l.length 4; omega
  generalize Oct.put s l.length 4 = q at HC hp ⊢
  obtain ⟨b, e⟩ := q
  dsimp only at hp ⊢
  by_cases he : e = 0
  · subst he
    rw [if_neg (by simp)]
    go_enter Tryd.func39, Tryd.ntmps39
    go_wp2_with (first | (first | ((with_reducible refine gguard ?_); (first | refine w_guardT (by rfl) (fun hb => ?_) (fun hb => ?_) | refine w_guardF (by rfl) (fun hb => ?_) (fun hb => ?_)) <;> first | (cases hb; done) | cases hb | ((try rw [hb]) <;> (try simp at hb) <;> go_prune <;> (try (with_reducible replace hb := eqPair hb)))) | (((with_reducible refine gbox ?_); first | refine w_boxA I (by rfl) ?_ | refine w_box1 I (by (conv => lhs; whnf) <;> rfl) (by rfl) ?_); clear I; intro g w I) | ((with_reducible refine galloc ?_); refine w_alloc I ?_; clear I; intro g w I) | ((with_reducible refine gload ?_); first | refine w_loadB I (by rfl) (by first | (with_reducible repeat (first | exact .here | apply At.there)); done | repeat (first | exact .here | apply At.there)) (by rfl) ?_ | refine w_loadBR I (by rfl) (by first | (with_reducible repeat (first | exact .here | apply At.there)); done | repeat (first | exact .here | apply At.there)) (by rfl) ?_ | refine w_load0 I (by rfl) (by assumption) ?_) | ((with_reducible refine gstore ?_); (first | refine w_storeB I (by rfl) (by (conv => lhs; whnf) <;> rfl) (by first | (with_reducible repeat (first | exact .here | apply Upd.there)); done | repeat (first | exact .here | apply Upd.there)) (by rfl) (by rfl) (by simp only [List.set_cons_zero, List.set_cons_succ] <;> rfl) ?_ | refine w_storeBR I (by rfl) (by rfl) (by first | (with_reducible repeat (first | exact .here | apply Upd.there)); done | repeat (first | exact .here | apply Upd.there)) (by rfl) (by rfl) (by rfl) ?_); clear I; intro w I)) | (go_at_call 36; go_must (refine (HC.out).mono ?_; rintro _ w1 ⟨rfl, S⟩; clear I hA; obtain ⟨v, I⟩ := RWr.open S .here; clear S)) | ((with_reducible refine gappend ?_); refine w_append encB_len encB_one (by decide) I (by rfl) (by first | (with_reducible repeat (first | exact .here | apply At.there)); done | repeat (first | exact .here | apply At.there)) (by rfl) (l2 := l) (HB.out.frF I.fr) (by first | omega | (simp <;> omega)) (by unfold maxLen; first | omega | (simp <;> omega)) ?_; clear I; intro A m c w I))
    exact end_0 rfl rfl ⟨rfl, RWr.mk I (by first | (with_reducible repeat (first | exact .here | apply At.there)); done | repeat (first | exact .here | apply At.there)) (by first | (with_reducible repeat (first | exact .here | apply At.there)); done | repeat (first | exact .here | apply At.there))⟩
  · rw [if_pos he]
    have hb : (e == 0) = false := by simpa using he
    clear he
    go_enter Tryd.func39, Tryd.ntmps39
    go_wp2_with (first | (first | ((with_reducible refine gguard ?_); (first | refine w_guardT (by rfl) (fun hb => ?_) (fun hb => ?_) | refine w_guardF (by rfl) (fun hb => ?_) (fun hb => ?_)) <;> first | (cases hb; done) | cases hb | ((try rw [hb]) <;> (try simp at hb) <;> go_prune <;> (try (with_reducible replace hb := eqPair hb)))) | (((with_reducible refine gbox ?_); first | refine w_boxA I (by rfl) ?_ | refine w_box1 I (by (conv => lhs; whnf) <;> rfl) (by rfl) ?_); clear I; intro g w I) | ((with_reducible refine galloc ?_); refine w_alloc I ?_; clear I; intro g w I) | ((with_reducible refine gload ?_); first | refine w_loadB I (by rfl) (by first | (with_reducible repeat (first | exact .here | apply At.there)); done | repeat (first | exact .here | apply At.there)) (by rfl) ?_ | refine w_loadBR I (by rfl) (by first | (with_reducible repeat (first | exact .here | apply At.there)); done | repeat (first | exact .here | apply At.there)) (by rfl) ?_ | refine w_load0 I (by rfl) (by assumption) ?_) | ((with_reducible refine gstore ?_); (first | refine w_storeB I (by rfl) (by (conv => lhs; whnf) <;> rfl) (by first | (with_reducible repeat (first | exact .here | apply Upd.there)); done | repeat (first | exact .here | apply Upd.there)) (by rfl) (by rfl) (by simp only [List.set_cons_zero, List.set_cons_succ] <;> rfl) ?_ | refine w_storeBR I (by rfl) (by rfl) (by first | (with_reducible repeat (first | exact .here | apply Upd.there)); done | repeat (first | exact .here | apply Upd.there)) (by rfl) (by rfl) (by rfl) ?_); clear I; intro w I)) | (go_at_call 36; go_must (refine (HC.out).mono ?_; rintro _ w1 ⟨rfl, S⟩; clear I hA; obtain ⟨v, I⟩ := RWr.open S .here; clear S)))
    exact end_0 rfl rfl ⟨rfl, RWr.mk I (by first | (with_reducible repeat (first | exact .here | apply At.there)); done | repeat (first | exact .here | apply At.there)) (by first | (with_reducible repeat (first | exact .here | apply At.there)); done | repeat (first | exact .here | apply At.there))⟩
end Go.Proofs.YtpnpgeilhafepaaDoor
