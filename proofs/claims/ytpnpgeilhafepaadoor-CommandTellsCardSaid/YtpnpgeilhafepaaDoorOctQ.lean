
/- Octets (layer 4): the reader. -/
import Derived.Test.YtpnpgeilhafepaaDoorOctR
import Derived.Test.YtpnpgeilhafepaaDoorStR
import Derived.Deep.CutBlock
namespace Go.Proofs.YtpnpgeilhafepaaDoor
open Go.RowKit Go.Hf

/-- A reader: what is still to be read, and its error. -/
def Re (g : Nat) (s : List UInt8 × Int) : Asr := ExS fun v => AllS [Blk g [v, .int .i64 s.2] 77, RdS 1 encB v s.1]
theorem Re.open {g : Nat} {s : List UInt8 × Int} {w0 w : World} {L R : List Asr} (I : St w0 w L) (hA : At (Re g s) L R) : ∃ A c, St w0 w (Blk g [.slice A s.1.length c, .int .i64 s.2] 77 :: RdS 1 encB (.slice A s.1.length c) s.1 :: R) := by
  obtain ⟨v, I⟩ := (I.take hA).ex
  have I := I.all
  obtain ⟨A, m, c, rfl, rfl, _⟩ := I.rd (.there .here)
  exact ⟨A, c, I⟩
theorem Re.mk {g : Nat} {b : List UInt8} {e : Int} {v : Value} {w0 w : World} {L R1 R : List Asr} (I : St w0 w L) (h1 : At (RdS 1 encB v b) L R1) (h2 : At (Blk g [v, .int .i64 e] 77) R1 R) : St w0 w (Re g (b, e) :: R) :=
  St.mkEx v (St.mkAll (M := [_, _]) ((((I.take h1).take (.there h2)))))
theorem octets_NewReader (v : Value) (l : List UInt8) (hl : l.length ≤ 1000000) (w0 w : World) (L : List Asr) (I : St w0 w L) (h : Bytes w v l) : Calls Tryd.prog 40 #[v] w fun en w' => ∃ g, en = .returned (.pointer (some ⟨g, 0, none⟩)) ∧ St w0 w' (Re g (l, 0) :: L) := by
  have H := Lib.hid h
  clear h
  go_enter Tryd.func40, Tryd.ntmps40
  go_wp2_with (first | (first | ((with_reducible refine gguard ?_); (first | refine w_guardT (by rfl) (fun hb => ?_) (fun hb => ?_) | refine w_guardF (by rfl) (fun hb => ?_) (fun hb => ?_)) <;> first | (cases hb; done) | cases hb | ((try rw [hb]) <;> (try simp at hb) <;> go_prune <;> (try (with_reducible replace hb := eqPair hb)))) | (((with_reducible refine gbox ?_); first | refine w_boxA I (by rfl) ?_ | refine w_box1 I (by (conv => lhs; whnf) <;> rfl) (by rfl) ?_); clear I; intro g w I) | ((with_reducible refine galloc ?_); refine w_alloc I ?_; clear I; intro g w I) | ((with_reducible refine gload ?_); first | refine w_loadB I (by rfl) (by first | (with_reducible repeat (first | exact .here | apply At.there)); done | repeat (first | exact .here | apply At.there)) (by rfl) ?_ | refine w_loadBR I (by rfl) (by first | (with_reducible repeat (first | exact .here | apply At.there)); done | repeat (first | exact .here | apply At.there)) (by rfl) ?_ | refine w_load0 I (by rfl) (by assumption) ?_) | ((with_reducible refine gstore ?_); (first | refine w_storeB I (by rfl) (by (conv => lhs; whnf) <;> rfl) (by first | (with_reducible repeat (first | exact .here | apply Upd.there)); done | repeat (first | exact .here | apply Upd.there)) (by rfl) (by rfl) (by simp only [List.set_cons_zero, List.set_cons_succ] <;> rfl) ?_ | refine w_storeBR I (by rfl) (by rfl) (by first | (with_reducible repeat (first | exact .here | apply Upd.there)); done | repeat (first | exact .here | apply Upd.there)) (by rfl) (by rfl) (by rfl) ?_); clear I; intro w I)) | (go_at_call 52; go_must (refine (clone_bytes _ l _ H.out (by omega)).mono ?_; rintro _ w1 ⟨v2, rfl, o, f, _⟩; replace I := (I.mkOwn f o).toRd encB_len; obtain ⟨A2, c2, rfl, _⟩ := o.reads encB_len; clear o f)))
  go_ret
  exact ⟨_, rfl, Re.mk I (by first | (with_reducible repeat (first | exact .here | apply At.there)); done | repeat (first | exact .here | apply At.there)) (by first | (with_reducible repeat (first | exact .here | apply At.there)); done | repeat (first | exact .here | apply At.there))⟩

theorem cut_block {A : Option Addr} {m k c c' : Nat} : Value.ownBlock (.slice (if c = k then A else A.map (·.add (k * 1))) m c') = Value.ownBlock (.slice A k c) := by
  split
  · cases A <;> rfl
  · cases A with
    | none => rfl
    | some a => simp [Value.ownBlock, Addr.add]; split <;> rfl
set_option maxRecDepth 100000 in
set_option maxHeartbeats 1000000 in
theorem octets_take (g : Nat) (s : List UInt8 × Int) (k : Nat) (hl : s.1.length ≤ 1000000) (w0 w : World) (L R : List Asr) (I : St w0 w L) (hA : At (Re g s) L R) :
    Calls Tryd.prog 54 #[.pointer (some ⟨g, 0, none⟩), .int .i64 k] w fun en w' => ∃ A m c, en = .returned (.slice A m c) ∧ St w0 w' (OwnS 5 1 encB (.slice A m c) (Oct.take s k).1 :: Re g (Oct.take s k).2 :: R) := by
  obtain ⟨A, c, I⟩ := Re.open I hA
  clear hA
  unfold Oct.take
  obtain ⟨b, e⟩ := s
  dsimp only at hl I ⊢
  by_cases he : e = 0
  · subst he
    rw [if_neg (by simp)]
    have hcap := (I.rd (.there .here))
    obtain ⟨_, _, _, hv, hlen, hmc, hcm, _, _⟩ := hcap
    injection hv with e1 e2 e3
    subst e1 e2 e3
    unfold maxLen at hcm
    by_cases hk : b.length < k
    · rw [if_pos (by omega)]
      have hkI : (b.length : Int) < (k : Int) := by omega
      go_enter Tryd.func54, Tryd.ntmps54
      go_wp2_with (first | (first | ((with_reducible refine gguard ?_); (first | refine w_guardT (by rfl) (fun hb => ?_) (fun hb => ?_) | refine w_guardF (by rfl) (fun hb => ?_) (fun hb => ?_)) <;> first | (cases hb; done) | cases hb | ((try rw [hb]) <;> (try simp at hb) <;> go_prune <;> (try (with_reducible replace hb := eqPair hb)))) | (((with_reducible refine gbox ?_); first | refine w_boxA I (by rfl) ?_ | refine w_box1 I (by (conv => lhs; whnf) <;> rfl) (by rfl) ?_); clear I; intro g w I) | ((with_reducible refine galloc ?_); refine w_alloc I ?_; clear I; intro g w I) | ((with_reducible refine gload ?_); first | refine w_loadB I (by rfl) (by first | (with_reducible repeat (first | exact .here | apply At.there)); done | repeat (first | exact .here | apply At.there)) (by rfl) ?_ | refine w_loadBR I (by rfl) (by first | (with_reducible repeat (first | exact .here | apply At.there)); done | repeat (first | exact .here | apply At.there)) (by rfl) ?_ | refine w_load0 I (by rfl) (by assumption) ?_) | ((with_reducible refine gstore ?_); (first | refine w_storeB I (by rfl) (by (conv => lhs; whnf) <;> rfl) (by first | (with_reducible repeat (first | exact .here | apply Upd.there)); done | repeat (first | exact .here | apply Upd.there)) (by rfl) (by rfl) (by simp only [List.set_cons_zero, List.set_cons_succ] <;> rfl) ?_ | refine w_storeBR I (by rfl) (by rfl) (by first | (with_reducible repeat (first | exact .here | apply Upd.there)); done | repeat (first | exact .here | apply Upd.there)) (by rfl) (by rfl) (by rfl) ?_); clear I; intro w I)) | (go_at_call 51; go_must (refine (octets_fails g 0 2 _ _ _ _ _ _ I (by first | (with_reducible repeat (first | exact .here | apply At.there)); done | repeat (first | exact .here | apply At.there))).mono ?_; rintro _ w1 ⟨rfl, S⟩; rw [if_pos rfl] at S; replace I := S; clear S)))
      go_ret
      exact ⟨none, 0, 0, rfl, (Re.mk I (by first | (with_reducible repeat (first | exact .here | apply At.there)); done | repeat (first | exact .here | apply At.there)) (by first | (with_reducible repeat (first | exact .here | apply At.there)); done | repeat (first | exact .here | apply At.there))).nilOwn _ _ _⟩
    · rw [if_neg (by omega)]
      have hkI : (k : Int) ≤ (b.length : Int) := by omega
      have hkc : (k : Int) ≤ (c : Int) := by omega
      have hk0 : (0 : Int) ≤ (k : Int) := by omega
      have hto : ((k : Int).toNat) = k := by omega
      rw [hto]
      have HD := Lib.hid (fun wx (h : Bytes wx (.slice A b.length c) b) => SlV.drop h k (by omega))
      have HT := Lib.hid (fun wx (h : Bytes wx (.slice A b.length c) b) => SlV.take h k (by omega))
      have HK := Lib.hid hk
      clear hk hto
      have hbk : ∀ (A' : Option Addr) (m' c' : Nat), b.drop k ≠ [] → Value.ownBlock (.slice (if c = k then A else A.map (·.add (k * 1))) m' c') = Value.ownBlock (.slice A b.length c) ∧ b ≠ [] := fun _ _ _ h => ⟨by rw [cut_block]; cases A <;> rfl, fun e => h (by rw [e]; simp)⟩
      have HBK := Lib.hid hbk
      clear hbk
      by_cases hck : c = k
      · subst hck
        go_enter Tryd.func54, Tryd.ntmps54
        go_wp2_with (first | (first | ((with_reducible refine gguard ?_); (first | refine w_guardT (by rfl) (fun hb => ?_) (fun hb => ?_) | refine w_guardF (by rfl) (fun hb => ?_) (fun hb => ?_)) <;> first | (cases hb; done) | cases hb | ((try rw [hb]) <;> (try simp at hb) <;> go_prune <;> (try (with_reducible replace hb := eqPair hb)))) | (((with_reducible refine gbox ?_); first | refine w_boxA I (by rfl) ?_ | refine w_box1 I (by (conv => lhs; whnf) <;> rfl) (by rfl) ?_); clear I; intro g w I) | ((with_reducible refine galloc ?_); refine w_alloc I ?_; clear I; intro g w I) | ((with_reducible refine gload ?_); first | refine w_loadB I (by rfl) (by first | (with_reducible repeat (first | exact .here | apply At.there)); done | repeat (first | exact .here | apply At.there)) (by rfl) ?_ | refine w_loadBR I (by rfl) (by first | (with_reducible repeat (first | exact .here | apply At.there)); done | repeat (first | exact .here | apply At.there)) (by rfl) ?_ | refine w_load0 I (by rfl) (by assumption) ?_) | ((with_reducible refine gstore ?_); (first | refine w_storeB I (by rfl) (by (conv => lhs; whnf) <;> rfl) (by first | (with_reducible repeat (first | exact .here | apply Upd.there)); done | repeat (first | exact .here | apply Upd.there)) (by rfl) (by rfl) (by simp only [List.set_cons_zero, List.set_cons_succ] <;> rfl) ?_ | refine w_storeBR I (by rfl) (by rfl) (by first | (with_reducible repeat (first | exact .here | apply Upd.there)); done | repeat (first | exact .here | apply Upd.there)) (by rfl) (by rfl) (by rfl) ?_); clear I; intro w I)) | (go_at_call 52; go_must (refine (clone_bytes _ (b.take c) _ (HT.out _ (I.rd (by first | (with_reducible repeat (first | exact .here | apply At.there)); done | repeat (first | exact .here | apply At.there)))) (by rw [List.length_take]; omega)).mono ?_; rintro _ w1 ⟨v2, rfl, o, f, _⟩; replace I := I.mkOwn f o; clear o f)))
        obtain ⟨A2, m2, c2, rfl⟩ := Bytes_own I .here
        have hd : b.drop c = [] := List.drop_eq_nil_of_le (by have := HK.out; omega)
        rw [hd]
        have I2 := (I.take (A := RdS 1 encB (.slice A b.length c) b) (by first | (with_reducible repeat (first | exact .here | apply At.there)); done | repeat (first | exact .here | apply At.there))).reRd (v' := .slice A 0 0) (l' := []) ⟨A, 0, 0, rfl, rfl, by omega, by omega, fun _ => rfl, SlA.nil _ _ _ _⟩ (fun h => absurd rfl h)
        go_ret
        exact ⟨A2, m2, c2, rfl, (Re.mk I2 (by first | (with_reducible repeat (first | exact .here | apply At.there)); done | repeat (first | exact .here | apply At.there)) (by first | (with_reducible repeat (first | exact .here | apply At.there)); done | repeat (first | exact .here | apply At.there))).take (by first | (with_reducible repeat (first | exact .here | apply At.there)); done | repeat (first | exact .here | apply At.there))⟩
      · have hck1 : ¬ ((c : Int) = (k : Int)) := by omega
        go_enter Tryd.func54, Tryd.ntmps54
        go_wp2_with (first | (first | ((with_reducible refine gguard ?_); (first | refine w_guardT (by rfl) (fun hb => ?_) (fun hb => ?_) | refine w_guardF (by rfl) (fun hb => ?_) (fun hb => ?_)) <;> first | (cases hb; done) | cases hb | ((try rw [hb]) <;> (try simp at hb) <;> go_prune <;> (try (with_reducible replace hb := eqPair hb)))) | (((with_reducible refine gbox ?_); first | refine w_boxA I (by rfl) ?_ | refine w_box1 I (by (conv => lhs; whnf) <;> rfl) (by rfl) ?_); clear I; intro g w I) | ((with_reducible refine galloc ?_); refine w_alloc I ?_; clear I; intro g w I) | ((with_reducible refine gload ?_); first | refine w_loadB I (by rfl) (by first | (with_reducible repeat (first | exact .here | apply At.there)); done | repeat (first | exact .here | apply At.there)) (by rfl) ?_ | refine w_loadBR I (by rfl) (by first | (with_reducible repeat (first | exact .here | apply At.there)); done | repeat (first | exact .here | apply At.there)) (by rfl) ?_ | refine w_load0 I (by rfl) (by assumption) ?_) | ((with_reducible refine gstore ?_); (first | refine w_storeB I (by rfl) (by (conv => lhs; whnf) <;> rfl) (by first | (with_reducible repeat (first | exact .here | apply Upd.there)); done | repeat (first | exact .here | apply Upd.there)) (by rfl) (by rfl) (by simp only [List.set_cons_zero, List.set_cons_succ] <;> rfl) ?_ | refine w_storeBR I (by rfl) (by rfl) (by first | (with_reducible repeat (first | exact .here | apply Upd.there)); done | repeat (first | exact .here | apply Upd.there)) (by rfl) (by rfl) (by rfl) ?_); clear I; intro w I)) | (go_at_call 52; go_must (refine (clone_bytes _ (b.take k) _ (HT.out _ (I.rd (by first | (with_reducible repeat (first | exact .here | apply At.there)); done | repeat (first | exact .here | apply At.there)))) (by rw [List.length_take]; omega)).mono ?_; rintro _ w1 ⟨v2, rfl, o, f, _⟩; replace I := I.mkOwn f o; clear o f)))
        obtain ⟨A2, m2, c2, rfl⟩ := Bytes_own I .here
        have I2 := (I.take (A := RdS 1 encB (.slice A b.length c) b) (by first | (with_reducible repeat (first | exact .here | apply At.there)); done | repeat (first | exact .here | apply At.there))).reRd (HD.out _ (I.rd (by first | (with_reducible repeat (first | exact .here | apply At.there)); done | repeat (first | exact .here | apply At.there)))) (HBK.out A _ _)
        rw [if_neg hck, Nat.mul_one] at I2
        go_ret
        exact ⟨A2, m2, c2, rfl, (Re.mk I2 (by first | (with_reducible repeat (first | exact .here | apply At.there)); done | repeat (first | exact .here | apply At.there)) (by first | (with_reducible repeat (first | exact .here | apply At.there)); done | repeat (first | exact .here | apply At.there))).take (by first | (with_reducible repeat (first | exact .here | apply At.there)); done | repeat (first | exact .here | apply At.there))⟩
  · rw [if_pos he]
    have hb : (e != 0) = true := by simpa using he
    clear he
    go_enter Tryd.func54, Tryd.ntmps54
    go_wp2_with (first | ((with_reducible refine gguard ?_); (first | refine w_guardT (by rfl) (fun hb => ?_) (fun hb => ?_) | refine w_guardF (by rfl) (fun hb => ?_) (fun hb => ?_)) <;> first | (cases hb; done) | cases hb | ((try rw [hb]) <;> (try simp at hb) <;> go_prune <;> (try (with_reducible replace hb := eqPair hb)))) | (((with_reducible refine gbox ?_); first | refine w_boxA I (by rfl) ?_ | refine w_box1 I (by (conv => lhs; whnf) <;> rfl) (by rfl) ?_); clear I; intro g w I) | ((with_reducible refine galloc ?_); refine w_alloc I ?_; clear I; intro g w I) | ((with_reducible refine gload ?_); first | refine w_loadB I (by rfl) (by first | (with_reducible repeat (first | exact .here | apply At.there)); done | repeat (first | exact .here | apply At.there)) (by rfl) ?_ | refine w_loadBR I (by rfl) (by first | (with_reducible repeat (first | exact .here | apply At.there)); done | repeat (first | exact .here | apply At.there)) (by rfl) ?_ | refine w_load0 I (by rfl) (by assumption) ?_) | ((with_reducible refine gstore ?_); (first | refine w_storeB I (by rfl) (by (conv => lhs; whnf) <;> rfl) (by first | (with_reducible repeat (first | exact .here | apply Upd.there)); done | repeat (first | exact .here | apply Upd.there)) (by rfl) (by rfl) (by simp only [List.set_cons_zero, List.set_cons_succ] <;> rfl) ?_ | refine w_storeBR I (by rfl) (by rfl) (by first | (with_reducible repeat (first | exact .here | apply Upd.there)); done | repeat (first | exact .here | apply Upd.there)) (by rfl) (by rfl) (by rfl) ?_); clear I; intro w I))
    go_ret
    exact ⟨none, 0, 0, rfl, (Re.mk I (by first | (with_reducible repeat (first | exact .here | apply At.there)); done | repeat (first | exact .here | apply At.there)) (by first | (with_reducible repeat (first | exact .here | apply At.there)); done | repeat (first | exact .here | apply At.there))).nilOwn _ _ _⟩
theorem or_eq (u x : Nat) (hu : u < 72057594037927936) (hx : x < 256) : bits .or .u64 ((u : Int) * 256) (x : Int) = ((256 * u + x : Nat) : Int) := by
  have e : ((u : Int) * 256) = ((u * 256 : Nat) : Int) := by omega
  rw [e, u64_or_nat _ _ (by omega) (by omega)]
  congr 1
  have h := Nat.shiftLeft_add_eq_or_of_lt (b := x) (i := 8) (by omega) u
  rw [Nat.shiftLeft_eq, show (2 : Nat) ^ 8 = 256 from rfl] at h
  omega
set_option maxRecDepth 100000 in
set_option maxHeartbeats 1000000 in
theorem octets_RNum (g : Nat) (s : List UInt8 × Int) (k : Nat) (h1 : 1 ≤ k) (h8 : k ≤ 8) (hl : s.1.length ≤ 1000000) (w0 w : World) (L R : List Asr) (I : St w0 w L) (hA : At (Re g s) L R) :
    Calls Tryd.prog 41 #[.pointer (some ⟨g, 0, none⟩), .int .i64 k] w fun en w' => en = .returned (.int .u64 (Oct.num s k).1) ∧ St w0 w' (Re g (Oct.num s k).2 :: R) := by
  unfold Oct.num
  rw [if_neg (by omega)]
  have HC := Lib.hid (octets_take g s k hl w0 w L R I hA)
  have hln := Oct.take_len s k (by omega)
  generalize Oct.take s k = q at HC hln ⊢
  obtain ⟨b, s2⟩ := q
  dsimp only at hln ⊢
  have z1 : decide ((k : Int) < 1) = false := decide_eq_false (by omega)
  have z8 : decide (8 < (k : Int)) = false := decide_eq_false (by omega)
  have k1 : (1 : Int) ≤ (k : Int) := by omega
  have k8 : (k : Int) ≤ 8 := by omega
  clear I hA
  go_enter Tryd.func41, Tryd.ntmps41
  go_wp2_with (go_at_call 54; go_must (refine (HC.out).mono ?_; rintro _ w1 ⟨A, m, c, rfl, I⟩))
  obtain ⟨_, _, _, hv, hlen, hmc, hcm, hA0, hs⟩ := I.slv .here encB_len
  injection hv with e1 e2 e3
  subst e1 e2 e3
  subst hlen
  unfold maxLen at hcm
  have HS := Lib.hid hs
  clear hs
  go_loop [5, 24] (fun u i => ∃ j : Nat, i = .int .i64 j ∧ j ≤ b.length ∧ u = .int .u64 (Oct.val (b.take j))) (fun _ i => b.length - (intOf i).toNat)
  case atStart => exact ⟨0, rfl, by omega, rfl⟩
  case round =>
    obtain ⟨j, rfl, hj, rfl⟩ := hrel
    by_cases hlt : j < b.length
    · obtain ⟨bb, o, rfl, hc⟩ := HS.out.atB j hlt
      have HV : Hid (Oct.val (b.take (j + 1)) = 256 * Oct.val (b.take j) + b[j].toNat) := Lib.hid (by rw [List.take_succ_eq_append_getElem hlt, Oct.val_snoc])
      have hu : Oct.val (b.take j) < 72057594037927936 := by
        have h1 := Oct.val_lt (b.take j)
        rw [List.length_take] at h1
        have h2 : 256 ^ (min j b.length) ≤ 256 ^ 7 := Nat.pow_le_pow_right (by decide) (by omega)
        have : (256 : Nat) ^ 7 = 72057594037927936 := by decide
        omega
      have hbt := b[j].toNat_lt
      generalize b[j] = x at *
      generalize Oct.val (b.take j) = u at *
      have hjl : (j : Int) < (b.length : Int) := by omega
      have HO := Lib.hid (or_eq u x.toNat hu (by omega))
      go_wp2_with fail
      go_round
      case rel => exact ⟨j + 1, by go_num, by omega, by rw [HV.out, HO.out]⟩
      case measure => simp [intOf]; omega
    · obtain rfl : j = b.length := by omega
      rw [List.take_length]
      go_wp2_with fail
      go_ret
      exact ⟨rfl, I.drop .here⟩
theorem octets_RNum_no (g : Nat) (s : List UInt8 × Int) (k : Int) (h : k < 1 ∨ 8 < k) (w0 w : World) (L R : List Asr) (I : St w0 w L) (hA : At (Re g s) L R) :
    Calls Tryd.prog 41 #[.pointer (some ⟨g, 0, none⟩), .int .i64 k] w fun en w' => en = .returned (.int .u64 0) ∧ St w0 w' (Re g (s.1, if s.2 = 0 then 1 else s.2) :: R) := by
  obtain ⟨A, c, I⟩ := Re.open I hA
  clear hA
  generalize he : (if s.2 = 0 then (1 : Int) else s.2) = e'
  have HE := Lib.hid he
  clear he
  go_enter Tryd.func41, Tryd.ntmps41
  go_wp2_with (first | (first | ((with_reducible refine gguard ?_); (first | refine w_guardT (by rfl) (fun hb => ?_) (fun hb => ?_) | refine w_guardF (by rfl) (fun hb => ?_) (fun hb => ?_)) <;> first | (cases hb; done) | cases hb | ((try rw [hb]) <;> (try simp at hb) <;> go_prune <;> (try (with_reducible replace hb := eqPair hb)))) | (((with_reducible refine gbox ?_); first | refine w_boxA I (by rfl) ?_ | refine w_box1 I (by (conv => lhs; whnf) <;> rfl) (by rfl) ?_); clear I; intro g w I) | ((with_reducible refine galloc ?_); refine w_alloc I ?_; clear I; intro g w I) | ((with_reducible refine gload ?_); first | refine w_loadB I (by rfl) (by first | (with_reducible repeat (first | exact .here | apply At.there)); done | repeat (first | exact .here | apply At.there)) (by rfl) ?_ | refine w_loadBR I (by rfl) (by first | (with_reducible repeat (first | exact .here | apply At.there)); done | repeat (first | exact .here | apply At.there)) (by rfl) ?_ | refine w_load0 I (by rfl) (by assumption) ?_) | ((with_reducible refine gstore ?_); (first | refine w_storeB I (by rfl) (by (conv => lhs; whnf) <;> rfl) (by first | (with_reducible repeat (first | exact .here | apply Upd.there)); done | repeat (first | exact .here | apply Upd.there)) (by rfl) (by rfl) (by simp only [List.set_cons_zero, List.set_cons_succ] <;> rfl) ?_ | refine w_storeBR I (by rfl) (by rfl) (by first | (with_reducible repeat (first | exact .here | apply Upd.there)); done | repeat (first | exact .here | apply Upd.there)) (by rfl) (by rfl) (by rfl) ?_); clear I; intro w I)) | (go_at_call 51; go_must (refine (octets_fails g s.2 1 _ _ _ _ _ _ I (by first | (with_reducible repeat (first | exact .here | apply At.there)); done | repeat (first | exact .here | apply At.there))).mono ?_; rintro _ w1 ⟨rfl, S⟩; rw [HE.out] at S; replace I := S; clear S)))
  all_goals first | (go_ret; exact ⟨rfl, Re.mk I (by first | (with_reducible repeat (first | exact .here | apply At.there)); done | repeat (first | exact .here | apply At.there)) (by first | (with_reducible repeat (first | exact .here | apply At.there)); done | repeat (first | exact .here | apply At.there))⟩) | omega
theorem octets_RNumA (g : Nat) (s : List UInt8 × Int) (k : Int) (hl : s.1.length ≤ 1000000) (w0 w : World) (L R : List Asr) (I : St w0 w L) (hA : At (Re g s) L R) :
    Calls Tryd.prog 41 #[.pointer (some ⟨g, 0, none⟩), .int .i64 k] w fun en w' => en = .returned (.int .u64 (Oct.num s k).1) ∧ St w0 w' (Re g (Oct.num s k).2 :: R) := by
  by_cases h : k < 1 ∨ 8 < k
  · have e : Oct.num s k = (0, (s.1, if s.2 = 0 then 1 else s.2)) := by unfold Oct.num; rw [if_pos h]
    rw [e]
    exact octets_RNum_no g s k h w0 w L R I hA
  · obtain ⟨j, rfl⟩ : ∃ j : Nat, k = j := ⟨k.toNat, by omega⟩
    exact octets_RNum g s j (by omega) (by omega) hl w0 w L R I hA
theorem i64_conv (n : Nat) (h : n < 18446744073709551616) : IntKind.i64.wrap (n : Int) = Oct.i64 n := by
  unfold Oct.i64
  simp only [IntKind.wrap, IntKind.signed, IntKind.bits]
  simp
  split <;> omega
theorem octets_RInt (g : Nat) (s : List UInt8 × Int) (hl : s.1.length ≤ 1000000) (w0 w : World) (L R : List Asr) (I : St w0 w L) (hA : At (Re g s) L R) :
    Calls Tryd.prog 42 #[.pointer (some ⟨g, 0, none⟩)] w fun en w' => en = .returned (.int .i64 (Oct.int s).1) ∧ St w0 w' (Re g (Oct.int s).2 :: R) := by
  unfold Oct.int
  have hq := i64_conv _ (Oct.num_lt s 8)
  have HC := Lib.hid (octets_RNumA g s 8 hl w0 w L R I hA)
  generalize Oct.num s 8 = q at *
  obtain ⟨n, s2⟩ := q
  dsimp only at hq ⊢
  have HQ := Lib.hid hq
  clear hq
  go_enter Tryd.func42, Tryd.ntmps42
  go_wp2_with (go_at_call 41; go_must (refine (HC.out).mono ?_; rintro _ w1 ⟨rfl, S⟩))
  go_ret
  refine ⟨congrArg (fun z => Ending.returned (.int .i64 z)) ?_, S⟩
  have h := HQ.out
  rw [IntWalk.i64_left] at h
  exact h
theorem octets_RRun (g : Nat) (s : List UInt8 × Int) (hl : s.1.length ≤ 1000000) (w0 w : World) (L R : List Asr) (I : St w0 w L) (hA : At (Re g s) L R) :
    Calls Tryd.prog 43 #[.pointer (some ⟨g, 0, none⟩)] w fun en w' => ∃ A m c, en = .returned (.slice A m c) ∧ St w0 w' (OwnS 5 1 encB (.slice A m c) (Oct.run s).1 :: Re g (Oct.run s).2 :: R) := by
  unfold Oct.run
  have HC := Lib.hid (octets_RNumA g s 4 hl w0 w L R I hA)
  have hq := i64_conv _ (Oct.num_lt s 4)
  have hq4 := Oct.num_lt4 s
  have hle : (Oct.num s 4).2.1.length ≤ 1000000 := by
    have : (Oct.num s 4).2.1.length ≤ s.1.length := by
      unfold Oct.num
      rw [if_neg (by decide)]
      unfold Oct.take
      repeat' split
      all_goals simp
    omega
  unfold Oct.i64 at hq
  rw [if_pos (by omega)] at hq
  clear I hA
  generalize Oct.num s 4 = q at *
  obtain ⟨n, s2⟩ := q
  dsimp only at hq hle ⊢
  have HT := Lib.hid (fun wx L R (I : St w0 wx L) (hA : At (Re g s2) L R) => octets_take g s2 n hle w0 wx L R I hA)
  clear hle
  go_enter Tryd.func43, Tryd.ntmps43
  go_wp2_with (first | (go_at_call 41; go_must (refine (HC.out).mono ?_; rintro _ w1 ⟨rfl, I⟩)) | (go_at_call 54; go_must (refine (HT.out _ _ _ I .here).mono ?_; rintro _ w1 ⟨A, m, c, rfl, I2⟩)))
  go_ret
  exact ⟨A, m, c, rfl, I2⟩
theorem octets_RLeft (g : Nat) (s : List UInt8 × Int) (w0 w : World) (L R : List Asr) (I : St w0 w L) (hA : At (Re g s) L R) :
    Calls Tryd.prog 55 #[.pointer (some ⟨g, 0, none⟩)] w fun en w' => en = .returned (.int .i64 (Oct.left s)) ∧ w = w' := by
  obtain ⟨A, c, I⟩ := Re.open I hA
  clear hA
  have hcm := I.rd (.there .here)
  obtain ⟨_, _, _, hv, hlen, hmc, hcm, _, _⟩ := hcm
  injection hv with e1 e2 e3
  subst e1 e2 e3
  unfold maxLen at hcm
  unfold Oct.left
  by_cases he : s.2 = 0
  · rw [if_neg (by simp [he])]
    have hb : (s.2 != 0) = false := by simp [he]
    clear he
    go_enter Tryd.func55, Tryd.ntmps55
    go_wp2_with (first | ((with_reducible refine gguard ?_); (first | refine w_guardT (by rfl) (fun hb => ?_) (fun hb => ?_) | refine w_guardF (by rfl) (fun hb => ?_) (fun hb => ?_)) <;> first | (cases hb; done) | cases hb | ((try rw [hb]) <;> (try simp at hb) <;> go_prune <;> (try (with_reducible replace hb := eqPair hb)))) | (((with_reducible refine gbox ?_); first | refine w_boxA I (by rfl) ?_ | refine w_box1 I (by (conv => lhs; whnf) <;> rfl) (by rfl) ?_); clear I; intro g w I) | ((with_reducible refine galloc ?_); refine w_alloc I ?_; clear I; intro g w I) | ((with_reducible refine gload ?_); first | refine w_loadB I (by rfl) (by first | (with_reducible repeat (first | exact .here | apply At.there)); done | repeat (first | exact .here | apply At.there)) (by rfl) ?_ | refine w_loadBR I (by rfl) (by first | (with_reducible repeat (first | exact .here | apply At.there)); done | repeat (first | exact .here | apply At.there)) (by rfl) ?_ | refine w_load0 I (by rfl) (by assumption) ?_) | ((with_reducible refine gstore ?_); (first | refine w_storeB I (by rfl) (by (conv => lhs; whnf) <;> rfl) (by first | (with_reducible repeat (first | exact .here | apply Upd.there)); done | repeat (first | exact .here | apply Upd.there)) (by rfl) (by rfl) (by simp only [List.set_cons_zero, List.set_cons_succ] <;> rfl) ?_ | refine w_storeBR I (by rfl) (by rfl) (by first | (with_reducible repeat (first | exact .here | apply Upd.there)); done | repeat (first | exact .here | apply Upd.there)) (by rfl) (by rfl) (by rfl) ?_); clear I; intro w I))
    go_ret
    exact ⟨rfl, rfl⟩
  · rw [if_pos he]
    have hb : (s.2 != 0) = true := by simpa using he
    clear he
    go_enter Tryd.func55, Tryd.ntmps55
    go_wp2_with (first | ((with_reducible refine gguard ?_); (first | refine w_guardT (by rfl) (fun hb => ?_) (fun hb => ?_) | refine w_guardF (by rfl) (fun hb => ?_) (fun hb => ?_)) <;> first | (cases hb; done) | cases hb | ((try rw [hb]) <;> (try simp at hb) <;> go_prune <;> (try (with_reducible replace hb := eqPair hb)))) | (((with_reducible refine gbox ?_); first | refine w_boxA I (by rfl) ?_ | refine w_box1 I (by (conv => lhs; whnf) <;> rfl) (by rfl) ?_); clear I; intro g w I) | ((with_reducible refine galloc ?_); refine w_alloc I ?_; clear I; intro g w I) | ((with_reducible refine gload ?_); first | refine w_loadB I (by rfl) (by first | (with_reducible repeat (first | exact .here | apply At.there)); done | repeat (first | exact .here | apply At.there)) (by rfl) ?_ | refine w_loadBR I (by rfl) (by first | (with_reducible repeat (first | exact .here | apply At.there)); done | repeat (first | exact .here | apply At.there)) (by rfl) ?_ | refine w_load0 I (by rfl) (by assumption) ?_) | ((with_reducible refine gstore ?_); (first | refine w_storeB I (by rfl) (by (conv => lhs; whnf) <;> rfl) (by first | (with_reducible repeat (first | exact .here | apply Upd.there)); done | repeat (first | exact .here | apply Upd.there)) (by rfl) (by rfl) (by simp only [List.set_cons_zero, List.set_cons_succ] <;> rfl) ?_ | refine w_storeBR I (by rfl) (by rfl) (by first | (with_reducible repeat (first | exact .here | apply Upd.there)); done | repeat (first | exact .here | apply Upd.there)) (by rfl) (by rfl) (by rfl) ?_); clear I; intro w I))
    go_ret
    exact ⟨rfl, rfl⟩
theorem octets_RDone (g : Nat) (s : List UInt8 × Int) (w0 w : World) (L R : List Asr) (I : St w0 w L) (hA : At (Re g s) L R) :
    Calls Tryd.prog 44 #[.pointer (some ⟨g, 0, none⟩)] w fun en w' => en = .returned (.int .i64 (Oct.done s)) ∧ w = w' := by
  have HL := Lib.hid (octets_RLeft g s w0 w L R I hA)
  obtain ⟨A, c, I⟩ := Re.open I hA
  clear hA
  unfold Oct.done
  generalize Oct.left s = z at *
  by_cases hz : 0 < z
  · rw [if_pos hz]
    go_enter Tryd.func44, Tryd.ntmps44
    go_wp2_with (first | (first | ((with_reducible refine gguard ?_); (first | refine w_guardT (by rfl) (fun hb => ?_) (fun hb => ?_) | refine w_guardF (by rfl) (fun hb => ?_) (fun hb => ?_)) <;> first | (cases hb; done) | cases hb | ((try rw [hb]) <;> (try simp at hb) <;> go_prune <;> (try (with_reducible replace hb := eqPair hb)))) | (((with_reducible refine gbox ?_); first | refine w_boxA I (by rfl) ?_ | refine w_box1 I (by (conv => lhs; whnf) <;> rfl) (by rfl) ?_); clear I; intro g w I) | ((with_reducible refine galloc ?_); refine w_alloc I ?_; clear I; intro g w I) | ((with_reducible refine gload ?_); first | refine w_loadB I (by rfl) (by first | (with_reducible repeat (first | exact .here | apply At.there)); done | repeat (first | exact .here | apply At.there)) (by rfl) ?_ | refine w_loadBR I (by rfl) (by first | (with_reducible repeat (first | exact .here | apply At.there)); done | repeat (first | exact .here | apply At.there)) (by rfl) ?_ | refine w_load0 I (by rfl) (by assumption) ?_) | ((with_reducible refine gstore ?_); (first | refine w_storeB I (by rfl) (by (conv => lhs; whnf) <;> rfl) (by first | (with_reducible repeat (first | exact .here | apply Upd.there)); done | repeat (first | exact .here | apply Upd.there)) (by rfl) (by rfl) (by simp only [List.set_cons_zero, List.set_cons_succ] <;> rfl) ?_ | refine w_storeBR I (by rfl) (by rfl) (by first | (with_reducible repeat (first | exact .here | apply Upd.there)); done | repeat (first | exact .here | apply Upd.there)) (by rfl) (by rfl) (by rfl) ?_); clear I; intro w I)) | (go_at_call 55; go_must (refine (HL.out).mono ?_; rintro _ w1 ⟨rfl, rfl⟩)))
    go_ret
    exact ⟨rfl, rfl⟩
  · rw [if_neg hz]
    go_enter Tryd.func44, Tryd.ntmps44
    go_wp2_with (first | (first | ((with_reducible refine gguard ?_); (first | refine w_guardT (by rfl) (fun hb => ?_) (fun hb => ?_) | refine w_guardF (by rfl) (fun hb => ?_) (fun hb => ?_)) <;> first | (cases hb; done) | cases hb | ((try rw [hb]) <;> (try simp at hb) <;> go_prune <;> (try (with_reducible replace hb := eqPair hb)))) | (((with_reducible refine gbox ?_); first | refine w_boxA I (by rfl) ?_ | refine w_box1 I (by (conv => lhs; whnf) <;> rfl) (by rfl) ?_); clear I; intro g w I) | ((with_reducible refine galloc ?_); refine w_alloc I ?_; clear I; intro g w I) | ((with_reducible refine gload ?_); first | refine w_loadB I (by rfl) (by first | (with_reducible repeat (first | exact .here | apply At.there)); done | repeat (first | exact .here | apply At.there)) (by rfl) ?_ | refine w_loadBR I (by rfl) (by first | (with_reducible repeat (first | exact .here | apply At.there)); done | repeat (first | exact .here | apply At.there)) (by rfl) ?_ | refine w_load0 I (by rfl) (by assumption) ?_) | ((with_reducible refine gstore ?_); (first | refine w_storeB I (by rfl) (by (conv => lhs; whnf) <;> rfl) (by first | (with_reducible repeat (first | exact .here | apply Upd.there)); done | repeat (first | exact .here | apply Upd.there)) (by rfl) (by rfl) (by simp only [List.set_cons_zero, List.set_cons_succ] <;> rfl) ?_ | refine w_storeBR I (by rfl) (by rfl) (by first | (with_reducible repeat (first | exact .here | apply Upd.there)); done | repeat (first | exact .here | apply Upd.there)) (by rfl) (by rfl) (by rfl) ?_); clear I; intro w I)) | (go_at_call 55; go_must (refine (HL.out).mono ?_; rintro _ w1 ⟨rfl, rfl⟩)))
    go_ret
    exact ⟨rfl, rfl⟩
end Go.Proofs.YtpnpgeilhafepaaDoor
