
/- Contracts of package check and of its reference. -/
import Derived.Test.YtpnpgeilhafepaaRows
import Derived.Test.YtpnpgeilhafepaaLib
import Derived.Test.YtpnpgeilhafepaaCrc
import Derived.Laws.BitsAllLaws
namespace Go.Proofs.Ytpnpgeilhafepaa
open Go.RowKit Go.Hf

set_option maxRecDepth 100000 in
set_option maxHeartbeats 400000 in
theorem clone_bytes (v : Value) (l : List UInt8) (w : World) (h : SlV 1 (flat encB) w v l) (hm : l.length * 1 ≤ 140737488355328) :
    Calls Try.prog 93 #[v] w fun e w' => ∃ v', e = .returned v' ∧ Own w.heap.size 5 1 encB w' v' l ∧ Fr w w' ∧ (v' = .slice none 0 0 ↔ v = .slice none 0 0) := by
  obtain ⟨A, _, c, rfl, rfl, hl, _, hA, h⟩ := h
  have HS := Lib.hid h
  have HC := Lib.hid hl
  have HAc := Lib.hid hA
  have HM := Lib.hid hm
  clear h hl hA hm
  cases A with
  | none =>
    obtain rfl : l = [] := HS.out.1 rfl
    obtain rfl : c = 0 := HAc.out rfl
    have hq := fun wx => Lib.run_eql_slice_nil (P := Try.prog) wx 39 5 none 0 0 0 0 Try.underlying39
    go_enter Try.func93, Try.ntmps93
    go_wp2
    go_ret
    exact ⟨_, rfl, Own.nil _ _ _ _ _, Fr.refl _, by simp⟩
  | some a =>
    have hq := fun wx => Lib.run_eql_slice_nil (P := Try.prog) wx 39 5 (some a) l.length c 0 0 Try.underlying39
    go_enter Try.func93, Try.ntmps93
    go_wp2_with ((with_reducible refine gate (.call { callee := .builtin .append, args := #[.tmp 5, .tmp 6], argTypes := #[39, 39] }) rfl ?_); refine wpList_app rfl (.tmp 5) (.tmp 6) 39 rfl w.heap.size 5 (.int .u8 0) 1 1 Try.underlying39 (by kernel_rfl) rfl (by decide) encB_len encB_one (l := []) rfl (Own.lit _ _ _ _ w #[] [] (Nat.le_refl _) (Nat.zero_le _) encB_len rfl) rfl HC.out ((HS.out.fr (flat_stays _) ((Fr.refl w).alloc _)).raw encB_len (by decide)) (fun h => (by cases h)) ?_ ?_ ?_ ?_)
    · have := HM.out; simp; omega
    · have := HM.out; simp [maxLen]; omega
    · simp
    · intro v' w1 h1 h2 h3 _
      have H3 := Lib.hid h3
      clear h3
      go_wp2
      go_ret
      refine ⟨_, rfl, h1, Fr.grown ((Fr.refl w).alloc _) h2 (fun k hk => ?_), ?_⟩
      · simp [Value.ownBlock] at hk; omega
      · simpa using H3.out

theorem xor_val (r : BitVec 16) (b : UInt8) : bits .xor .u16 (r.toNat : Int) ((b.toNat : Int) * 256) = ((r ^^^ (b.toBitVec.setWidth 16 <<< 8)).toNat : Int) := by
  have hb := b.toNat_lt
  have e : ((b.toNat : Int) * 256) = ((b.toNat * 256 : Nat) : Int) := by omega
  rw [e, u16_xor_nat _ _ r.isLt (by omega), BitVec.toNat_xor]
  congr 2
  simp [BitVec.toNat_shiftLeft, Nat.shiftLeft_eq]
  omega
theorem shl_val (r : BitVec 16) : IntKind.u16.wrap ((r.toNat : Int) * 2) = ((r <<< 1).toNat : Int) := by
  rw [IntKind.wrap_u16]; simp [BitVec.toNat_shiftLeft, Nat.shiftLeft_eq]
theorem top_val (r : BitVec 16) : (bits .and .u16 (r.toNat : Int) 32768 != 0) = r.msb := by
  have : (32768 : Int) = ((32768 : Nat) : Int) := rfl
  rw [this, u16_and_nat _ _ r.isLt (by omega), BitVec.msb_eq_decide, show 32768 = 2 ^ 15 from rfl, nat_bit]
  have := r.isLt
  rw [Bool.eq_iff_iff]
  simp only [bne_iff_ne, decide_eq_true_eq]
  constructor <;> intro h <;> omega
theorem poly_val (r : BitVec 16) : bits .xor .u16 (r.toNat : Int) 4129 = ((r ^^^ 4129#16).toNat : Int) := by
  have : (4129 : Int) = ((4129 : Nat) : Int) := rfl
  rw [this, u16_xor_nat _ _ r.isLt (by omega), BitVec.toNat_xor]; rfl

set_option maxRecDepth 100000 in
set_option maxHeartbeats 1000000 in
theorem check_Of (v : Value) (l : List UInt8) (w : World) (h : Bytes w v l) :
    Calls Try.prog 94 #[v] w fun e w' => e = .returned (.int .u16 ((Crc.of l).toNat : Int)) ∧ w = w' := by
  have hm := h.len_le
  unfold maxLen at hm
  obtain ⟨A, _, c, rfl, rfl, _, _, _, hs⟩ := h
  have HS := Lib.hid hs
  clear hs
  go_enter Try.func94, Try.ntmps94
  go_wp2_with fail
  go_loop [3, 9] (fun s i => ∃ k : Nat, s = .int .u16 ((Crc.from' 65535#16 (l.take k)).toNat : Int) ∧ i = .int .i64 k ∧ k ≤ l.length) (fun _ i => l.length - (intOf i).toNat)
  case atStart => exact ⟨0, rfl, rfl, by omega⟩
  case round =>
    obtain ⟨k, rfl, rfl, hk⟩ := hrel
    by_cases hlt : k < l.length
    · obtain ⟨b, o, rfl, hcell⟩ := HS.out.atB k hlt
      have HT := Lib.hid (Crc.from_take 65535#16 l k hlt)
      generalize Crc.from' 65535#16 (l.take k) = r at HT ⊢
      generalize l[k] = x at hcell HT
      have hx := x.toNat_lt
      have hr := r.isLt
      have e1 := xor_val r x
      have HQ := Lib.hid (show Crc.byte r x = Crc.steps 8 (r ^^^ (x.toBitVec.setWidth 16 <<< 8)) from rfl)
      generalize r ^^^ (x.toBitVec.setWidth 16 <<< 8) = q at e1 HQ
      go_wp2_with fail
      go_loop [3, 18] (fun s i => ∃ (j : Nat), s = .int .u16 ((Crc.steps j q).toNat : Int) ∧ i = .int .i64 j ∧ j ≤ 8) (fun _ i => 8 - (intOf i).toNat)
      case atStart => exact ⟨0, rfl, rfl, by omega⟩
      case round =>
        obtain ⟨j, rfl, rfl, hj⟩ := hrel
        clear e1 hr
        by_cases hjt : j < 8
        · have HJ := Lib.hid (show Crc.steps (j + 1) q = Crc.step (Crc.steps j q) from rfl)
          generalize Crc.steps j q = z at HJ ⊢
          have hz := z.isLt
          have e2 := shl_val z
          have e3 := top_val z
          have e4 := poly_val (z <<< 1)
          cases hmsb : z.msb with
          | true =>
            have H1 := Lib.hid (show Crc.steps (j + 1) q = (z <<< 1) ^^^ 4129#16 from by rw [HJ.out, Crc.step, if_pos hmsb])
            rw [hmsb] at e3
            clear hmsb HJ
            generalize z <<< 1 = z1 at e2 e4 H1
            generalize z1 ^^^ 4129#16 = z2 at e4 H1
            go_wp2
            go_round
            case rel => exact ⟨j + 1, by rw [H1.out], by go_num, by omega⟩
            case measure => simp [intOf]; omega
          | false =>
            have H1 := Lib.hid (show Crc.steps (j + 1) q = z <<< 1 from by rw [HJ.out, Crc.step, if_neg (by simp [hmsb])])
            rw [hmsb] at e3
            clear hmsb HJ e4
            generalize z <<< 1 = z1 at e2 H1
            go_wp2
            go_round
            case rel => exact ⟨j + 1, by rw [H1.out], by go_num, by omega⟩
            case measure => simp [intOf]; omega
        · obtain rfl : j = 8 := by omega
          go_wp2
          go_round
          case rel => exact ⟨k + 1, by rw [HT.out, HQ.out], by go_num, by omega⟩
          case measure => simp [intOf]; omega
    · obtain rfl : k = l.length := by omega
      rw [List.take_length]
      go_wp2
      go_ret
      exact ⟨rfl, rfl⟩

set_option maxRecDepth 100000 in
set_option maxHeartbeats 1000000 in
theorem check_Seal (v : Value) (l : List UInt8) (w : World) (hm : l.length ≤ 140737488355000) (h : Bytes w v l) :
    Calls Try.prog 61 #[v] w fun e w' => ∃ v, e = .returned v ∧ Own w.heap.size 5 1 encB w' v (Crc.sealed l) ∧ Fr w w' := by
  have HS := Lib.hid h
  have HM := Lib.hid hm
  obtain ⟨A, _, c, rfl, rfl, _⟩ := h
  have H1 : (((Crc.of l).toNat : Int) / 256) = ((Crc.hi l).toNat : Int) := by rw [Crc.hi_val]; omega
  have H2 : (((Crc.of l).toNat : Int) % 256) = ((Crc.lo l).toNat : Int) := by rw [Crc.lo_val]; omega
  have hb := (Crc.of l).isLt
  have hb1 := (Crc.hi l).toNat_lt
  have hb2 := (Crc.lo l).toNat_lt
  have HD := Lib.hid (show Crc.sealed l = l ++ [Crc.hi l, Crc.lo l] from rfl)
  generalize hr : Crc.of l = r at *
  have HR := Lib.hid hr
  clear hr
  generalize Crc.hi l = x at *
  generalize Crc.lo l = y at *
  clear hm
  go_enter Try.func61, Try.ntmps61
  go_wp2_with (first | (go_at_call 94; refine (check_Of _ _ _ HS.out).mono ?_; rintro _ _ ⟨rfl, rfl⟩; rw [HR.out]) | (go_at_call 93; refine (clone_bytes _ _ _ HS.out (by have := HM.out; omega)).mono ?_; rintro _ w1 ⟨v, rfl, hv, hf, _⟩) | ((with_reducible refine gate (.call { callee := .builtin .append, args := #[.tmp 7, .tmp 13], argTypes := #[39, 39] }) rfl ?_); go_must (refine wpList_app rfl (.tmp 7) (.tmp 13) 39 rfl w.heap.size 5 (.int .u8 0) 1 1 Try.underlying39 (by kernel_rfl) rfl (by decide) encB_len encB_one (l2 := [x, y]) rfl (hv.fr ((Fr.refl _).alloc _)) rfl (Nat.le_refl _) (Raw.lit _ _ _ _ rfl) (fun h => (by cases h)) ?_ ?_ ?_ ?_)))
  · have := HM.out; simp; omega
  · have := HM.out; simp [maxLen]; omega
  · have := hf.size; simp; omega
  · intro v' w2 h1 h2 _ _
    go_wp2
    go_ret
    refine ⟨_, rfl, by rw [HD.out]; exact h1, Fr.grown (hf.alloc _) h2 (fun k hk => (hv.lt k hk).1)⟩

set_option maxRecDepth 100000 in
set_option maxHeartbeats 1000000 in
theorem equal_bytes (v1 v2 : Value) (l1 l2 : List UInt8) (w : World) (h1 : Bytes w v1 l1) (h2 : Bytes w v2 l2) :
    Calls Try.prog 97 #[v1, v2] w fun e w' => e = .returned (.bool (l1 == l2)) ∧ Dr w w' := by
  have hm := h1.len_le
  have hm2 := h2.len_le
  unfold maxLen at hm hm2
  obtain ⟨A1, _, c1, rfl, rfl, _, _, _, hs1⟩ := h1
  obtain ⟨A2, _, c2, rfl, rfl, _, _, _, hs2⟩ := h2
  have H1 := Lib.hid hs1
  have H2 := Lib.hid hs2
  clear hs1 hs2
  by_cases hlen : l1.length = l2.length
  · have HL := Lib.hid hlen
    have hd : ((l1.length : Int) != (l2.length : Int)) = false := by simp [hlen]
    have hlt2 : ∀ k, k < l1.length → k < l2.length := fun k h => by omega
    have HT := Lib.hid hlt2
    clear hlen hlt2
    go_enter Try.func97, Try.ntmps97
    go_wp2_with fail
    go_loopw [13] (fun i wr => ∃ k : Nat, i = .int .i64 k ∧ k ≤ l1.length ∧ Hid (l1.take k = l2.take k) ∧ Dr w wr) (fun i _ => l1.length - (intOf i).toNat)
    case atStart => exact ⟨0, rfl, by omega, rfl, Dr.refl _⟩
    case round =>
      obtain ⟨k, rfl, hk, ht, hf⟩ := hrel
      by_cases hlt : k < l1.length
      · have hlt2 := HT.out k hlt
        obtain ⟨b1, o1, rfl, hc1⟩ := H1.out.atB k hlt
        obtain ⟨b2, o2, rfl, hc2⟩ := H2.out.atB k hlt2
        replace hc1 := hf.cell hc1
        replace hc2 := hf.cell hc2
        have HS := Lib.hid (fun h => take_eq_step l1 l2 k hlt hlt2 ht.out h)
        have HN := Lib.hid (fun h => beq_false_of_get l1 l2 k hlt hlt2 h)
        generalize l1[k] = x at *
        generalize l2[k] = y at *
        have hi1 : (k : Int) < (l1.length : Int) := by omega
        have hi2 : (k : Int) < (l2.length : Int) := by omega
        by_cases hxy : x = y
        · subst hxy
          go_wp2_with fail
          go_quiet (fail)
          go_wp2_with fail
          go_roundw
          case rel => exact ⟨k + 1, by go_num, by omega, HS.out (by trivial), hf.drewN _⟩
          case measure => simp [intOf]; omega
        · have hd2 : ((x.toNat : Int) != (y.toNat : Int)) = true := by
            rw [bne_iff_ne]; intro h; exact hxy (UInt8.toNat_inj.1 (by omega))
          go_wp2_with fail
          go_quiet (fail)
          go_wp2_with fail
          go_ret
          exact ⟨by rw [HN.out hxy]; rfl, hf.drewN _⟩
      · obtain rfl : k = l1.length := by omega
        have HE := Lib.hid (beq_of_take l1 l2 HL.out ht.out)
        go_wp2_with fail
        go_ret
        exact ⟨by rw [HE.out]; rfl, hf⟩
  · rw [beq_false_of_len _ _ hlen]
    have hd : ((l1.length : Int) != (l2.length : Int)) = true := by simp; omega
    go_enter Try.func97, Try.ntmps97
    go_wp2_with fail
    go_ret
    exact ⟨rfl, Dr.refl _⟩

set_option maxRecDepth 100000 in
set_option maxHeartbeats 1000000 in
theorem check_Open (v : Value) (l : List UInt8) (w : World) (hm : l.length ≤ 140737488355000) (h : Bytes w v l) :
    Calls Try.prog 64 #[v] w fun e w' => ∃ v', e = .returned (.tuple #[v', .bool (Crc.good l)]) ∧ Own w.heap.size 5 1 encB w' v' (if Crc.good l then Crc.body l else []) ∧ Fr w w' := by
  have HM := Lib.hid hm
  obtain ⟨A, _, c, rfl, rfl, hl, hcm, hA, hs⟩ := h
  have HB : Hid (Bytes w (.slice A l.length c) l) := ⟨A, _, c, rfl, rfl, hl, hcm, hA, hs⟩
  have hm' : (l.length : Int) ≤ 9223372036854775807 := by unfold maxLen at hcm; omega
  clear hm hs hcm hA
  by_cases h2 : 2 ≤ l.length
  · have HT : Hid (Bytes w (.slice A (l.length - 2) c) (Crc.body l)) := HB.out.take _ (by omega)
    have HL : Hid ((Crc.body l).length ≤ 140737488355000) := by have := HM.out; unfold Crc.body; rw [Hid, List.length_take]; omega
    have hb1 : (2 : Int) ≤ (l.length : Int) := by omega
    have hn : ((l.length : Int) - 2).toNat = l.length - 2 := by omega
    cases hg : (Crc.sealed (Crc.body l) == l) with
    | true =>
      have HG := Lib.hid (show Crc.good l = true from by unfold Crc.good; rw [hg]; simp [h2])
      rw [HG.out]
      have HG2 := Lib.hid hg
      clear hg
      go_enter Try.func64, Try.ntmps64
      go_wp2_with (first | (go_at_call 61; go_must (refine (check_Seal _ _ _ HL.out HT.out).mono ?_; rintro _ w1 ⟨v1, rfl, hv, hf⟩)) | (go_at_call 97; go_must (refine (equal_bytes _ _ _ _ _ (hv.slv encB_len) (HB.out.frF hf)).mono ?_; rintro _ w1 ⟨rfl, hf2⟩; rw [HG2.out]; replace hf := hf.trans hf2.fr)) | (go_at_call 93; go_must (refine (clone_bytes _ _ _ (HT.out.frF hf) (by have := HL.out; omega)).mono ?_; rintro _ w1 ⟨v2, rfl, hv2, hf3, _⟩)))
      refine bodyPost_ret (v := .tuple #[v2, .bool true]) (by simp [results, Try.results64, go_sem]) rfl ⟨v2, rfl, ?_, hf.trans hf3⟩
      exact hv2.lower hf.size
    | false =>
      have HG := Lib.hid (show Crc.good l = false from by unfold Crc.good; rw [hg]; simp)
      rw [HG.out]
      have HG2 := Lib.hid hg
      clear hg
      go_enter Try.func64, Try.ntmps64
      go_wp2_with (first | (go_at_call 61; go_must (refine (check_Seal _ _ _ HL.out HT.out).mono ?_; rintro _ w1 ⟨v1, rfl, hv, hf⟩)) | (go_at_call 97; go_must (refine (equal_bytes _ _ _ _ _ (hv.slv encB_len) (HB.out.frF hf)).mono ?_; rintro _ w1 ⟨rfl, hf2⟩; rw [HG2.out]; replace hf := hf.trans hf2.fr)))
      go_ret2
      exact ⟨_, rfl, Own.nil _ _ _ _ _, hf⟩
  · have HG := Lib.hid (show Crc.good l = false from by unfold Crc.good; simp [h2])
    rw [HG.out]
    have hb1 : (l.length : Int) < 2 := by omega
    go_enter Try.func64, Try.ntmps64
    go_wp2_with fail
    go_ret2
    exact ⟨_, rfl, Own.nil _ _ _ _ _, Fr.refl _⟩

/-! ### The reference -/
theorem xor_bit (x y k P X : Nat) (hP : 2 ^ k = P) (hX : (x ^^^ y) % P = X) :
    ((((x : Int) / (P : Int)).tmod 2 != ((y : Int) / (P : Int)).tmod 2) = true ∧ (x ^^^ y) % 2 ^ (k + 1) = X + P) ∨
    ((((x : Int) / (P : Int)).tmod 2 != ((y : Int) / (P : Int)).tmod 2) = false ∧ (x ^^^ y) % 2 ^ (k + 1) = X) := by
  subst hP hX
  have h1 : (x ^^^ y) % 2 ^ (k + 1) = (x ^^^ y) % 2 ^ k + 2 ^ k * ((x ^^^ y) / 2 ^ k % 2) := by
    rw [Nat.pow_succ, Nat.mod_mul]
  have h2 : (x ^^^ y) / 2 ^ k % 2 = ((x / 2 ^ k % 2) ^^^ (y / 2 ^ k % 2)) := by
    rw [← Nat.shiftRight_eq_div_pow, ← Nat.shiftRight_eq_div_pow, ← Nat.shiftRight_eq_div_pow, Nat.shiftRight_xor_distrib, ← Nat.xor_mod_two_pow (n := 1)]
  have e1 : ((x : Int) / ((2 ^ k : Nat) : Int)) % 2 = ((x / 2 ^ k % 2 : Nat) : Int) := by omega
  have e2 : ((y : Int) / ((2 ^ k : Nat) : Int)) % 2 = ((y / 2 ^ k % 2 : Nat) : Int) := by omega
  rw [Int.tmod_eq_emod_of_nonneg (Int.ediv_nonneg (Int.natCast_nonneg _) (Int.natCast_nonneg _)), Int.tmod_eq_emod_of_nonneg (Int.ediv_nonneg (Int.natCast_nonneg _) (Int.natCast_nonneg _)), e1, e2, h1, h2]
  have hx : x / 2 ^ k % 2 = 0 ∨ x / 2 ^ k % 2 = 1 := by omega
  have hy : y / 2 ^ k % 2 = 0 ∨ y / 2 ^ k % 2 = 1 := by omega
  rcases hx with hx | hx <;> rcases hy with hy | hy <;> rw [hx, hy] <;> simp

set_option maxRecDepth 100000 in
set_option maxHeartbeats 1000000 in
theorem ref03_turn (a b : Int) (w : World) (a0 : 0 ≤ a) (a1 : a < 65536) (b0 : 0 ≤ b) (b1 : b < 65536) :
    Calls Try.prog 114 #[.int .i64 a, .int .i64 b] w fun e w' => e = .returned (.int .i64 ((a.toNat ^^^ b.toNat : Nat) : Int)) ∧ Dr w w' := by
  obtain ⟨x, rfl⟩ := Int.eq_ofNat_of_zero_le a0
  obtain ⟨y, rfl⟩ := Int.eq_ofNat_of_zero_le b0
  simp only [Int.toNat_natCast]
  have HZ := Lib.hid (show (x ^^^ y) < 2 ^ 16 from Nat.xor_lt_two_pow (by omega) (by omega))
  go_enter Try.func114, Try.ntmps114
  go_wp2_with fail
  go_loopw [5, 6, 7] (fun t p i wr => ∃ k : Nat, t = .int .i64 (((x ^^^ y) % 2 ^ k : Nat) : Int) ∧ p = .int .i64 ((2 ^ k : Nat) : Int) ∧ i = .int .i64 k ∧ k ≤ 16 ∧ Dr w wr) (fun _ _ i _ => 16 - (intOf i).toNat)
  case atStart => exact ⟨0, by simp [Nat.mod_one], rfl, rfl, by omega, Dr.refl _⟩
  case round =>
    obtain ⟨k, rfl, rfl, rfl, hk, hf⟩ := hrel
    by_cases hlt : k < 16
    · have hp0 : (0 : Int) < ((2 ^ k : Nat) : Int) := by have := Nat.two_pow_pos k; omega
      have hp1 : ((2 ^ k : Nat) : Int) ≤ 32768 := by have := Nat.pow_le_pow_right (n := 2) (by omega) (show k ≤ 15 by omega); omega
      generalize hP : 2 ^ k = P at *
      have HP := Lib.hid hP
      clear hP
      generalize hX : (x ^^^ y) % P = X
      have HX := Lib.hid hX
      clear hX
      have hP0 : ¬ P = 0 := by omega
      have q1 : IntKind.i64.wrap ((x : Int) / (P : Int)) = (x : Int) / (P : Int) := by
        have := Int.ediv_nonneg a0 (Int.le_of_lt hp0); have := Int.ediv_le_self (P : Int) a0; exact IntWalk.i64_in _ (by omega)
      have q2 : IntKind.i64.wrap ((y : Int) / (P : Int)) = (y : Int) / (P : Int) := by
        have := Int.ediv_nonneg b0 (Int.le_of_lt hp0); have := Int.ediv_le_self (P : Int) b0; exact IntWalk.i64_in _ (by omega)
      have HW := Lib.hid (xor_bit x y k P X HP.out HX.out)
      have hX : X < P := by rw [← HX.out]; exact Nat.mod_lt _ (by omega)
      have hX2 : (X : Int) + (P : Int) ≤ 65536 := by omega
      have hX0 : (0 : Int) ≤ (X : Int) + (P : Int) := by omega
      have hP2 : (2 : Int) * (P : Int) ≤ 65536 := by omega
      clear hp0 hp1 a1 b1 a0 b0 hX
      rcases HW.out with ⟨hd, HN⟩ | ⟨hd, HN⟩
      all_goals
        replace HN := Lib.hid HN
        go_wp2_with fail
        go_quiet (fail)
        go_wp2_with fail
        go_roundw
        case rel => exact ⟨k + 1, by rw [HN.out]; try go_num, by rw [Nat.pow_succ, HP.out]; go_num, by go_num, by omega, hf.drewN _⟩
        case measure => simp [intOf]; omega
    · obtain rfl : k = 16 := by omega
      have HE := Lib.hid (Nat.mod_eq_of_lt HZ.out)
      go_wp2_with fail
      go_ret
      exact ⟨by simp only [Array.getD]; simp [HE.out], hf⟩

theorem turn_byte (r : BitVec 16) (b : UInt8) : ((r.toNat : Int).toNat ^^^ (256 * (b.toNat : Int)).toNat) = (r ^^^ (b.toBitVec.setWidth 16 <<< 8)).toNat := by
  have hb := b.toNat_lt
  rw [BitVec.toNat_xor]
  congr 1
  simp [BitVec.toNat_shiftLeft, Nat.shiftLeft_eq]
  omega
theorem turn_poly (r : BitVec 16) : ((r.toNat : Int).toNat ^^^ (4129 : Int).toNat) = (r ^^^ 4129#16).toNat := by
  rw [BitVec.toNat_xor]; rfl
theorem dbl_val (r : BitVec 16) : ((2 : Int) * (r.toNat : Int)) % (65536 : Int) = ((r <<< 1).toNat : Int) := by
  simp [BitVec.toNat_shiftLeft, Nat.shiftLeft_eq]; omega
theorem top_dec (r : BitVec 16) : decide (32768 ≤ (r.toNat : Int)) = r.msb := by
  rw [BitVec.msb_eq_decide]; rw [Bool.eq_iff_iff]; simp; omega

set_option maxRecDepth 100000 in
set_option maxHeartbeats 1000000 in
theorem ref03_Of (v : Value) (l : List UInt8) (w : World) (h : Bytes w v l) :
    Calls Try.prog 96 #[v] w fun e w' => e = .returned (.int .i64 ((Crc.of l).toNat : Int)) ∧ Dr w w' := by
  have hm := h.len_le
  unfold maxLen at hm
  obtain ⟨A, _, c, rfl, rfl, _, _, _, hs⟩ := h
  have HS := Lib.hid hs
  clear hs
  go_enter Try.func96, Try.ntmps96
  go_wp2_with fail
  go_loopw [3, 4] (fun s i wr => ∃ k : Nat, s = .int .i64 ((Crc.from' 65535#16 (l.take k)).toNat : Int) ∧ i = .int .i64 k ∧ k ≤ l.length ∧ Dr w wr) (fun _ i _ => l.length - (intOf i).toNat)
  case atStart => exact ⟨0, rfl, rfl, by omega, Dr.refl _⟩
  case round =>
    obtain ⟨k, rfl, rfl, hk, hf⟩ := hrel
    by_cases hlt : k < l.length
    · obtain ⟨b, o, rfl, hcell⟩ := HS.out.atB k hlt
      replace hcell := hf.cell hcell
      have HT := Lib.hid (Crc.from_take 65535#16 l k hlt)
      generalize Crc.from' 65535#16 (l.take k) = r at HT ⊢
      generalize l[k] = x at hcell HT
      have hx := x.toNat_lt
      have HXr := Lib.hid r.isLt
      have HE1 := Lib.hid (turn_byte r x)
      have HQ := Lib.hid (show Crc.byte r x = Crc.steps 8 (r ^^^ (x.toBitVec.setWidth 16 <<< 8)) from rfl)
      generalize r ^^^ (x.toBitVec.setWidth 16 <<< 8) = q at HE1 HQ
      go_wp2_with (go_at_call 114; go_must (refine (ref03_turn _ _ _ (by omega) (by have := HXr.out; omega) (by omega) (by omega)).mono ?_; rintro _ w1 ⟨rfl, hf1⟩; rw [HE1.out]; replace hf := hf.trans hf1; clear hf1))
      obtain ⟨wo, rfl⟩ : ∃ wo : World, wo = w1 := ⟨_, rfl⟩
      go_loopw [3, 5] (fun s i wr => ∃ (j : Nat), s = .int .i64 ((Crc.steps j q).toNat : Int) ∧ i = .int .i64 j ∧ j ≤ 8 ∧ Dr w wr) (fun _ i _ => 8 - (intOf i).toNat)
      case atStart => exact ⟨0, rfl, rfl, by omega, hf⟩
      case round =>
        clear hf
        obtain ⟨j, rfl, rfl, hj, hf⟩ := hrel
        by_cases hjt : j < 8
        · have HJ := Lib.hid (show Crc.steps (j + 1) q = Crc.step (Crc.steps j q) from rfl)
          generalize Crc.steps j q = z at HJ ⊢
          have hz := z.isLt
          have E2 := Lib.hid (dbl_val z)
          have e3 := top_dec z
          have HZ1 := Lib.hid (z <<< 1).isLt
          have HE4 := Lib.hid (turn_poly (z <<< 1))
          cases hmsb : z.msb with
          | true =>
            have H1 := Lib.hid (show Crc.steps (j + 1) q = (z <<< 1) ^^^ 4129#16 from by rw [HJ.out, Crc.step, if_pos hmsb])
            rw [hmsb] at e3
            clear hmsb HJ
            generalize z <<< 1 = z1 at E2 HE4 H1 HZ1
            generalize z1 ^^^ 4129#16 = z2 at HE4 H1
            go_wp2_with (go_at_call 114; go_must (refine (ref03_turn _ _ _ (by have := E2.out; omega) (by have := E2.out; have := HZ1.out; omega) (by omega) (by omega)).mono ?_; rintro _ w1 ⟨rfl, hf1⟩; rw [E2.out, HE4.out]; replace hf := hf.trans hf1; clear hf1))
            go_roundw
            case rel => exact ⟨j + 1, by rw [H1.out], by go_num, by omega, hf⟩
            case measure => simp [intOf]; omega
          | false =>
            have H1 := Lib.hid (show Crc.steps (j + 1) q = z <<< 1 from by rw [HJ.out, Crc.step, if_neg (by simp [hmsb])])
            rw [hmsb] at e3
            clear hmsb HJ HE4
            generalize z <<< 1 = z1 at E2 H1 HZ1
            go_wp2_with fail
            go_roundw
            case rel => exact ⟨j + 1, by rw [H1.out, E2.out], by go_num, by omega, hf⟩
            case measure => simp [intOf]; omega
        · obtain rfl : j = 8 := by omega
          go_wp2_with fail
          go_roundw
          case rel => exact ⟨k + 1, by rw [HT.out, HQ.out], by go_num, by omega, hf⟩
          case measure => simp [intOf]; omega
    · obtain rfl : k = l.length := by omega
      rw [List.take_length]
      go_wp2_with fail
      go_ret
      exact ⟨rfl, hf⟩

set_option maxRecDepth 100000 in
set_option maxHeartbeats 1000000 in
theorem ref03_Same (v1 v2 : Value) (l1 l2 : List UInt8) (w : World) (h1 : Bytes w v1 l1) (h2 : Bytes w v2 l2) :
    Calls Try.prog 23 #[v1, v2] w fun e w' => e = .returned (.bool (l1 == l2)) ∧ Dr w w' := by
  have hm := h1.len_le
  have hm2 := h2.len_le
  unfold maxLen at hm hm2
  obtain ⟨A1, _, c1, rfl, rfl, _, _, _, hs1⟩ := h1
  obtain ⟨A2, _, c2, rfl, rfl, _, _, _, hs2⟩ := h2
  have H1 := Lib.hid hs1
  have H2 := Lib.hid hs2
  clear hs1 hs2
  by_cases hlen : l1.length = l2.length
  · have HL := Lib.hid hlen
    have hd : ((l1.length : Int) != (l2.length : Int)) = false := by simp [hlen]
    have hlt2 : ∀ k, k < l1.length → k < l2.length := fun k h => by omega
    have HT := Lib.hid hlt2
    clear hlen hlt2
    go_enter Try.func23, Try.ntmps23
    go_wp2_with fail
    go_loopw [5] (fun i wr => ∃ k : Nat, i = .int .i64 k ∧ k ≤ l1.length ∧ Hid (l1.take k = l2.take k) ∧ Dr w wr) (fun i _ => l1.length - (intOf i).toNat)
    case atStart => exact ⟨0, rfl, by omega, rfl, Dr.refl _⟩
    case round =>
      obtain ⟨k, rfl, hk, ht, hf⟩ := hrel
      by_cases hlt : k < l1.length
      · have hlt2 := HT.out k hlt
        obtain ⟨b1, o1, rfl, hc1⟩ := H1.out.atB k hlt
        obtain ⟨b2, o2, rfl, hc2⟩ := H2.out.atB k hlt2
        replace hc1 := hf.cell hc1
        replace hc2 := hf.cell hc2
        have HS := Lib.hid (fun h => take_eq_step l1 l2 k hlt hlt2 ht.out h)
        have HN := Lib.hid (fun h => beq_false_of_get l1 l2 k hlt hlt2 h)
        generalize l1[k] = x at *
        generalize l2[k] = y at *
        have hi1 : (k : Int) < (l1.length : Int) := by omega
        have hi2 : (k : Int) < (l2.length : Int) := by omega
        by_cases hxy : x = y
        · subst hxy
          go_wp2_with fail
          go_quiet (fail)
          go_wp2_with fail
          go_roundw
          case rel => exact ⟨k + 1, by go_num, by omega, HS.out (by trivial), hf.drewN _⟩
          case measure => simp [intOf]; omega
        · have hd2 : ((x.toNat : Int) != (y.toNat : Int)) = true := by
            rw [bne_iff_ne]; intro h; exact hxy (UInt8.toNat_inj.1 (by omega))
          go_wp2_with fail
          go_quiet (fail)
          go_wp2_with fail
          go_ret
          exact ⟨by rw [HN.out hxy]; rfl, hf.drewN _⟩
      · obtain rfl : k = l1.length := by omega
        have HE := Lib.hid (beq_of_take l1 l2 HL.out ht.out)
        go_wp2_with fail
        go_ret
        exact ⟨by rw [HE.out]; rfl, hf⟩
  · rw [beq_false_of_len _ _ hlen]
    have hd : ((l1.length : Int) != (l2.length : Int)) = true := by simp; omega
    go_enter Try.func23, Try.ntmps23
    go_wp2_with fail
    go_ret
    exact ⟨rfl, Dr.refl _⟩

set_option maxRecDepth 100000 in
set_option maxHeartbeats 1000000 in
theorem ref03_Seal (v : Value) (l : List UInt8) (w : World) (hm : l.length ≤ 140737488355000) (h : Bytes w v l) :
    Calls Try.prog 63 #[v] w fun e w' => ∃ v, e = .returned v ∧ Own w.heap.size 5 1 encB w' v (Crc.sealed l) ∧ Fr w w' := by
  have HS := Lib.hid h
  have HM := Lib.hid hm
  obtain ⟨A, _, c, rfl, rfl, hc, _, hA, hs⟩ := h
  have HC := Lib.hid hc
  have HAc := Lib.hid hA
  have HSl := Lib.hid hs
  have H1 : (((Crc.of l).toNat : Int) / 256) = ((Crc.hi l).toNat : Int) := by rw [Crc.hi_val]; omega
  have H2 : (((Crc.of l).toNat : Int) % 256) = ((Crc.lo l).toNat : Int) := by rw [Crc.lo_val]; omega
  have hb := (Crc.of l).isLt
  have hb1 := (Crc.hi l).toNat_lt
  have hb2 := (Crc.lo l).toNat_lt
  have HD := Lib.hid (show Crc.sealed l = l ++ [Crc.hi l, Crc.lo l] from rfl)
  generalize hr : Crc.of l = r at *
  have HR := Lib.hid hr
  clear hr
  generalize Crc.hi l = x at *
  generalize Crc.lo l = y at *
  clear hm hs hA hc
  go_enter Try.func63, Try.ntmps63
  go_wp2_with (first | (go_at_call 96; go_must (refine (ref03_Of _ _ _ HS.out).mono ?_; rintro _ w1 ⟨rfl, hf⟩; rw [HR.out]; replace hf := hf.fr)) | ((with_reducible refine gate (.call { callee := .builtin .append, args := #[.tmp 6, .tmp 7], argTypes := #[39, 39] }) rfl ?_); go_must (refine wpList_app rfl (.tmp 6) (.tmp 7) 39 rfl (w.heap.size) 5 (.int .u8 0) 1 1 Try.underlying39 (by kernel_rfl) rfl (by decide) encB_len encB_one (l2 := l) rfl (Own.lit _ _ _ _ _ #[] [] hf.size (Nat.zero_le _) encB_len rfl) rfl (HC.out) ((HSl.out.fr (flat_stays _) (hf.alloc _)).raw encB_len (by decide)) (HAc.out) ?_ ?_ ?_ ?_)))
  · have := HM.out; simp; omega
  · have := HM.out; simp [maxLen]; omega
  · have := hf.size; simp; omega
  · intro v2 w2 h1 h2 _ _
    have hf2 := Fr.grown (hf.alloc (.cells #[] 5)) h2 (fun k hk => by simp [Value.ownBlock] at hk; have := hf.size; omega)
    try rw [List.nil_append] at h1
    clear h2
    go_wp2_with ((with_reducible refine gate (.call { callee := .builtin .append, args := #[.tmp 8, .tmp 15], argTypes := #[39, 39] }) rfl ?_); go_must (refine wpList_app rfl (.tmp 8) (.tmp 15) 39 rfl (w.heap.size) 5 (.int .u8 0) 1 1 Try.underlying39 (by kernel_rfl) rfl (by decide) encB_len encB_one (l2 := [x, y]) rfl (h1.fr ((Fr.refl _).alloc _)) rfl (Nat.le_refl _) (Raw.lit _ _ _ _ rfl) (fun h => (by cases h)) ?_ ?_ ?_ ?_))
    · have := HM.out; simp; omega
    · have := HM.out; simp [maxLen]; omega
    · have := hf2.size; simp; omega
    · intro v3 w3 h3 h4 _ _
      go_wp2
      go_ret
      exact ⟨_, rfl, by rw [HD.out]; exact h3, Fr.grown (hf2.alloc _) h4 (fun k hk => (h1.lt k hk).1)⟩

set_option maxRecDepth 100000 in
set_option maxHeartbeats 1000000 in
theorem ref03_Good (v : Value) (l : List UInt8) (w : World) (h : Bytes w v l) :
    Calls Try.prog 69 #[v] w fun e w' => e = .returned (.bool (Crc.good l)) ∧ Dr w w' := by
  have hm := h.len_le
  unfold maxLen at hm
  obtain ⟨A, _, c, rfl, rfl, hl, hcm, hA, hs⟩ := h
  have HB : Hid (Bytes w (.slice A l.length c) l) := ⟨A, _, c, rfl, rfl, hl, hcm, hA, hs⟩
  have HS := Lib.hid hs
  clear hcm hA hs
  by_cases h2 : 2 ≤ l.length
  · have HT : Hid (Bytes w (.slice A (l.length - 2) c) (Crc.body l)) := HB.out.take _ (by omega)
    have HG := Lib.hid (Crc.good_eq l h2)
    rw [HG.out]
    obtain ⟨b, o, rfl, hc1⟩ := HS.out.atB (l.length - 2) (by omega)
    obtain ⟨b', o', e', hc2⟩ := HS.out.atB (l.length - 1) (by omega)
    obtain ⟨rfl, rfl⟩ : b = b' ∧ o = o' := by simpa using e'
    clear e'
    have hx := (l[l.length - 2]'(by omega)).toNat_lt
    have hy := (l[l.length - 1]'(by omega)).toNat_lt
    have hr := (Crc.of (Crc.body l)).isLt
    generalize hR : Crc.of (Crc.body l) = r at *
    have HR := Lib.hid hR
    clear hR
    generalize l[l.length - 2]'(by omega) = x at *
    generalize l[l.length - 1]'(by omega) = y at *
    have hb1 : (2 : Int) ≤ (l.length : Int) := by omega
    have hn : ((l.length : Int) - 2).toNat = l.length - 2 := by omega
    have hn1 : ((l.length : Int) - 2 + 1).toNat = l.length - 1 := by omega
    go_enter Try.func69, Try.ntmps69
    go_wp2_with fail
    go_quiet ((go_at_call 96; exact quiet_dr (ref03_Of _ _ _ (HT.out.frF ((Fr.refl _).drewN _)))))
    go_wp2_with fail
    go_ret
    exact ⟨by simp only [HR.out]; rfl, (Dr.refl _).drewN _⟩
  · have HG := Lib.hid (show Crc.good l = false from by unfold Crc.good; simp [h2])
    rw [HG.out]
    have hb1 : (l.length : Int) < 2 := by omega
    go_enter Try.func69, Try.ntmps69
    go_wp2_with fail
    go_ret
    exact ⟨rfl, Dr.refl _⟩

theorem sealed_9 : Crc.sealed [49, 50, 51, 52, 53, 54, 55, 56, 57] = [49, 50, 51, 52, 53, 54, 55, 56, 57, 41, 177] := by decide +kernel

end Go.Proofs.Ytpnpgeilhafepaa
