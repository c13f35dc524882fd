
/- Contracts of package check and of its reference. -/
import Derived.Test.YtpnpgeilhafepaaDoorRows
import Derived.Test.YtpnpgeilhafepaaDoorLib
import Derived.Test.YtpnpgeilhafepaaDoorCrc
import Derived.Laws.BitsAllLaws
namespace Go.Proofs.YtpnpgeilhafepaaDoor
open Go.RowKit Go.Hf

set_option maxRecDepth 100000 in
set_option maxHeartbeats 400000 in
theorem clone_bytes (v : Value) (l : List UInt8) (w : World) (h : SlV 1 (flat encB) w v l) (hm : l.length * 1 ≤ 140737488355328) :
    Calls Tryd.prog 52 #[v] w fun e w' => ∃ v', e = .returned v' ∧ Own w.heap.size 5 1 encB w' v' l ∧ Fr w w' ∧ (v' = .slice none 0 0 ↔ v = .slice none 0 0) := by
  obtain ⟨A, _, c, rfl, rfl, hl, _, hA, h⟩ := h
  have HS := Lib.hid h
  have HC := Lib.hid hl
  have HAc := Lib.hid hA
  have HM := Lib.hid hm
  clear h hl hA hm
  cases A with
  | none =>
    obtain rfl : l = [] := HS.out.1 rfl
    obtain rfl : c = 0 := HAc.out rfl
    have hq := fun wx => Lib.run_eql_slice_nil (P := Tryd.prog) wx 23 5 none 0 0 0 0 Tryd.underlying23
    go_enter Tryd.func52, Tryd.ntmps52
    go_wp2
    go_ret
    exact ⟨_, rfl, Own.nil _ _ _ _ _, Fr.refl _, by simp⟩
  | some a =>
    have hq := fun wx => Lib.run_eql_slice_nil (P := Tryd.prog) wx 23 5 (some a) l.length c 0 0 Tryd.underlying23
    go_enter Tryd.func52, Tryd.ntmps52
    go_wp2_with ((with_reducible refine gate (.call { callee := .builtin .append, args := #[.tmp 5, .tmp 6], argTypes := #[23, 23] }) rfl ?_); refine wpList_app rfl (.tmp 5) (.tmp 6) 23 rfl w.heap.size 5 (.int .u8 0) 1 1 Tryd.underlying23 (by kernel_rfl) rfl (by decide) encB_len encB_one (l := []) rfl (Own.lit _ _ _ _ w #[] [] (Nat.le_refl _) (Nat.zero_le _) encB_len rfl) rfl HC.out ((HS.out.fr (flat_stays _) ((Fr.refl w).alloc _)).raw encB_len (by decide)) (fun h => (by cases h)) ?_ ?_ ?_ ?_)
    · have := HM.out; simp; omega
    · have := HM.out; simp [maxLen]; omega
    · simp
    · intro v' w1 h1 h2 h3 _
      have H3 := Lib.hid h3
      clear h3
      go_wp2
      go_ret
      refine ⟨_, rfl, h1, Fr.grown ((Fr.refl w).alloc _) h2 (fun k hk => ?_), ?_⟩
      · simp [Value.ownBlock] at hk; omega
      · simpa using H3.out

theorem xor_val (r : BitVec 16) (b : UInt8) : bits .xor .u16 (r.toNat : Int) ((b.toNat : Int) * 256) = ((r ^^^ (b.toBitVec.setWidth 16 <<< 8)).toNat : Int) := by
  have hb := b.toNat_lt
  have e : ((b.toNat : Int) * 256) = ((b.toNat * 256 : Nat) : Int) := by omega
  rw [e, u16_xor_nat _ _ r.isLt (by omega), BitVec.toNat_xor]
  congr 2
  simp [BitVec.toNat_shiftLeft, Nat.shiftLeft_eq]
  omega
theorem shl_val (r : BitVec 16) : IntKind.u16.wrap ((r.toNat : Int) * 2) = ((r <<< 1).toNat : Int) := by
  rw [IntKind.wrap_u16]; simp [BitVec.toNat_shiftLeft, Nat.shiftLeft_eq]
theorem top_val (r : BitVec 16) : (bits .and .u16 (r.toNat : Int) 32768 != 0) = r.msb := by
  have : (32768 : Int) = ((32768 : Nat) : Int) := rfl
  rw [this, u16_and_nat _ _ r.isLt (by omega), BitVec.msb_eq_decide, show 32768 = 2 ^ 15 from rfl, nat_bit]
  have := r.isLt
  rw [Bool.eq_iff_iff]
  simp only [bne_iff_ne, decide_eq_true_eq]
  constructor <;> intro h <;> omega
theorem poly_val (r : BitVec 16) : bits .xor .u16 (r.toNat : Int) 4129 = ((r ^^^ 4129#16).toNat : Int) := by
  have : (4129 : Int) = ((4129 : Nat) : Int) := rfl
  rw [this, u16_xor_nat _ _ r.isLt (by omega), BitVec.toNat_xor]; rfl

/-! ### The reference -/
theorem xor_bit (x y k P X : Nat) (hP : 2 ^ k = P) (hX : (x ^^^ y) % P = X) :
    ((((x : Int) / (P : Int)).tmod 2 != ((y : Int) / (P : Int)).tmod 2) = true ∧ (x ^^^ y) % 2 ^ (k + 1) = X + P) ∨
    ((((x : Int) / (P : Int)).tmod 2 != ((y : Int) / (P : Int)).tmod 2) = false ∧ (x ^^^ y) % 2 ^ (k + 1) = X) := by
  subst hP hX
  have h1 : (x ^^^ y) % 2 ^ (k + 1) = (x ^^^ y) % 2 ^ k + 2 ^ k * ((x ^^^ y) / 2 ^ k % 2) := by
    rw [Nat.pow_succ, Nat.mod_mul]
  have h2 : (x ^^^ y) / 2 ^ k % 2 = ((x / 2 ^ k % 2) ^^^ (y / 2 ^ k % 2)) := by
    rw [← Nat.shiftRight_eq_div_pow, ← Nat.shiftRight_eq_div_pow, ← Nat.shiftRight_eq_div_pow, Nat.shiftRight_xor_distrib, ← Nat.xor_mod_two_pow (n := 1)]
  have e1 : ((x : Int) / ((2 ^ k : Nat) : Int)) % 2 = ((x / 2 ^ k % 2 : Nat) : Int) := by omega
  have e2 : ((y : Int) / ((2 ^ k : Nat) : Int)) % 2 = ((y / 2 ^ k % 2 : Nat) : Int) := by omega
  rw [Int.tmod_eq_emod_of_nonneg (Int.ediv_nonneg (Int.natCast_nonneg _) (Int.natCast_nonneg _)), Int.tmod_eq_emod_of_nonneg (Int.ediv_nonneg (Int.natCast_nonneg _) (Int.natCast_nonneg _)), e1, e2, h1, h2]
  have hx : x / 2 ^ k % 2 = 0 ∨ x / 2 ^ k % 2 = 1 := by omega
  have hy : y / 2 ^ k % 2 = 0 ∨ y / 2 ^ k % 2 = 1 := by omega
  rcases hx with hx | hx <;> rcases hy with hy | hy <;> rw [hx, hy] <;> simp

theorem turn_byte (r : BitVec 16) (b : UInt8) : ((r.toNat : Int).toNat ^^^ (256 * (b.toNat : Int)).toNat) = (r ^^^ (b.toBitVec.setWidth 16 <<< 8)).toNat := by
  have hb := b.toNat_lt
  rw [BitVec.toNat_xor]
  congr 1
  simp [BitVec.toNat_shiftLeft, Nat.shiftLeft_eq]
  omega
theorem turn_poly (r : BitVec 16) : ((r.toNat : Int).toNat ^^^ (4129 : Int).toNat) = (r ^^^ 4129#16).toNat := by
  rw [BitVec.toNat_xor]; rfl
theorem dbl_val (r : BitVec 16) : ((2 : Int) * (r.toNat : Int)) % (65536 : Int) = ((r <<< 1).toNat : Int) := by
  simp [BitVec.toNat_shiftLeft, Nat.shiftLeft_eq]; omega
theorem top_dec (r : BitVec 16) : decide (32768 ≤ (r.toNat : Int)) = r.msb := by
  rw [BitVec.msb_eq_decide]; rw [Bool.eq_iff_iff]; simp; omega

set_option maxRecDepth 100000 in
set_option maxHeartbeats 1000000 in
theorem ref03_Same (v1 v2 : Value) (l1 l2 : List UInt8) (w : World) (h1 : Bytes w v1 l1) (h2 : Bytes w v2 l2) :
    Calls Tryd.prog 12 #[v1, v2] w fun e w' => e = .returned (.bool (l1 == l2)) ∧ Dr w w' := by
  have hm := h1.len_le
  have hm2 := h2.len_le
  unfold maxLen at hm hm2
  obtain ⟨A1, _, c1, rfl, rfl, _, _, _, hs1⟩ := h1
  obtain ⟨A2, _, c2, rfl, rfl, _, _, _, hs2⟩ := h2
  have H1 := Lib.hid hs1
  have H2 := Lib.hid hs2
  clear hs1 hs2
  by_cases hlen : l1.length = l2.length
  · have HL := Lib.hid hlen
    have hd : ((l1.length : Int) != (l2.length : Int)) = false := by simp [hlen]
    have hlt2 : ∀ k, k < l1.length → k < l2.length := fun k h => by omega
    have HT := Lib.hid hlt2
    clear hlen hlt2
    go_enter Tryd.func12, Tryd.ntmps12
    go_wp2_with fail
    go_loopw [5] (fun i wr => ∃ k : Nat, i = .int .i64 k ∧ k ≤ l1.length ∧ Hid (l1.take k = l2.take k) ∧ Dr w wr) (fun i _ => l1.length - (intOf i).toNat)
    case atStart => exact ⟨0, rfl, by omega, rfl, Dr.refl _⟩
    case round =>
      obtain ⟨k, rfl, hk, ht, hf⟩ := hrel
      by_cases hlt : k < l1.length
      · have hlt2 := HT.out k hlt
        obtain ⟨b1, o1, rfl, hc1⟩ := H1.out.atB k hlt
        obtain ⟨b2, o2, rfl, hc2⟩ := H2.out.atB k hlt2
        replace hc1 := hf.cell hc1
        replace hc2 := hf.cell hc2
        have HS := Lib.hid (fun h => take_eq_step l1 l2 k hlt hlt2 ht.out h)
        have HN := Lib.hid (fun h => beq_false_of_get l1 l2 k hlt hlt2 h)
        generalize l1[k] = x at *
        generalize l2[k] = y at *
        have hi1 : (k : Int) < (l1.length : Int) := by omega
        have hi2 : (k : Int) < (l2.length : Int) := by omega
        by_cases hxy : x = y
        · subst hxy
          go_wp2_with fail
          go_quiet (fail)
          go_wp2_with fail
          go_roundw
          case rel => exact ⟨k + 1, by go_num, by omega, HS.out (by trivial), hf.drewN _⟩
          case measure => simp [intOf]; omega
        · have hd2 : ((x.toNat : Int) != (y.toNat : Int)) = true := by
            rw [bne_iff_ne]; intro h; exact hxy (UInt8.toNat_inj.1 (by omega))
          go_wp2_with fail
          go_quiet (fail)
          go_wp2_with fail
          go_ret
          exact ⟨by rw [HN.out hxy]; rfl, hf.drewN _⟩
      · obtain rfl : k = l1.length := by omega
        have HE := Lib.hid (beq_of_take l1 l2 HL.out ht.out)
        go_wp2_with fail
        go_ret
        exact ⟨by rw [HE.out]; rfl, hf⟩
  · rw [beq_false_of_len _ _ hlen]
    have hd : ((l1.length : Int) != (l2.length : Int)) = true := by simp; omega
    go_enter Tryd.func12, Tryd.ntmps12
    go_wp2_with fail
    go_ret
    exact ⟨rfl, Dr.refl _⟩

theorem sealed_9 : Crc.sealed [49, 50, 51, 52, 53, 54, 55, 56, 57] = [49, 50, 51, 52, 53, 54, 55, 56, 57, 41, 177] := by decide +kernel

end Go.Proofs.YtpnpgeilhafepaaDoor
