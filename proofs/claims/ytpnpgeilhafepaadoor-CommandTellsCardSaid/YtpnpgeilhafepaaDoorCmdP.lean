
/- Commands (layer 18), plain: there and back; none's bytes go on with others. -/
import Derived.Test.YtpnpgeilhafepaaDoorCmd
namespace Go.Proofs.YtpnpgeilhafepaaDoor
namespace Cmd
theorem take_full (a r : List UInt8) (n : Int) (hn : (a.length : Int) = n) : Oct.take (a ++ r, 0) n = (a, (r, 0)) := by
  unfold Oct.take
  rw [if_neg (by simp), if_neg (by rw [List.length_append]; omega)]
  have h : n.toNat = a.length := by omega
  rw [h, List.take_left' rfl, List.drop_left' rfl]
theorem num_full (n : Nat) (k : Int) (r : List UInt8) (h1 : 1 ≤ k) (h8 : k ≤ 8) (hn : n < 256 ^ k.toNat) : Oct.num (Oct.be k.toNat n ++ r, 0) k = (n, (r, 0)) := by
  unfold Oct.num
  rw [if_neg (by omega), take_full _ r k (by rw [Oct.be_len]; omega)]
  dsimp only
  rw [Oct.val_be _ _ hn]
theorem be_val : ∀ (k : Nat) (l : List UInt8), l.length = k → Oct.be k (Oct.val l) = l
  | 0, [], _ => rfl
  | k + 1, l, h => by
    obtain ⟨l', b, rfl⟩ : ∃ l' b, l = l' ++ [b] := ⟨l.dropLast, l.getLast (by intro e; subst e; simp at h), (List.dropLast_concat_getLast _).symm⟩
    have hl : l'.length = k := by simpa using h
    rw [Oct.be_split, Oct.val_snoc]
    have hb := b.toNat_lt
    have h1 : (256 * Oct.val l' + b.toNat) / 256 = Oct.val l' := by omega
    rw [h1, be_val k l' hl]
    have h2 : UInt8.ofNat (256 * Oct.val l' + b.toNat) = b := by
      apply UInt8.toNat.inj
      rw [UInt8.toNat_ofNat']
      omega
    rw [h2]
theorem take_inv (s : List UInt8 × Int) (n : Int) (hn : 0 ≤ n) (h : (Oct.take s n).2.2 = 0) : s.2 = 0 ∧ s.1 = (Oct.take s n).1 ++ (Oct.take s n).2.1 ∧ ((Oct.take s n).1.length : Int) = n := by
  unfold Oct.take at h ⊢
  by_cases h0 : s.2 ≠ 0
  · rw [if_pos h0] at h; exact absurd h h0
  · rw [if_neg h0] at h ⊢
    by_cases h1 : (s.1.length : Int) < n
    · rw [if_pos h1] at h; exact absurd h (by simp)
    · rw [if_neg h1] at h ⊢
      refine ⟨by simpa using h0, (List.take_append_drop _ _).symm, ?_⟩
      rw [List.length_take]; omega
theorem num_inv (s : List UInt8 × Int) (k : Int) (h1 : 1 ≤ k) (h8 : k ≤ 8) (h : (Oct.num s k).2.2 = 0) : s.2 = 0 ∧ s.1 = Oct.be k.toNat (Oct.num s k).1 ++ (Oct.num s k).2.1 := by
  unfold Oct.num at h ⊢
  rw [if_neg (by omega)] at h ⊢
  dsimp only at h ⊢
  obtain ⟨a, b, c⟩ := take_inv s k (by omega) h
  refine ⟨a, ?_⟩
  rw [be_val _ _ (by omega)]
  exact b
theorem u64_i64 (n : Nat) (h : n < 18446744073709551616) : Oct.u64 (Oct.i64 n) = n := by
  unfold Oct.u64 Oct.i64
  split <;> omega
theorem i64_u64 (n : Int) (h : -9223372036854775808 ≤ n ∧ n < 9223372036854775808) : Oct.i64 (Oct.u64 n) = n := by
  unfold Oct.u64 Oct.i64
  split <;> omega
theorem int_full (x : Int) (r : List UInt8) (h : -9223372036854775808 ≤ x ∧ x < 9223372036854775808) : Oct.int (num8 x ++ r, 0) = (x, (r, 0)) := by
  unfold Oct.int num8
  have := num_full (Oct.u64 x) 8 r (by decide) (by decide) (by have := Oct.u64_lt x; rw [show (8 : Int).toNat = 8 from rfl, show (256 : Nat) ^ 8 = 18446744073709551616 by decide]; omega)
  rw [show (8 : Int).toNat = 8 from rfl] at this
  rw [this]
  dsimp only
  rw [i64_u64 x h]
theorem int_inv (s : List UInt8 × Int) (h : (Oct.int s).2.2 = 0) : s.2 = 0 ∧ s.1 = num8 (Oct.int s).1 ++ (Oct.int s).2.1 := by
  obtain ⟨a, b⟩ := num_inv s 8 (by decide) (by decide) h
  refine ⟨a, ?_⟩
  show s.1 = Oct.be 8 (Oct.u64 (Oct.i64 (Oct.num s 8).1)) ++ (Oct.num s 8).2.1
  rw [u64_i64 _ (Oct.num_lt s 8)]
  exact b
theorem ints_cons (n : Nat) : ∀ s : List UInt8 × Int, ints (n + 1) s = ((Oct.int s).1 :: (ints n (Oct.int s).2).1, (ints n (Oct.int s).2).2) := by
  induction n with
  | zero => intro s; rfl
  | succ n ih =>
    intro s
    have h : ints (n + 1 + 1) s = ((ints (n + 1) s).1 ++ [(Oct.int (ints (n + 1) s).2).1], (Oct.int (ints (n + 1) s).2).2) := rfl
    rw [h, ih s]
    rfl
def inI (x : Int) : Prop := -9223372036854775808 ≤ x ∧ x < 9223372036854775808
theorem ints_full : ∀ (l : List Int) (r : List UInt8), (∀ x ∈ l, inI x) → ints l.length (l.flatMap num8 ++ r, 0) = (l, (r, 0))
  | [], r, _ => rfl
  | x :: l, r, h => by
    rw [List.length_cons, ints_cons, List.flatMap_cons, List.append_assoc, int_full x _ (h x (List.mem_cons_self ..))]
    dsimp only
    rw [ints_full l r (fun y hy => h y (List.mem_cons_of_mem _ hy))]
theorem ints_inv : ∀ (n : Nat) (s : List UInt8 × Int), (ints n s).2.2 = 0 → s.2 = 0 ∧ s.1 = (ints n s).1.flatMap num8 ++ (ints n s).2.1
  | 0, s, h => ⟨h, rfl⟩
  | n + 1, s, h => by
    rw [ints_cons] at h ⊢
    dsimp only at h ⊢
    obtain ⟨a, b⟩ := ints_inv n _ h
    obtain ⟨c, d⟩ := int_inv s a
    refine ⟨c, ?_⟩
    rw [List.flatMap_cons, List.append_assoc, ← b]
    exact d
theorem run_inv (s : List UInt8 × Int) (h : (Oct.run s).2.2 = 0) : s.2 = 0 ∧ s.1 = (Oct.be 4 (Oct.run s).1.length ++ (Oct.run s).1) ++ (Oct.run s).2.1 := by
  unfold Oct.run at h ⊢
  obtain ⟨a, b, c⟩ := take_inv _ _ (by omega) h
  obtain ⟨d, e⟩ := num_inv s 4 (by decide) (by decide) a
  refine ⟨d, ?_⟩
  have hc : (Oct.take (Oct.num s 4).2 (Oct.num s 4).1).1.length = (Oct.num s 4).1 := by omega
  rw [hc, List.append_assoc, ← b]
  exact e
theorem run_full (bs r : List UInt8) (h : bs.length ≤ 300) : Oct.run (Oct.be 4 bs.length ++ bs ++ r, 0) = (bs, (r, 0)) := by
  unfold Oct.run
  have := num_full bs.length 4 (bs ++ r) (by decide) (by decide) (by rw [show (4 : Int).toNat = 4 from rfl, show (256 : Nat) ^ 4 = 4294967296 by decide]; omega)
  rw [show (4 : Int).toNat = 4 from rfl] at this
  rw [List.append_assoc, this]
  exact take_full bs r _ rfl
theorem done_zero (s : List UInt8 × Int) : Oct.done s = 0 ↔ s = ([], 0) := by
  obtain ⟨b, e⟩ := s
  unfold Oct.done Oct.left
  dsimp only
  by_cases he : e = 0
  · subst he
    cases b with
    | nil => simp
    | cons x b => simp
  · simp [he]
theorem com_nums (k : Int) (l : List Int) (h : l.length ≤ 5) : (nums (com k l)).take l.length = l := by
  match l, h with
  | [], _ => rfl
  | [_], _ => rfl
  | [_, _], _ => rfl
  | [_, _, _], _ => rfl
  | [_, _, _, _], _ => rfl
  | [_, _, _, _, _], _ => rfl
  | _ :: _ :: _ :: _ :: _ :: _ :: l, h => simp at h <;> omega
theorem num1 (x : UInt8) (b : List UInt8) : Oct.num (x :: b, 0) 1 = (x.toNat, (b, 0)) := by
  have h := num_full x.toNat 1 b (by decide) (by decide) (by have := x.toNat_lt; simpa using this)
  have h2 : Oct.be (1 : Int).toNat x.toNat = [x] := by
    have := be_val 1 [x] rfl
    have hv : Oct.val [x] = x.toNat := by unfold Oct.val; simp
    rw [hv] at this
    exact this
  rw [h2] at h
  exact h
theorem decode_vals (b : List UInt8) : ((decode b).2 = 0 ∧ right (decode b).1.1 (decode b).1.2 = true) ∨ decode b = ((zero, []), 2) := by
  unfold decode
  dsimp only
  split
  · rename_i h; exact .inl ⟨rfl, h.2⟩
  · exact .inr rfl
theorem decode_right (b : List UInt8) (h : (decode b).2 = 0) : right (decode b).1.1 (decode b).1.2 = true := by
  rcases decode_vals b with h1 | h1
  · exact h1.2
  · rw [h1] at h; exact absurd h (by decide)
/-- The bytes of what bytes are are these. -/
theorem decode_bytes (b : List UInt8) (h : (decode b).2 = 0) : bytes (decode b).1.1 (decode b).1.2 = b := by
  have hr := decode_right b h
  have hk := right_kind hr
  unfold decode at h hr hk ⊢
  dsimp only at h hr hk ⊢
  by_cases hc : Oct.done (behind (Oct.num (b, 0) 1).1 (Oct.num (b, 0) 1).2).2 = 0 ∧ right (behind (Oct.num (b, 0) 1).1 (Oct.num (b, 0) 1).2).1.1 (behind (Oct.num (b, 0) 1).1 (Oct.num (b, 0) 1).2).1.2 = true
  · rw [if_pos hc] at hr hk ⊢
    have hd := (done_zero _).1 hc.1
    clear h hc
    have hn := num_inv (b, 0) 1 (by decide) (by decide)
    generalize Oct.num (b, 0) 1 = q0 at hd hr hk hn ⊢
    obtain ⟨k, s1⟩ := q0
    dsimp only at hd hr hk hn ⊢
    unfold behind at hd hr hk ⊢
    dsimp only at hd hr hk ⊢
    have hi := ints_inv (numbers (k : Int)).toNat s1
    have hil := ints_len (numbers (k : Int)).toNat s1
    generalize ints (numbers (k : Int)).toNat s1 = q1 at hd hr hk hi hil ⊢
    obtain ⟨l, s2⟩ := q1
    dsimp only at hd hr hk hi hil ⊢
    have hkk : (com (k : Int) l).kind = k := rfl
    rw [hkk] at hk
    have hhead : head (com (k : Int) l) = UInt8.ofNat k :: l.flatMap num8 := by
      unfold head
      rw [hkk, Int.toNat_natCast, ← hil, com_nums _ _ (by omega)]
    have hb1 : Oct.be (1 : Int).toNat k = [UInt8.ofNat k] := by
      show Oct.be (0 + 1) k = _
      rw [Oct.be_split]; rfl
    unfold bytes
    rw [hkk, hhead]
    by_cases hk0 : (k : Int) = 0
    · rw [if_pos hk0] at hd ⊢
      rw [if_pos hk0]
      obtain ⟨a, b1⟩ := run_inv s2 (by rw [hd])
      obtain ⟨c, d⟩ := hi a
      obtain ⟨_, e⟩ := hn c
      rw [hb1] at e
      rw [hd, List.append_nil] at b1
      rw [b1] at d
      rw [d] at e
      exact e.symm
    · rw [if_neg hk0] at hd ⊢
      dsimp only at hd
      obtain ⟨c, d⟩ := hi (by rw [hd])
      obtain ⟨_, e⟩ := hn c
      rw [hb1] at e
      rw [hd, List.append_nil] at d
      rw [d] at e
      exact e.symm
  · rw [if_neg hc] at h
    exact absurd h (by decide)
theorem encode_decode (b : List UInt8) (h : (decode b).2 = 0) : encode (decode b).1.1 (decode b).1.2 = (b, 0) := by
  unfold encode
  rw [if_pos (decode_right b h), decode_bytes b h]
theorem rest_com (m : Com) (n : Nat) (hn : n ≤ 5) (h : rest m n = true) : com m.kind ((nums m).take n) = m := by
  obtain ⟨k, a, b, c, d, e⟩ := m
  unfold rest at h
  rw [List.all_eq_true] at h
  have h0 := h 0 (by decide)
  have h1 := h 1 (by decide)
  have h2 := h 2 (by decide)
  have h3 := h 3 (by decide)
  have h4 := h 4 (by decide)
  clear h
  have h8 : n = 0 ∨ n = 1 ∨ n = 2 ∨ n = 3 ∨ n = 4 ∨ n = 5 := by omega
  rcases h8 with rfl | rfl | rfl | rfl | rfl | rfl <;> simp [nums] at h0 h1 h2 h3 h4 <;> simp [com, nums, *]
theorem right_rest' {m : Com} {bs : List UInt8} (h : right m bs = true) : rest m (numbers m.kind) = true := by
  unfold right at h
  simp only [Bool.and_eq_true] at h
  exact h.2
/-- A command that may be is that of its bytes. -/
theorem decode_of_bytes (m : Com) (bs : List UInt8) (hm : ∀ x ∈ nums m, inI x) (h : right m bs = true) : decode (bytes m bs) = ((m, bs), 0) := by
  obtain ⟨k0, k1, q0, q5, bl, bz⟩ := right_kind h
  have hrest := right_rest' h
  obtain ⟨n, hn⟩ : ∃ n : Nat, numbers m.kind = n := ⟨(numbers m.kind).toNat, by omega⟩
  obtain ⟨k, hk⟩ : ∃ k : Nat, m.kind = k := ⟨m.kind.toNat, by omega⟩
  rw [hn] at hrest
  have hcom := rest_com m n (by omega) hrest
  have hlen : ((nums m).take n).length = n := by rw [List.length_take]; have : (nums m).length = 5 := rfl; omega
  have hints (r : List UInt8) : ints n (((nums m).take n).flatMap num8 ++ r, 0) = ((nums m).take n, (r, 0)) := by
    have := ints_full ((nums m).take n) r (fun x hx => hm x (List.mem_of_mem_take hx))
    rw [hlen] at this
    exact this
  have hx : (UInt8.ofNat k).toNat = k := by rw [UInt8.toNat_ofNat']; omega
  have hhead : head m = UInt8.ofNat k :: ((nums m).take n).flatMap num8 := by
    unfold head
    rw [hn, hk]; rfl
  unfold decode
  dsimp only
  by_cases hk00 : m.kind = 0
  · have hb : bytes m bs = UInt8.ofNat k :: (((nums m).take n).flatMap num8 ++ (Oct.be 4 bs.length ++ bs)) := by
      unfold bytes
      rw [if_pos hk00, hhead]; rfl
    rw [hb, num1]
    dsimp only
    rw [hx]
    have hbe : behind (k : Int) (((nums m).take n).flatMap num8 ++ (Oct.be 4 bs.length ++ bs), 0) = ((m, bs), ([], 0)) := by
      unfold behind
      rw [← hk, hn, Int.toNat_natCast, hints]
      dsimp only
      rw [if_pos hk00, hcom]
      have := run_full bs [] (by omega)
      rw [List.append_nil] at this
      rw [this]
    rw [hbe]
    exact if_pos ⟨rfl, h⟩
  · have hbs : bs = [] := List.length_eq_zero_iff.1 (bz hk00)
    subst hbs
    have hb : bytes m [] = UInt8.ofNat k :: (((nums m).take n).flatMap num8 ++ []) := by
      unfold bytes
      rw [if_neg hk00, hhead, List.append_nil]
    rw [hb, num1]
    dsimp only
    rw [hx]
    have hbe : behind (k : Int) (((nums m).take n).flatMap num8 ++ [], 0) = ((m, []), ([], 0)) := by
      unfold behind
      rw [← hk, hn, Int.toNat_natCast, hints]
      dsimp only
      rw [if_neg hk00, hcom]
    rw [hbe]
    exact if_pos ⟨rfl, h⟩
/-- No command's bytes go on with others. -/
theorem bytes_free (m m' : Com) (bs bs' t : List UInt8) (h : right m bs = true) (h' : right m' bs' = true) (he : bytes m bs ++ t = bytes m' bs') : t = [] := by
  obtain ⟨k0, k1, q0, q5, bl, bz⟩ := right_kind h
  obtain ⟨k0', k1', q0', q5', bl', bz'⟩ := right_kind h'
  have hlen (m : Com) (h5 : 0 ≤ numbers m.kind ∧ numbers m.kind ≤ 5) : (head m).length = 1 + 8 * (numbers m.kind).toNat := by
    unfold head
    rw [List.length_cons, flat_len, List.length_take]
    have : (nums m).length = 5 := rfl
    omega
  have hb (m : Com) (bs : List UInt8) : ∃ r, bytes m bs = UInt8.ofNat m.kind.toNat :: r := by
    unfold bytes head
    split
    · exact ⟨_, rfl⟩
    · exact ⟨_, rfl⟩
  have hk : m.kind = m'.kind := by
    obtain ⟨r, hr⟩ := hb m bs
    obtain ⟨r', hr'⟩ := hb m' bs'
    rw [hr, hr', List.cons_append] at he
    injection he with he _
    have := congrArg UInt8.toNat he
    rw [UInt8.toNat_ofNat', UInt8.toNat_ofNat'] at this
    omega
  by_cases hz : m.kind = 0
  · have hz' : m'.kind = 0 := hk ▸ hz
    unfold bytes head at he
    rw [if_pos hz, if_pos hz', hz, hz', show (numbers 0).toNat = 0 by decide] at he
    rw [List.take_zero, List.take_zero, List.flatMap_nil, List.cons_append, List.cons_append, List.nil_append, List.cons_append, List.nil_append] at he
    injection he with _ he
    rw [List.append_assoc] at he
    obtain ⟨e1, e2⟩ := List.append_inj he (by rw [Oct.be_len, Oct.be_len])
    have e3 := congrArg Oct.val e1
    rw [Oct.val_be _ _ (by rw [show (256 : Nat) ^ 4 = 4294967296 by decide]; omega), Oct.val_be _ _ (by rw [show (256 : Nat) ^ 4 = 4294967296 by decide]; omega)] at e3
    have e4 := congrArg List.length e2
    rw [List.length_append] at e4
    exact List.length_eq_zero_iff.1 (by omega)
  · have hz' : m'.kind ≠ 0 := fun e => hz (hk ▸ e)
    have e := congrArg List.length he
    unfold bytes at e
    rw [if_neg hz, if_neg hz', List.length_append, hlen m ⟨q0, q5⟩, hlen m' ⟨q0', q5'⟩, hk] at e
    exact List.length_eq_zero_iff.1 (by omega)
theorem decode_two (b : List UInt8) (h : (decode b).2 ≠ 0) : (decode b).2 = 2 := by
  rcases decode_vals b with h1 | h1
  · exact absurd h1.1 h
  · rw [h1]
theorem none_less (m : Com) (bs : List UInt8) (h : right m bs = true) (n : Nat) (hn : n < (bytes m bs).length) : (decode ((bytes m bs).take n)).2 = 2 := by
  apply decode_two
  intro h0
  have h1 := decode_bytes _ h0
  have h2 := bytes_free _ m _ bs ((bytes m bs).drop n) (decode_right _ h0) h (by rw [h1, List.take_append_drop])
  have := congrArg List.length h2
  rw [List.length_drop] at this
  simp at this
  omega
theorem none_more (m : Com) (bs : List UInt8) (h : right m bs = true) (t : List UInt8) (ht : t ≠ []) : (decode (bytes m bs ++ t)).2 = 2 := by
  apply decode_two
  intro h0
  have h1 := decode_bytes _ h0
  exact ht (bytes_free m _ bs _ t h (decode_right _ h0) h1.symm)
theorem bytes_len (m : Com) (bs : List UInt8) (h : right m bs = true) : 0 < (bytes m bs).length ∧ (bytes m bs).length ≤ 109 := by
  obtain ⟨k0, k1, q0, q5, bl, bz⟩ := right_kind h
  have hlen : (head m).length = 1 + 8 * (numbers m.kind).toNat := by
    unfold head
    rw [List.length_cons, flat_len, List.length_take]
    have : (nums m).length = 5 := rfl
    omega
  unfold bytes
  split
  · rw [List.length_append, List.length_append, Oct.be_len, hlen]; omega
  · rw [hlen]; omega
end Cmd
end Go.Proofs.YtpnpgeilhafepaaDoor
