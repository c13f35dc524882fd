/- Octets (layer 4): there and back, plain. -/
import Derived.Test.YthgmnlkblomcaaaOctM
namespace Oct

theorem take_left (s : List UInt8 × Int) (n : Int) : (take s n).2.1.length ≤ s.1.length := by
  unfold take
  split
  · exact Nat.le_refl _
  · split
    · exact Nat.le_refl _
    · rw [List.length_drop]; omega
theorem num_left (s : List UInt8 × Int) (k : Int) : (num s k).2.1.length ≤ s.1.length := by
  unfold num
  split
  · exact Nat.le_refl _
  · exact take_left s k
theorem bool_left (s : List UInt8 × Int) : (bool s).2.1.length ≤ s.1.length := by
  have := num_left s 1
  unfold bool
  split <;> exact this
theorem run_left (s : List UInt8 × Int) : (run s).2.1.length ≤ s.1.length :=
  Nat.le_trans (take_left _ _) (num_left s 4)

/-- What is behind a thing of just that length. -/
theorem take_full (a r : List UInt8) (n : Int) (hn : (a.length : Int) = n) : take (a ++ r, 0) n = (a, (r, 0)) := by
  unfold take
  rw [if_neg (by simp), if_neg (by rw [List.length_append]; omega)]
  have : n.toNat = a.length := by omega
  rw [this]
  simp
theorem take_short (a : List UInt8) (n : Int) (hn : (a.length : Int) < n) : take (a, 0) n = ([], (a, 2)) := by
  unfold take
  rw [if_neg (by simp), if_pos hn]
theorem num_full (n : Nat) (k : Int) (r : List UInt8) (h1 : 1 ≤ k) (h8 : k ≤ 8) (hn : n < 256 ^ k.toNat) : num (be k.toNat n ++ r, 0) k = (n, (r, 0)) := by
  unfold num
  rw [if_neg (by omega), take_full _ _ _ (by rw [be_len]; omega), val_be _ _ hn]
theorem num_short (a : List UInt8) (k : Int) (h1 : 1 ≤ k) (h8 : k ≤ 8) (hn : (a.length : Int) < k) : num (a, 0) k = (0, (a, 2)) := by
  unfold num
  rw [if_neg (by omega), take_short _ _ hn]
  rfl
theorem drop_app (a b : List UInt8) (h : b ≠ []) : (a ++ b).dropLast = a ++ b.dropLast := by
  rw [List.dropLast_append_of_ne_nil h]
theorem drop_be (k n : Nat) : (be k n).dropLast.length = k - 1 := by rw [List.length_dropLast, be_len]
end Oct
namespace Go.Proofs.Ythgmnlkblomcaaa

/-- What writes a thing; its bytes; what reads it. -/
def wr (s : List UInt8 × Int) (x : Thing) : List UInt8 × Int :=
  if (x.kind.toNat : Int) % 4 = 0 then Oct.put s x.n x.size else if (x.kind.toNat : Int) % 4 = 1 then Oct.putInt s (Oct.i64 x.n) else if (x.kind.toNat : Int) % 4 = 2 then Oct.putBool s ((x.n : Int) % 2 == 1) else Oct.putRun s x.run
def piece (x : Thing) : List UInt8 :=
  if (x.kind.toNat : Int) % 4 = 0 then Oct.be x.size.toNat x.n else if (x.kind.toNat : Int) % 4 = 1 then Oct.be 8 x.n else if (x.kind.toNat : Int) % 4 = 2 then Oct.be 1 (if ((x.n : Int) % 2 == 1) = true then 1 else 0) else Oct.be 4 x.run.length ++ x.run
def rd (s : List UInt8 × Int) (x : Thing) : List UInt8 × Int :=
  if (x.kind.toNat : Int) % 4 = 0 then (Oct.num s x.size).2 else if (x.kind.toNat : Int) % 4 = 1 then (Oct.int s).2 else if (x.kind.toNat : Int) % 4 = 2 then (Oct.bool s).2 else (Oct.run s).2
/-- A thing that is written without an error. -/
def Fine (x : Thing) : Prop := x.n < 18446744073709551616 ∧ x.run.length ≤ 1000 ∧ ((x.kind.toNat : Int) % 4 = 0 → 1 ≤ x.size ∧ x.size ≤ 8 ∧ x.n < 256 ^ x.size.toNat)
theorem u64_i64 (n : Nat) (h : n < 18446744073709551616) : Oct.u64 (Oct.i64 n) = n := by
  unfold Oct.u64 Oct.i64
  split <;> omega
theorem wr_err (s : List UInt8 × Int) (x : Thing) (h : s.2 ≠ 0) : wr s x = s := by
  have hp : ∀ n z, Oct.put s n z = s := fun n z => by unfold Oct.put; rw [if_pos h]
  unfold wr Oct.putInt Oct.putBool Oct.putRun
  rw [hp, hp, hp, hp, if_pos h]
  simp
theorem wr_ok (E : List UInt8) (x : Thing) (hn : x.n < 18446744073709551616) (hr : x.run.length ≤ 1000) (h : (wr (E, 0) x).2 = 0) : wr (E, 0) x = (E ++ piece x, 0) ∧ Fine x := by
  unfold wr at h ⊢
  unfold piece Fine
  by_cases h0 : (x.kind.toNat : Int) % 4 = 0
  · rw [if_pos h0] at h ⊢
    rw [if_pos h0]
    unfold Oct.put at h ⊢
    rw [if_neg (by simp)] at h ⊢
    by_cases hc : x.size < 1 ∨ 8 < x.size ∨ 256 ^ x.size.toNat ≤ x.n
    · rw [if_pos hc] at h
      exact absurd h (by simp)
    · rw [if_neg hc]
      exact ⟨rfl, hn, hr, fun _ => ⟨by omega, by omega, by omega⟩⟩
  · rw [if_neg h0] at h ⊢
    rw [if_neg h0]
    refine ⟨?_, hn, hr, fun h => absurd h h0⟩
    by_cases h1 : (x.kind.toNat : Int) % 4 = 1
    · rw [if_pos h1, if_pos h1]
      unfold Oct.putInt Oct.put
      rw [if_neg (by simp), u64_i64 _ hn, if_neg (by have : (256 : Nat) ^ (8 : Int).toNat = 18446744073709551616 := by decide
                                                     omega)]
      rfl
    · rw [if_neg h1, if_neg h1]
      by_cases h2 : (x.kind.toNat : Int) % 4 = 2
      · rw [if_pos h2, if_pos h2]
        unfold Oct.putBool Oct.put
        rw [if_neg (by simp), if_neg (by have : (256 : Nat) ^ (1 : Int).toNat = 256 := by decide
                                         split <;> omega)]
        rfl
      · rw [if_neg h2, if_neg h2]
        have : Oct.put (E, 0) x.run.length 4 = (E ++ Oct.be 4 x.run.length, 0) := by
          unfold Oct.put
          rw [if_neg (by simp), if_neg (by have : (256 : Nat) ^ (4 : Int).toNat = 4294967296 := by decide
                                           omega)]
          rfl
        unfold Oct.putRun
        rw [this, if_neg (by simp), List.append_assoc]
theorem wrs_err (l : List Thing) : ∀ s, s.2 ≠ 0 → l.foldl wr s = s := by
  induction l with
  | nil => intro s _; rfl
  | cons x l ih => intro s h; rw [List.foldl_cons, wr_err s x h, ih s h]
theorem wrs_ok (l : List Thing) : ∀ E, (∀ x ∈ l, x.n < 18446744073709551616 ∧ x.run.length ≤ 1000) → (l.foldl wr (E, 0)).2 = 0 → l.foldl wr (E, 0) = (E ++ l.flatMap piece, 0) ∧ ∀ x ∈ l, Fine x := by
  induction l with
  | nil => intro E _ _; exact ⟨by simp, by simp⟩
  | cons x l ih =>
    intro E hb h
    rw [List.foldl_cons] at h ⊢
    have hx := hb x (.head _)
    by_cases he : (wr (E, 0) x).2 = 0
    · obtain ⟨h1, h2⟩ := wr_ok E x hx.1 hx.2 he
      rw [h1] at h ⊢
      obtain ⟨h3, h4⟩ := ih _ (fun y hy => hb y (.tail _ hy)) h
      refine ⟨by rw [h3, List.flatMap_cons, List.append_assoc], fun y hy => ?_⟩
      cases hy with
      | head => exact h2
      | tail _ hy => exact h4 y hy
    · rw [wrs_err _ _ he] at h
      exact absurd h he
theorem rd_0 (x : Thing) (r : List UInt8) (hf : Fine x) (h : (x.kind.toNat : Int) % 4 = 0) : Oct.num (piece x ++ r, 0) x.size = (x.n, (r, 0)) := by
  obtain ⟨h1, h8, hn⟩ := hf.2.2 h
  unfold piece
  rw [if_pos h, Oct.num_full _ _ _ h1 h8 hn]
theorem rd_1 (x : Thing) (r : List UInt8) (hf : Fine x) (h : (x.kind.toNat : Int) % 4 = 1) : Oct.int (piece x ++ r, 0) = (Oct.i64 x.n, (r, 0)) := by
  unfold piece Oct.int
  rw [if_neg (by omega), if_pos h]
  have := Oct.num_full x.n 8 r (by decide) (by decide) (by have : (256 : Nat) ^ (8 : Int).toNat = 18446744073709551616 := by decide
                                                           rw [this]; exact hf.1)
  rw [show Oct.be 8 x.n = Oct.be (8 : Int).toNat x.n from rfl, this]
theorem rd_2 (x : Thing) (r : List UInt8) (h : (x.kind.toNat : Int) % 4 = 2) : Oct.bool (piece x ++ r, 0) = ((x.n : Int) % 2 == 1, (r, 0)) := by
  unfold piece
  rw [if_neg (by omega), if_neg (by omega), if_pos h]
  unfold Oct.bool
  generalize ((x.n : Int) % 2 == 1) = b
  have : ∀ q : Nat, q < 256 → Oct.num (Oct.be 1 q ++ r, 0) 1 = (q, (r, 0)) := fun q hq => Oct.num_full q 1 r (by decide) (by decide) hq
  rw [this _ (by split <;> decide)]
  cases b <;> simp
theorem rd_3 (x : Thing) (r : List UInt8) (hf : Fine x) (h : (x.kind.toNat : Int) % 4 = 3) : Oct.run (piece x ++ r, 0) = (x.run, (r, 0)) := by
  unfold piece Oct.run
  rw [if_neg (by omega), if_neg (by omega), if_neg (by omega)]
  have := Oct.num_full x.run.length 4 (x.run ++ r) (by decide) (by decide) (by have : (256 : Nat) ^ (4 : Int).toNat = 4294967296 := by decide
                                                                               have := hf.2.1
                                                                               omega)
  rw [List.append_assoc, show Oct.be 4 x.run.length = Oct.be (4 : Int).toNat x.run.length from rfl, this]
  exact Oct.take_full _ _ _ rfl
theorem mod4 (x : Thing) : (x.kind.toNat : Int) % 4 = 0 ∨ (x.kind.toNat : Int) % 4 = 1 ∨ (x.kind.toNat : Int) % 4 = 2 ∨ (x.kind.toNat : Int) % 4 = 3 := by omega
theorem rd_ok (x : Thing) (r : List UInt8) (hf : Fine x) : rd (piece x ++ r, 0) x = (r, 0) := by
  unfold rd
  rcases mod4 x with h | h | h | h
  · rw [if_pos h, rd_0 x r hf h]
  · rw [if_neg (by omega), if_pos h, rd_1 x r hf h]
  · rw [if_neg (by omega), if_neg (by omega), if_pos h, rd_2 x r h]
  · rw [if_neg (by omega), if_neg (by omega), if_neg (by omega), rd_3 x r hf h]
theorem be_drop (k n : Nat) (h : 1 ≤ k) : ((Oct.be k n).dropLast.length : Int) < k := by rw [Oct.drop_be]; omega
theorem rd_short (x : Thing) (hf : Fine x) : (rd ((piece x).dropLast, 0) x).2 = 2 := by
  unfold rd piece
  rcases mod4 x with h | h | h | h
  · obtain ⟨h1, h8, hn⟩ := hf.2.2 h
    rw [if_pos h, if_pos h, Oct.num_short _ _ h1 h8 (by have := be_drop x.size.toNat x.n (by omega); omega)]
  · rw [if_neg (by omega), if_pos h, if_neg (by omega), if_pos h]
    unfold Oct.int
    rw [Oct.num_short _ 8 (by decide) (by decide) (be_drop 8 x.n (by decide))]
  · rw [if_neg (by omega), if_neg (by omega), if_pos h, if_neg (by omega), if_neg (by omega), if_pos h]
    unfold Oct.bool
    rw [Oct.num_short _ 1 (by decide) (by decide) (be_drop 1 _ (by decide))]
    rfl
  · rw [if_neg (by omega), if_neg (by omega), if_neg (by omega), if_neg (by omega), if_neg (by omega), if_neg (by omega)]
    unfold Oct.run
    by_cases hr : x.run = []
    · rw [hr, List.append_nil, Oct.num_short _ 4 (by decide) (by decide) (be_drop 4 _ (by decide))]
      rfl
    · rw [Oct.drop_app _ _ hr]
      have := Oct.num_full x.run.length 4 x.run.dropLast (by decide) (by decide) (by have : (256 : Nat) ^ (4 : Int).toNat = 4294967296 := by decide
                                                                                     have := hf.2.1
                                                                                     omega)
      have hp : 0 < x.run.length := List.length_pos_iff.2 hr
      rw [show Oct.be 4 x.run.length = Oct.be (4 : Int).toNat x.run.length from rfl, this, Oct.take_short _ _ (by rw [List.length_dropLast]; omega)]
theorem piece_ne (x : Thing) (hf : Fine x) : piece x ≠ [] := by
  intro h
  have h2 := rd_short x hf
  have h3 := rd_ok x [] hf
  rw [List.append_nil, h] at h3
  rw [h, show ([] : List UInt8).dropLast = [] from rfl, h3] at h2
  exact absurd h2 (by decide)
/-- Where the short reader stands, when F is left. -/
def Short (F : List UInt8) (s : List UInt8 × Int) : Prop := (F ≠ [] → s = (F.dropLast, 0)) ∧ (F = [] → s.2 = 2)
theorem short_next (x : Thing) (F : List UInt8) (s : List UInt8 × Int) (hf : Fine x) (h : Short (piece x ++ F) s) : Short F (rd s x) := by
  have hp := piece_ne x hf
  obtain rfl := h.1 (by simp [hp])
  by_cases hF : F = []
  · subst hF
    rw [List.append_nil]
    exact ⟨fun h => absurd rfl h, fun _ => rd_short x hf⟩
  · rw [Oct.drop_app _ _ hF, rd_ok x _ hf]
    exact ⟨fun _ => rfl, fun h => absurd h hF⟩
theorem flat_drop (l : List Thing) (k : Nat) (h : k < l.length) : (l.drop k).flatMap piece = piece l[k] ++ (l.drop (k + 1)).flatMap piece := by
  rw [List.drop_eq_getElem_cons h, List.flatMap_cons]
theorem fold_take (l : List Thing) (k : Nat) (h : k < l.length) : (l.take (k + 1)).foldl wr ([], 0) = wr ((l.take k).foldl wr ([], 0)) l[k] := by
  rw [List.take_succ_eq_append_getElem h, List.foldl_append]; rfl
end Go.Proofs.Ythgmnlkblomcaaa
