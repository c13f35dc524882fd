
/- Lots (layer 15): blocks sorted by insertion, and merged. -/
import Derived.Test.YtggeloihnbjogaaSrtF
namespace Go.Hf.Srt
variable {α : Type}
def seg (l : List α) (a b : Nat) : List α := (l.drop a).take (b - a)
theorem seg_split (l : List α) {a b : Nat} (hab : a ≤ b) : l = l.take a ++ (seg l a b ++ l.drop b) := by
  have h : (l.drop a).drop (b - a) = l.drop b := by rw [List.drop_drop, show a + (b - a) = b by omega]
  unfold seg
  rw [← h, List.take_append_drop, List.take_append_drop]
theorem seg_len (l : List α) {a b : Nat} (hab : a ≤ b) (hb : b ≤ l.length) : (seg l a b).length = b - a := by
  unfold seg
  rw [List.length_take, List.length_drop]
  omega
theorem seg_join (l : List α) {a m b : Nat} (h1 : a ≤ m) (h2 : m ≤ b) : seg l a b = seg l a m ++ seg l m b := by
  unfold seg
  rw [show b - a = (m - a) + (b - m) by omega, List.take_add, List.drop_drop, show a + (m - a) = m by omega]
theorem seg_all (l : List α) {n : Nat} (h : l.length = n) : seg l 0 n = l := by
  unfold seg
  rw [List.drop_zero, List.take_of_length_le (by omega)]
theorem seg_of {P M R : List α} {a b : Nat} (ha : P.length = a) (hb : a + M.length = b) : seg (P ++ (M ++ R)) a b = M ∧ (P ++ (M ++ R)).take a = P ∧ (P ++ (M ++ R)).drop b = R := by
  subst ha hb
  unfold seg
  refine ⟨by simp, by simp, ?_⟩
  rw [← List.append_assoc, ← List.length_append, List.drop_left]
theorem seg_lo {l l' : List α} {a c d : Nat} (h : l'.take a = l.take a) (hd : d ≤ a) : seg l' c d = seg l c d := by
  unfold seg
  have e : ∀ x : List α, (x.drop c).take (d - c) = ((x.take a).drop c).take (d - c) := fun x => by
    rw [List.drop_take, List.take_take]
    by_cases hc : c ≤ d
    · rw [Nat.min_eq_left (by omega)]
    · rw [show d - c = 0 by omega]; simp
  rw [e l', e l, h]
theorem seg_hi {l l' : List α} {b c d : Nat} (h : l'.drop b = l.drop b) (hc : b ≤ c) : seg l' c d = seg l c d := by
  unfold seg
  have e : ∀ x : List α, x.drop c = (x.drop b).drop (c - b) := fun x => by rw [List.drop_drop, show b + (c - b) = c by omega]
  rw [e l', e l, h]
theorem seg_sub (l : List α) (a b : Nat) : (seg l a b).Sublist l := (List.take_sublist _ _).trans (List.drop_sublist _ _)
/-- Blocks of one size, the last one perhaps shorter. -/
inductive Bk (S : Nat → Nat → Prop) (bs : Nat) : Nat → Nat → Prop
  | nil (a : Nat) : Bk S bs a a
  | one (a e : Nat) (h : a < e) (h2 : e ≤ a + bs) (hS : S a e) : Bk S bs a e
  | cons (a e : Nat) (hS : S a (a + bs)) (h : Bk S bs (a + bs) e) : Bk S bs a e
/-- Whole blocks of one size, from the front. -/
inductive Fc (S : Nat → Nat → Prop) (bs : Nat) : Nat → Prop
  | nil : Fc S bs 0
  | snoc (a : Nat) (h : Fc S bs a) (hS : S a (a + bs)) : Fc S bs (a + bs)
variable {S S' : Nat → Nat → Prop} {bs : Nat}
theorem Bk.le {a e : Nat} (h : Bk S bs a e) : a ≤ e := by
  induction h with
  | nil => exact Nat.le_refl _
  | one a e h => omega
  | cons a e _ _ ih => omega
theorem Bk.first {a e : Nat} (h : Bk S bs a e) (hp : 0 < bs) (he : a + bs ≤ e) : S a (a + bs) ∧ Bk S bs (a + bs) e := by
  cases h with
  | nil => omega
  | one _ _ _ h2 hS =>
    obtain rfl : e = a + bs := by omega
    exact ⟨hS, .nil _⟩
  | cons _ _ hS h => exact ⟨hS, h⟩
theorem Bk.only {a e : Nat} (h : Bk S bs a e) (hp : 0 < bs) (hae : a < e) (he : e ≤ a + bs) : S a e := by
  cases h with
  | nil => omega
  | one _ _ _ _ hS => exact hS
  | cons _ _ hS h =>
    have := h.le
    obtain rfl : e = a + bs := by omega
    exact hS
theorem Fc.join {a n : Nat} (h : Fc S bs a) (h2 : Bk S bs a n) : Bk S bs 0 n := by
  induction h with
  | nil => exact h2
  | snoc a h hS ih => exact ih (.cons _ _ hS h2)
theorem Fc.mono {a : Nat} (h : Fc S bs a) (hm : ∀ c d, d ≤ a → S c d → S' c d) : Fc S' bs a := by
  induction h with
  | nil => exact .nil
  | snoc a h hS ih => exact .snoc _ (ih fun c d hd => hm c d (by omega)) (hm _ _ (Nat.le_refl _) hS)
theorem Bk.mono {a e : Nat} (h : Bk S bs a e) (hm : ∀ c d, a ≤ c → S c d → S' c d) : Bk S' bs a e := by
  induction h with
  | nil => exact .nil _
  | one a e h h2 hS => exact .one _ _ h h2 (hm _ _ (Nat.le_refl _) hS)
  | cons a e hS h ih => exact .cons _ _ (hm _ _ (Nat.le_refl _) hS) (ih fun c d hc => hm c d (by omega))
end Go.Hf.Srt
namespace Go.Proofs.Ytggeloihnbjogaa
open Go.RowKit Go.Hf
/-- A stretch that is sorted, and holds what it held at first. -/
def Fef.Ok (D K : List Lt) (a b : Nat) : Prop := (Srt.seg K a b).Perm (Srt.seg D a b) ∧ (Srt.seg K a b).Pairwise Fef.lt
/-- A stretch was sorted, the others left. -/
structure Fef.Ch (D K K' : List Lt) (a b : Nat) : Prop where
  len : K'.length = K.length
  lo : K'.take a = K.take a
  hi : K'.drop b = K.drop b
  ok : Fef.Ok D K' a b
theorem Fef.Ch.below {D K K' : List Lt} {a b : Nat} (h : Fef.Ch D K K' a b) : ∀ c d, d ≤ a → Fef.Ok D K c d → Fef.Ok D K' c d := fun c d hd ho => by
  unfold Fef.Ok at *; rw [Srt.seg_lo h.lo hd]; exact ho
theorem Fef.Ch.above {D K K' : List Lt} {a b : Nat} (h : Fef.Ch D K K' a b) : ∀ c d, b ≤ c → Fef.Ok D K c d → Fef.Ok D K' c d := fun c d hd ho => by
  unfold Fef.Ok at *; rw [Srt.seg_hi h.hi hd]; exact ho
theorem insertion_seg (D K : List Lt) (a b g c q : Nat) (hq6 : q ≤ 1000000) (hK : K.length = q) (hD : D.length = q) (hab : a ≤ b) (hb : b ≤ q) (hs : Srt.seg K a b = Srt.seg D a b) (ht : D.Pairwise fun x y => x.tag < y.tag) (w0 w : World) (R : List Asr) (I : St w0 w (OwnT (.slice (some ⟨g, 0, none⟩) q c) K :: R)) :
    Calls Try.prog 130 #[.slice (some ⟨g, 0, none⟩) q c, .int .i64 a, .int .i64 b, sortF] w fun e w' => e = .returned (.tuple #[]) ∧ ∃ K', Fef.Ch D K K' a b ∧ St w0 w' (OwnT (.slice (some ⟨g, 0, none⟩) q c) K' :: R) := by
  have e := Srt.seg_split K hab
  have hl := Srt.seg_len K hab (by omega)
  have hP : (K.take a).length = a := by rw [List.length_take]; omega
  refine (insertion_lots (K.take a) (Srt.seg K a b) (K.drop b) a b g c q hq6 hP (by omega) (by rw [hs]; exact ht.sublist (Srt.seg_sub D a b)) w0 w _ R (by rw [← e]; exact I) .here).mono ?_
  rintro _ w1 ⟨rfl, M, h1, h2, S⟩
  have hM := Srt.seg_of (P := K.take a) (M := M) (R := K.drop b) (b := b) hP (by rw [h1.length_eq, hl]; omega)
  refine ⟨rfl, _, ⟨?_, hM.2.1, hM.2.2, ?_⟩, S⟩
  · have := congrArg List.length e
    rw [List.length_append, List.length_append] at this ⊢
    rw [h1.length_eq]; exact this.symm
  · unfold Fef.Ok
    rw [hM.1, ← hs]
    exact ⟨h1, h2⟩
theorem merge_seg (D K : List Lt) (a m b g c q : Nat) (hq6 : q ≤ 1000000) (hK : K.length = q) (hD : D.length = q) (ham : a < m) (hmb : m < b) (hb : b ≤ q) (o1 : Fef.Ok D K a m) (o2 : Fef.Ok D K m b) (ht : D.Pairwise fun x y => x.tag < y.tag) (w0 w : World) (R : List Asr) (I : St w0 w (OwnT (.slice (some ⟨g, 0, none⟩) q c) K :: R)) :
    Calls Try.prog 131 #[.slice (some ⟨g, 0, none⟩) q c, .int .i64 a, .int .i64 m, .int .i64 b, sortF] w fun e w' => e = .returned (.tuple #[]) ∧ ∃ K', Fef.Ch D K K' a b ∧ St w0 w' (OwnT (.slice (some ⟨g, 0, none⟩) q c) K' :: R) := by
  have e := Srt.seg_split K (show a ≤ b by omega)
  rw [Srt.seg_join K (show a ≤ m by omega) (show m ≤ b by omega), List.append_assoc] at e
  have hl1 := Srt.seg_len K (show a ≤ m by omega) (by omega)
  have hl2 := Srt.seg_len K (show m ≤ b by omega) (by omega)
  have hP : (K.take a).length = a := by rw [List.length_take]; omega
  have htd : ∀ x ∈ Srt.seg D a m, ∀ y ∈ Srt.seg D m b, x.tag < y.tag := by
    have h1 := ht.sublist (Srt.seg_sub D a b)
    rw [Srt.seg_join D (show a ≤ m by omega) (show m ≤ b by omega), List.pairwise_append] at h1
    exact h1.2.2
  refine (merge_lots g c q hq6 _ (K.take a) (Srt.seg K a m) (Srt.seg K m b) (K.drop b) a m b (Nat.le_refl _) hP (by omega) (by omega) ham hmb o1.2 o2.2 (fun x hx y hy => htd x (o1.1.mem_iff.1 hx) y (o2.1.mem_iff.1 hy)) w0 w _ R (by rw [← e]; exact I) .here).mono ?_
  rintro _ w1 ⟨rfl, M, h1, h2, S⟩
  have hM := Srt.seg_of (P := K.take a) (M := M) (R := K.drop b) (b := b) hP (by rw [h1.length_eq, List.length_append, hl1, hl2]; omega)
  refine ⟨rfl, _, ⟨?_, hM.2.1, hM.2.2, ?_⟩, S⟩
  · have := congrArg List.length e
    rw [List.length_append, List.length_append, List.length_append] at this
    rw [List.length_append, List.length_append, h1.length_eq, List.length_append]
    omega
  · unfold Fef.Ok
    rw [hM.1, Srt.seg_join D (show a ≤ m by omega) (show m ≤ b by omega)]
    exact ⟨h1.trans (o1.1.append o2.1), h2⟩
set_option maxRecDepth 100000 in
set_option maxHeartbeats 8000000 in
theorem stable_lots (D : List Lt) (g c q : Nat) (hq6 : q ≤ 1000000) (hD : D.length = q) (ht : D.Pairwise fun x y => x.tag < y.tag) (w0 w : World) (L R : List Asr) (I : St w0 w L) (hA : At (OwnT (.slice (some ⟨g, 0, none⟩) q c) D) L R) :
    Calls Try.prog 122 #[.slice (some ⟨g, 0, none⟩) q c, .int .i64 q, sortF] w fun e w' => e = .returned (.tuple #[]) ∧ ∃ M, M.Perm D ∧ M.Pairwise Fef.lt ∧ St w0 w' (OwnT (.slice (some ⟨g, 0, none⟩) q c) M :: R) := by
  replace I := I.take hA
  clear hA
  have HD := Lib.hid hD
  have HT := Lib.hid ht
  clear hD ht
  go_enter Try.func122, Try.ntmps122
  try dsimp only [List.append]
  go_upto_region 2 with fail
  go_loopw [7, 8] (fun av bv wr => ∃ (a b : Nat) (K : List Lt), av = .int .i64 a ∧ bv = .int .i64 b ∧ Hid (b = a + 20) ∧ a ≤ q ∧ b ≤ q + 20 ∧ Hid (K.length = q ∧ Srt.Fc (Fef.Ok D K) 20 a ∧ K.drop a = D.drop a) ∧ St w0 wr (OwnT (.slice (some ⟨g, 0, none⟩) q c) K :: R)) (fun av _ _ => q + 20 - (intOf av).toNat)
  case atStart => exact ⟨0, 20, D, rfl, rfl, Lib.hid rfl, by omega, by omega, Lib.hid ⟨HD.out, .nil, rfl⟩, I⟩
  case round =>
    clear I
    obtain ⟨a, b, K, rfl, rfl, HB, haq, hbq, HK, I⟩ := hrel
    rename World => wr
    by_cases hlt : b ≤ q
    · have hlt2 : (b : Int) ≤ (q : Int) := by omega
      have HI := Lib.hid (insertion_seg D K a b g c q hq6 HK.out.1 HD.out (by have := HB.out; omega) hlt (Srt.seg_hi HK.out.2.2 (Nat.le_refl _)) HT.out w0 wr R I)
      have hab : a < b := by have := HB.out; omega
      go_wp2_with (first | (go_at_call 130; go_must (refine (HI.out).mono ?_; rintro _ w1 ⟨rfl, K', HC, S⟩; replace HC := Lib.hid HC; clear I; have I := S; clear S)))
      all_goals try omega
      have HK2 : Hid (K'.length = q ∧ Srt.Fc (Fef.Ok D K') 20 b ∧ K'.drop b = D.drop b) := Lib.hid ⟨HC.out.len.trans HK.out.1, by
        rw [HB.out]
        refine .snoc _ (HK.out.2.1.mono HC.out.below) ?_
        rw [← HB.out]; exact HC.out.ok, by
        rw [HC.out.hi]
        have := congrArg (List.drop 20) HK.out.2.2
        rw [List.drop_drop, List.drop_drop, ← HB.out] at this
        exact this⟩
      go_roundw
      case rel => exact ⟨b, b + 20, K', rfl, by go_num, Lib.hid rfl, by omega, by omega, HK2, I⟩
      case measure => simp only [intOf]; omega
    · have hlt2 : ¬ (b : Int) ≤ (q : Int) := by omega
      have HI := Lib.hid (insertion_seg D K a q g c q hq6 HK.out.1 HD.out haq (Nat.le_refl _) (Srt.seg_hi HK.out.2.2 (Nat.le_refl _)) HT.out w0 wr R I)
      have HBq := Lib.hid hlt
      go_upto_region 7 with (first | (go_at_call 130; go_must (refine (HI.out).mono ?_; rintro _ w1 ⟨rfl, K', HC, S⟩; replace HC := Lib.hid HC; clear I; have I := S; clear S)))
      have HS : Hid (K'.length = q ∧ Srt.Bk (Fef.Ok D K') 20 0 q) := Lib.hid ⟨HC.out.len.trans HK.out.1, by
        refine (HK.out.2.1.mono HC.out.below).join ?_
        by_cases e : a = q
        · rw [e]; exact .nil _
        · exact .one _ _ (by omega) (by have := HB.out; have := HBq.out; omega) HC.out.ok⟩
      clear HI HC HK HB HBq hlt hlt2 haq hbq
      obtain ⟨K0, hK0⟩ : ∃ K0, K' = K0 := ⟨_, rfl⟩
      rw [hK0] at I HS
      clear hK0 K'
      go_loopw [6] (fun sv wr => ∃ (s : Nat) (K : List Lt), sv = .int .i64 s ∧ 0 < s ∧ s ≤ 2 * q + 20 ∧ Hid (K.length = q ∧ Srt.Bk (Fef.Ok D K) s 0 q) ∧ St w0 wr (OwnT (.slice (some ⟨g, 0, none⟩) q c) K :: R)) (fun sv _ => 2 * q + 20 - (intOf sv).toNat)
      case atStart => exact ⟨20, K0, rfl, by omega, by omega, HS, I⟩
      case round =>
        clear I HS
        obtain ⟨s, K, rfl, hs0, hsq, HK, I⟩ := hrel
        rename World => wr
        by_cases hlt : s < q
        · have hlt2 : (s : Int) < (q : Int) := by omega
          obtain ⟨s2, hs2⟩ : ∃ s2, 2 * s = s2 := ⟨_, rfl⟩
          have hw1 : IntKind.i64.wrap (2 * (s : Int)) = (s2 : Int) := by rw [IntKind.wrap_i64]; omega
          have hw2 : IntKind.i64.wrap ((s : Int) * 2) = (s2 : Int) := by rw [IntKind.wrap_i64]; omega
          have HS2 : Hid (s2 = s + s) := Lib.hid (by omega)
          have hs2q : s2 ≤ 2 * q := by omega
          have hs2s : s < s2 := by omega
          clear hs2
          go_upto_region 9 with fail
          go_loopw [7, 8] (fun av bv wr => ∃ (a b : Nat) (K : List Lt), av = .int .i64 a ∧ bv = .int .i64 b ∧ Hid (b = a + s2) ∧ a ≤ q ∧ b ≤ q + s2 ∧ Hid (K.length = q ∧ Srt.Fc (Fef.Ok D K) s2 a ∧ Srt.Bk (Fef.Ok D K) s a q) ∧ St w0 wr (OwnT (.slice (some ⟨g, 0, none⟩) q c) K :: R)) (fun av _ _ => q + s2 - (intOf av).toNat)
          case atStart => exact ⟨0, s2, K, rfl, rfl, Lib.hid (by omega), by omega, by omega, Lib.hid ⟨HK.out.1, .nil, HK.out.2⟩, I⟩
          case round =>
            clear I HK
            obtain ⟨a, b, K, rfl, rfl, HB, haq, hbq, HK, I⟩ := hrel
            rename World => wi
            obtain ⟨m, hm⟩ : ∃ m, a + s = m := ⟨_, rfl⟩
            have hwm : IntKind.i64.wrap ((a : Int) + (s : Int)) = (m : Int) := by rw [IntKind.wrap_i64]; omega
            have ham : a < m := by omega
            have HMs := Lib.hid hm
            clear hm
            by_cases hlb : b ≤ q
            · have hlt3 : (b : Int) ≤ (q : Int) := by omega
              obtain ⟨b2, hb2⟩ : ∃ b2, b + s2 = b2 := ⟨_, rfl⟩
              have hwb : IntKind.i64.wrap ((b : Int) + (s2 : Int)) = (b2 : Int) := by rw [IntKind.wrap_i64]; omega
              have HBp := HK.out.2.2.first hs0 (by have := HB.out; have := HS2.out; omega)
              have HBq := HBp.2.first hs0 (by have := HB.out; have := HS2.out; omega)
              rw [HMs.out] at HBp HBq
              rw [show m + s = b by have := HB.out; have := HS2.out; have := HMs.out; omega] at HBq
              have HI := Lib.hid (merge_seg D K a m b g c q hq6 HK.out.1 HD.out ham (by have := HB.out; have := HS2.out; have := HMs.out; omega) hlb HBp.1 HBq.1 HT.out w0 wi R I)
              have HBr := Lib.hid HBq.2
              clear HBp HBq
              have HB2 := Lib.hid hb2
              have hab : a < b := by have := HB.out; omega
              clear hb2
              go_wp2_with (first | (go_at_call 131; go_must (refine (HI.out).mono ?_; rintro _ w1 ⟨rfl, K', HC, S⟩; replace HC := Lib.hid HC; clear I; have I := S; clear S)))
              all_goals try omega
              have HK2 : Hid (K'.length = q ∧ Srt.Fc (Fef.Ok D K') s2 b ∧ Srt.Bk (Fef.Ok D K') s b q) := Lib.hid ⟨HC.out.len.trans HK.out.1, by
                rw [HB.out]
                refine .snoc _ (HK.out.2.1.mono HC.out.below) ?_
                rw [← HB.out]; exact HC.out.ok, HBr.out.mono HC.out.above⟩
              go_roundw
              case rel => exact ⟨b, b2, K', rfl, rfl, Lib.hid HB2.out.symm, hlb, by have := HB2.out; omega, HK2, I⟩
              case measure => simp only [intOf]; omega
            · have hlt3 : ¬ (b : Int) ≤ (q : Int) := by omega
              by_cases hmq : m < q
              · have hmq2 : (m : Int) < (q : Int) := by omega
                have HBp := HK.out.2.2.first hs0 (by have := HMs.out; omega)
                rw [HMs.out] at HBp
                have HBq := HBp.2.only hs0 hmq (by have := HB.out; have := HS2.out; have := HMs.out; omega)
                have HI := Lib.hid (merge_seg D K a m q g c q hq6 HK.out.1 HD.out ham hmq (Nat.le_refl _) HBp.1 HBq HT.out w0 wi R I)
                clear HBp HBq
                go_wp2_with (first | (go_at_call 131; go_must (refine (HI.out).mono ?_; rintro _ w1 ⟨rfl, K', HC, S⟩; replace HC := Lib.hid HC; clear I; have I := S; clear S)))
                all_goals try omega
                have HK2 : Hid (K'.length = q ∧ Srt.Bk (Fef.Ok D K') s2 0 q) := Lib.hid ⟨HC.out.len.trans HK.out.1, (HK.out.2.1.mono HC.out.below).join (.one _ _ (by omega) (by have := HB.out; omega) HC.out.ok)⟩
                exact ⟨⟨s2, K', rfl, by omega, by omega, HK2, I⟩, by simp only [intOf]; omega⟩
              · have hmq2 : ¬ (m : Int) < (q : Int) := by omega
                have HK2 : Hid (K.length = q ∧ Srt.Bk (Fef.Ok D K) s2 0 q) := Lib.hid ⟨HK.out.1, HK.out.2.1.join (by
                  by_cases e : a = q
                  · rw [e]; exact .nil _
                  · exact .one _ _ (by omega) (by have := HB.out; omega) (HK.out.2.2.only hs0 (by omega) (by have := HMs.out; omega)))⟩
                go_wp2_with fail
                all_goals try omega
                exact ⟨⟨s2, K, rfl, by omega, by omega, HK2, I⟩, by simp only [intOf]; omega⟩
        · have hlt2 : ¬ (s : Int) < (q : Int) := by omega
          have HM : Hid (K.Perm D ∧ K.Pairwise Fef.lt) := Lib.hid (by
            by_cases e : q = 0
            · have h1 : K = [] := List.eq_nil_of_length_eq_zero (by rw [HK.out.1]; exact e)
              have h2 : D = [] := List.eq_nil_of_length_eq_zero (by rw [HD.out]; exact e)
              rw [h1, h2]; exact ⟨List.Perm.refl _, List.Pairwise.nil⟩
            · have h1 := HK.out.2.only hs0 (by omega) (by omega)
              unfold Fef.Ok at h1
              rw [Srt.seg_all K HK.out.1, Srt.seg_all D HD.out] at h1
              exact h1)
          go_wp2_with fail
          exact end_0 rfl rfl ⟨rfl, K, HM.out.1, HM.out.2, I⟩
end Go.Proofs.Ytggeloihnbjogaa
