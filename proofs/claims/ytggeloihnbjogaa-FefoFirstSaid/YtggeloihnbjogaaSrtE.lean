
/- Lots (layer 15): two sorted stretches merged in place. -/
import Derived.Test.YtggeloihnbjogaaSrtD
import Derived.Deep.DeepCutAuto
namespace Go.Proofs.Ytggeloihnbjogaa
open Go.RowKit Go.Hf
theorem in_A {α : Type} {P A B R l : List α} {a m : Nat} (hl : l = P ++ (A ++ (B ++ R))) (ha : P.length = a) (hm : a + A.length = m) (i : Nat) (h1 : a ≤ i) (h2 : i < m) : l[i]? = A[i - a]? := by
  rw [hl, List.getElem?_append_right (by omega), List.getElem?_append_left (by omega), ha]
theorem in_B {α : Type} {P A B R l : List α} {a m b : Nat} (hl : l = P ++ (A ++ (B ++ R))) (ha : P.length = a) (hm : a + A.length = m) (hb : m + B.length = b) (i : Nat) (h1 : m ≤ i) (h2 : i < b) : l[i]? = B[i - m]? := by
  rw [hl, List.getElem?_append_right (by omega), List.getElem?_append_right (by omega), List.getElem?_append_left (by omega), ha, show i - a - A.length = i - m by omega]
set_option maxRecDepth 100000 in
set_option maxHeartbeats 8000000 in
/-- One element ahead of a sorted stretch. -/
theorem merge_one (P A B Rr : List Lt) (a m b g c q : Nat) (h1 : m - a = 1) (hq6 : q ≤ 1000000) (hPa : P.length = a) (hAm : a + A.length = m) (hBb : m + B.length = b) (ham : a < m) (hmb : m < b) (sA : A.Pairwise Fef.lt) (sB : B.Pairwise Fef.lt) (ht : ∀ x ∈ A, ∀ y ∈ B, x.tag < y.tag) (w0 w : World) (L R : List Asr) (I : St w0 w L) (hA : At (OwnT (.slice (some ⟨g, 0, none⟩) q c) (P ++ (A ++ (B ++ Rr)))) L R) :
    Calls Try.prog 131 #[.slice (some ⟨g, 0, none⟩) q c, .int .i64 a, .int .i64 m, .int .i64 b, sortF] w fun e w' => e = .returned (.tuple #[]) ∧ ∃ M, M.Perm (A ++ B) ∧ M.Pairwise Fef.lt ∧ St w0 w' (OwnT (.slice (some ⟨g, 0, none⟩) q c) (P ++ (M ++ Rr)) :: R) := by
  replace I := I.take hA
  clear hA
  obtain ⟨A', c', e, hnc, hcm, -⟩ := (I.own .here).reads encT_len
  unfold maxLen at hcm
  injection e with e1 e2 e3
  subst e1 e3
  have hbq : b ≤ q := by rw [e2]; simp; omega
  obtain ⟨l, hl⟩ : ∃ l, P ++ (A ++ (B ++ Rr)) = l := ⟨_, rfl⟩
  rw [hl] at I e2 hnc
  have HL := Lib.hid hl.symm
  have HQ : Hid (l.length = q) := Lib.hid e2.symm
  have hqc : q ≤ c := by rw [e2]; exact hnc
  have HP := Lib.hid (And.intro hPa (And.intro hAm hBb))
  have HS := Lib.hid (And.intro sA (And.intro sB ht))
  clear hl e2 hnc hPa hAm hBb sA sB ht
  have hma : m = a + 1 := by omega
  have HMA := Lib.hid hma
  obtain ⟨x, hx⟩ : ∃ x, A = [x] := by
    have h2 : A.length = 1 := by have := HP.out.2.1; omega
    exact List.length_eq_one_iff.1 h2
  have HX : Hid (l[a]? = some x) := Lib.hid (by rw [in_A HL.out HP.out.1 HP.out.2.1 a (Nat.le_refl _) (by omega), hx, Nat.sub_self]; rfl)
  have HAx := Lib.hid hx
  have HTx : Hid (∀ y ∈ B, x.tag < y.tag) := Lib.hid (fun y hy => HS.out.2.2 x (by rw [hx]; simp) y hy)
  have hw0 : IntKind.i64.wrap ((m : Int) - (a : Int)) = 1 := by rw [IntKind.wrap_i64]; omega
  have hq_a : a < q := by omega
  have hq2_a : (a : Int) < (q : Int) := by omega
  clear hma h1 hx
  go_enter Try.func131, Try.ntmps131
  try dsimp only [List.append]
  go_wp2_with fail
  go_loopw [10, 11] (fun vi vj wr => ∃ i j : Nat, vi = .int .i64 i ∧ vj = .int .i64 j ∧ m ≤ i ∧ i ≤ j ∧ j ≤ b ∧ Hid (i = m ∨ ∀ y, l[i - 1]? = some y → Fef.neg y x = true) ∧ Hid (j = b ∨ ∀ y, l[j]? = some y → Fef.neg y x = false) ∧ St w0 wr (OwnT (.slice (some ⟨g, 0, none⟩) q c) l :: R)) (fun vi vj _ => (intOf vj).toNat - (intOf vi).toNat)
  case atStart => exact ⟨m, b, rfl, rfl, by omega, by omega, by omega, Lib.hid (.inl rfl), Lib.hid (.inl rfl), I⟩
  case round =>
    clear I
    obtain ⟨i, j, rfl, rfl, hi, hij, hj, HI, HJ, I⟩ := hrel
    by_cases hlt : i < j
    · obtain ⟨h, hh⟩ : ∃ h : Nat, (i + j) / 2 = h := ⟨_, rfl⟩
      have hh1 : i ≤ h ∧ h < j := by omega
      obtain ⟨hh3, hh4⟩ := hh1
      have hh2 : ((i : Int) + (j : Int)) / 2 = (h : Int) := by omega
      have hlt2 : (i : Int) < (j : Int) := by omega
      clear hh
      have hq_h : h < q := by omega
      have hq2_h : (h : Int) < (q : Int) := by omega
      obtain ⟨y, hy⟩ : ∃ y, l[h]? = some y := ⟨_, List.getElem?_eq_getElem (by rw [HQ.out]; omega)⟩
      have HY := Lib.hid hy
      obtain ⟨r, hr⟩ : ∃ r, Fef.cf y x = r := ⟨_, rfl⟩
      have HC := Lib.hid (fun w => fefo_cf y x r hr w)
      have HN : Hid (decide (r < 0) = Fef.neg y x) := Lib.hid (by rw [← hr]; exact Fef.cf_neg y x)
      clear hy hr
      cases hn : Fef.neg y x with
      | true =>
        have d5 : decide (r < 0) = true := HN.out.trans hn
        have HI2 : Hid (h + 1 = m ∨ ∀ z, l[h + 1 - 1]? = some z → Fef.neg z x = true) := Lib.hid (.inr fun z hz => by rw [Nat.add_sub_cancel, HY.out] at hz; injection hz with hz; rw [← hz]; exact hn)
        clear hn
        go_upto_region 5 with fail
        rename World => w1
        obtain ⟨x0, x1, x2, x3, x4, x5, x6, x7⟩ := lot_at I HX.out
        obtain ⟨y0, y1, y2, y3, y4, y5, y6, y7⟩ := lot_at I HY.out
        replace I := Lib.hid I
        go_region_held3 (fun w' => Fr w1 w') (first | assumption | exact (Fr.refl _).drew | exact Fr.trans (by assumption) (by assumption)) (first | (go_at_call 101; go_must (refine (HC.out _).mono ?_; rintro _ w1 ⟨rfl, hf⟩)))
        replace I := I.out.still (by assumption)
        clear x0 x1 x2 x3 x4 x5 x6 x7 y0 y1 y2 y3 y4 y5 y6 y7
        go_wp2_with fail
        go_roundw
        case rel => exact ⟨h + 1, j, by go_num, rfl, by omega, by omega, by omega, HI2, HJ, I⟩
        case measure => simp [intOf]; omega
      | false =>
        have d5 : decide (r < 0) = false := HN.out.trans hn
        have HJ2 : Hid (h = b ∨ ∀ z, l[h]? = some z → Fef.neg z x = false) := Lib.hid (.inr fun z hz => by rw [HY.out] at hz; injection hz with hz; rw [← hz]; exact hn)
        clear hn
        go_upto_region 5 with fail
        rename World => w1
        obtain ⟨x0, x1, x2, x3, x4, x5, x6, x7⟩ := lot_at I HX.out
        obtain ⟨y0, y1, y2, y3, y4, y5, y6, y7⟩ := lot_at I HY.out
        replace I := Lib.hid I
        go_region_held3 (fun w' => Fr w1 w') (first | assumption | exact (Fr.refl _).drew | exact Fr.trans (by assumption) (by assumption)) (first | (go_at_call 101; go_must (refine (HC.out _).mono ?_; rintro _ w1 ⟨rfl, hf⟩)))
        replace I := I.out.still (by assumption)
        clear x0 x1 x2 x3 x4 x5 x6 x7 y0 y1 y2 y3 y4 y5 y6 y7
        go_wp2_with fail
        go_roundw
        case rel => exact ⟨i, h, rfl, rfl, by omega, by omega, by omega, HI, HJ2, I⟩
        case measure => simp only [intOf]; omega
    · have hlt2 : ¬ (i : Int) < (j : Int) := by omega
      obtain rfl : i = j := by omega
      obtain ⟨e, he⟩ : ∃ e, i - 1 = e := ⟨_, rfl⟩
      have hae : a ≤ e := by have := HMA.out; omega
      have heb : e < b := by omega
      have hwe : IntKind.i64.wrap ((i : Int) - 1) = (e : Int) := by rw [IntKind.wrap_i64]; omega
      obtain ⟨k, hk⟩ : ∃ k, i - m = k := ⟨_, rfl⟩
      have hkB : k ≤ B.length := by have := HP.out.2.2; omega
      have HM : Hid ((B.take k ++ x :: B.drop k).Pairwise Fef.lt ∧ (B.take k ++ x :: B.drop k).Perm (A ++ B)) := Lib.hid (by
        have hlo := Srt.part_lo Fef.ord HS.out.2.1 (x := x) hkB (by
          rcases HI.out with h | h
          · exact .inl (by omega)
          · by_cases hk0 : k = 0
            · exact .inl hk0
            · refine .inr fun y hy => (Fef.ord.neg_iff (HTx.out y (List.mem_of_getElem? hy))).1 (h y ?_)
              rw [in_B HL.out HP.out.1 HP.out.2.1 HP.out.2.2 (i - 1) (by omega) (by omega), show i - 1 - m = k - 1 by omega]; exact hy)
        have hhi := Srt.part_hi Fef.ord HS.out.2.1 (x := x) (k := k) (by
          rcases HJ.out with h | h
          · exact .inl (by have := HP.out.2.2; omega)
          · by_cases hk0 : k = B.length
            · exact .inl hk0
            · refine .inr fun y hy => Fef.ord.no (HTx.out y (List.mem_of_getElem? hy)) (h y ?_)
              have := HP.out.2.2
              rw [in_B HL.out HP.out.1 HP.out.2.1 HP.out.2.2 i (by omega) (by omega), hk]; exact hy)
        have := Srt.put_in HS.out.2.1 hlo hhi
        exact ⟨this.1, by rw [HAx.out]; exact this.2⟩)
      have HMv : Hid (Srt.Move P (B.take k) x (B.drop k ++ Rr) l a (fun _ => True)) := Lib.hid ⟨[], B.take k, rfl, by rw [HL.out, HAx.out, ← List.append_assoc (B.take k), List.take_append_drop]; rfl, by rw [HP.out.1]; rfl, fun _ _ => trivial⟩
      have HE : Hid (e = P.length + (B.take k).length) := Lib.hid (by rw [List.length_take, HP.out.1]; have := HMA.out; omega)
      clear he hk HI HJ
      go_wp2_with fail
      go_loopw [13] (fun vp wr => ∃ (p : Nat) (K : List Lt), vp = .int .i64 p ∧ a ≤ p ∧ p ≤ e ∧ Hid (Srt.Move P (B.take k) x (B.drop k ++ Rr) K p (fun _ => True) ∧ K.length = q) ∧ St w0 wr (OwnT (.slice (some ⟨g, 0, none⟩) q c) K :: R)) (fun vp _ => e - (intOf vp).toNat)
      case atStart => exact ⟨a, l, rfl, by omega, by omega, Lib.hid ⟨HMv.out, HQ.out⟩, I⟩
      case round =>
        clear I HX
        obtain ⟨p, K, rfl, hp1, hp2, HK, I⟩ := hrel
        by_cases hlt9 : p < e
        · have hlt3 : (p : Int) < (e : Int) := by omega
          obtain ⟨p1, hp1e⟩ : ∃ p1, p + 1 = p1 := ⟨_, rfl⟩
          have hwp : IntKind.i64.wrap ((p : Int) + 1) = (p1 : Int) := by rw [IntKind.wrap_i64]; omega
          have hq_p : p < q := by omega
          have hq2_p : (p : Int) < (q : Int) := by omega
          have hq_p1 : p1 < q := by omega
          have hq2_p1 : (p1 : Int) < (q : Int) := by omega
          have HX : Hid (K[p]? = some x) := Lib.hid HK.out.1.here
          obtain ⟨y, hy⟩ : ∃ y, K[p1]? = some y := ⟨_, List.getElem?_eq_getElem (by rw [HK.out.2]; omega)⟩
          have HY := Lib.hid hy
          have hpl : p < K.length := by rw [HK.out.2]; omega
          have hpl1 : p1 < K.length := by rw [HK.out.2]; omega
          have HK2 : Hid (Srt.Move P (B.take k) x (B.drop k ++ Rr) ((K.set p y).set p1 x) p1 (fun _ => True) ∧ ((K.set p y).set p1 x).length = q) := Lib.hid ⟨by
            have h2 := HK.out.1.up (by rw [← HE.out]; exact hlt9)
            rw [hp1e] at h2
            obtain ⟨_, hxe⟩ := List.getElem?_eq_some_iff.1 HX.out
            obtain ⟨_, hye⟩ := List.getElem?_eq_some_iff.1 HY.out
            rw [Srt.swp_eq hpl hpl1, hxe, hye] at h2
            exact h2, by rw [List.length_set, List.length_set]; exact HK.out.2⟩
          have hpp : a ≤ p1 ∧ p1 ≤ e ∧ p < p1 := by omega
          obtain ⟨hpp1, hpp2, hpp3⟩ := hpp
          clear hp1e hy
          obtain ⟨x0, x1, x2, x3, x4, x5, x6, x7⟩ := cells8 (cellsF I p x HX.out _ (Fr.refl _))
          obtain ⟨y0, y1, y2, y3, y4, y5, y6, y7⟩ := cells8 (cellsF I p1 y HY.out _ (Fr.refl _))
          have z0 := (I.own (v := .slice (some ⟨g, 0, none⟩) q c) (l := K) .here).frozen
          go_upto_region 11 with fail
          go_region
          have I2 := (set8 (set8 I hpl y) (i := p1) (by rw [List.length_set]; exact hpl1) x).drew
          clear x0 x1 x2 x3 x4 x5 x6 x7 y0 y1 y2 y3 y4 y5 y6 y7 z0 I
          go_wp2_with fail
          go_roundw
          case rel => exact ⟨p1, _, rfl, hpp1, hpp2, HK2, I2⟩
          case measure => simp only [intOf]; omega
        · have hlt3 : ¬ (p : Int) < (e : Int) := by omega
          have HF : Hid (K = P ++ ((B.take k ++ x :: B.drop k) ++ Rr)) := Lib.hid (by
            have h2 := HK.out.1
            rw [show p = e by omega, HE.out] at h2
            rw [h2.last]; simp)
          go_wp2_with fail
          exact ret_0 rfl rfl ⟨rfl, _, HM.out.2, HM.out.1, by rw [← HF.out]; exact I⟩
set_option maxRecDepth 100000 in
set_option maxHeartbeats 8000000 in
/-- One element behind a sorted stretch. -/
theorem merge_last (P A B Rr : List Lt) (a m b g c q : Nat) (h0 : m - a ≠ 1) (h1 : b - m = 1) (hq6 : q ≤ 1000000) (hPa : P.length = a) (hAm : a + A.length = m) (hBb : m + B.length = b) (ham : a < m) (hmb : m < b) (sA : A.Pairwise Fef.lt) (sB : B.Pairwise Fef.lt) (ht : ∀ x ∈ A, ∀ y ∈ B, x.tag < y.tag) (w0 w : World) (L R : List Asr) (I : St w0 w L) (hA : At (OwnT (.slice (some ⟨g, 0, none⟩) q c) (P ++ (A ++ (B ++ Rr)))) L R) :
    Calls Try.prog 131 #[.slice (some ⟨g, 0, none⟩) q c, .int .i64 a, .int .i64 m, .int .i64 b, sortF] w fun e w' => e = .returned (.tuple #[]) ∧ ∃ M, M.Perm (A ++ B) ∧ M.Pairwise Fef.lt ∧ St w0 w' (OwnT (.slice (some ⟨g, 0, none⟩) q c) (P ++ (M ++ Rr)) :: R) := by
  replace I := I.take hA
  clear hA
  obtain ⟨A', c', e, hnc, hcm, -⟩ := (I.own .here).reads encT_len
  unfold maxLen at hcm
  injection e with e1 e2 e3
  subst e1 e3
  have hbq : b ≤ q := by rw [e2]; simp; omega
  obtain ⟨l, hl⟩ : ∃ l, P ++ (A ++ (B ++ Rr)) = l := ⟨_, rfl⟩
  rw [hl] at I e2 hnc
  have HL := Lib.hid hl.symm
  have HQ : Hid (l.length = q) := Lib.hid e2.symm
  have hqc : q ≤ c := by rw [e2]; exact hnc
  have HP := Lib.hid (And.intro hPa (And.intro hAm hBb))
  have HS := Lib.hid (And.intro sA (And.intro sB ht))
  clear hl e2 hnc hPa hAm hBb sA sB ht
  have hmb1 : b = m + 1 := by omega
  obtain ⟨x, hx⟩ : ∃ x, B = [x] := by
    have h2 : B.length = 1 := by have := HP.out.2.2; omega
    exact List.length_eq_one_iff.1 h2
  have HX : Hid (l[m]? = some x) := Lib.hid (by rw [in_B HL.out HP.out.1 HP.out.2.1 HP.out.2.2 m (Nat.le_refl _) (by omega), hx, Nat.sub_self]; rfl)
  have HBx := Lib.hid hx
  have HTx : Hid (∀ y ∈ A, y.tag < x.tag) := Lib.hid (fun y hy => HS.out.2.2 y hy x (by rw [hx]; simp))
  obtain ⟨d, hd⟩ : ∃ d, m - a = d := ⟨_, rfl⟩
  have hw0 : IntKind.i64.wrap ((m : Int) - (a : Int)) = (d : Int) := by rw [IntKind.wrap_i64]; omega
  have hd1 : ((d : Int) == 1) = false := by simp; omega
  have hd2 : (d == 1) = false := by simp; omega
  have hd3 : ¬ d = 1 := by omega
  have hw1 : IntKind.i64.wrap ((b : Int) - (m : Int)) = 1 := by rw [IntKind.wrap_i64]; omega
  have hq_m : m < q := by omega
  have hq2_m : (m : Int) < (q : Int) := by omega
  clear hmb1 h1 h0 hd hx
  go_enter Try.func131, Try.ntmps131
  try dsimp only [List.append]
  go_wp2_with fail
  go_loopw [14, 15] (fun vi vj wr => ∃ i j : Nat, vi = .int .i64 i ∧ vj = .int .i64 j ∧ a ≤ i ∧ i ≤ j ∧ j ≤ m ∧ Hid (i = a ∨ ∀ y, l[i - 1]? = some y → Fef.neg x y = false) ∧ Hid (j = m ∨ ∀ y, l[j]? = some y → Fef.neg x y = true) ∧ St w0 wr (OwnT (.slice (some ⟨g, 0, none⟩) q c) l :: R)) (fun vi vj _ => (intOf vj).toNat - (intOf vi).toNat)
  case atStart => exact ⟨a, m, rfl, rfl, by omega, by omega, by omega, Lib.hid (.inl rfl), Lib.hid (.inl rfl), I⟩
  case round =>
    clear I
    obtain ⟨i, j, rfl, rfl, hi, hij, hj, HI, HJ, I⟩ := hrel
    by_cases hlt : i < j
    · obtain ⟨h, hh⟩ : ∃ h : Nat, (i + j) / 2 = h := ⟨_, rfl⟩
      have hh1 : i ≤ h ∧ h < j := by omega
      obtain ⟨hh3, hh4⟩ := hh1
      have hh2 : ((i : Int) + (j : Int)) / 2 = (h : Int) := by omega
      have hlt2 : (i : Int) < (j : Int) := by omega
      clear hh
      have hq_h : h < q := by omega
      have hq2_h : (h : Int) < (q : Int) := by omega
      obtain ⟨y, hy⟩ : ∃ y, l[h]? = some y := ⟨_, List.getElem?_eq_getElem (by rw [HQ.out]; omega)⟩
      have HY := Lib.hid hy
      obtain ⟨r, hr⟩ : ∃ r, Fef.cf x y = r := ⟨_, rfl⟩
      have HC := Lib.hid (fun w => fefo_cf x y r hr w)
      have HN : Hid (decide (r < 0) = Fef.neg x y) := Lib.hid (by rw [← hr]; exact Fef.cf_neg x y)
      clear hy hr
      cases hn : Fef.neg x y with
      | false =>
        have d5 : decide (r < 0) = false := HN.out.trans hn
        have HI2 : Hid (h + 1 = a ∨ ∀ z, l[h + 1 - 1]? = some z → Fef.neg x z = false) := Lib.hid (.inr fun z hz => by rw [Nat.add_sub_cancel, HY.out] at hz; injection hz with hz; rw [← hz]; exact hn)
        clear hn
        go_upto_region 17 with fail
        rename World => w1
        obtain ⟨x0, x1, x2, x3, x4, x5, x6, x7⟩ := lot_at I HX.out
        obtain ⟨y0, y1, y2, y3, y4, y5, y6, y7⟩ := lot_at I HY.out
        replace I := Lib.hid I
        go_region_held3 (fun w' => Fr w1 w') (first | assumption | exact (Fr.refl _).drew | exact Fr.trans (by assumption) (by assumption)) (first | (go_at_call 101; go_must (refine (HC.out _).mono ?_; rintro _ w1 ⟨rfl, hf⟩)))
        replace I := I.out.still (by assumption)
        clear x0 x1 x2 x3 x4 x5 x6 x7 y0 y1 y2 y3 y4 y5 y6 y7
        go_wp2_with fail
        go_roundw
        case rel => exact ⟨h + 1, j, by go_num, rfl, by omega, by omega, by omega, HI2, HJ, I⟩
        case measure => simp [intOf]; omega
      | true =>
        have d5 : decide (r < 0) = true := HN.out.trans hn
        have HJ2 : Hid (h = m ∨ ∀ z, l[h]? = some z → Fef.neg x z = true) := Lib.hid (.inr fun z hz => by rw [HY.out] at hz; injection hz with hz; rw [← hz]; exact hn)
        clear hn
        go_upto_region 17 with fail
        rename World => w1
        obtain ⟨x0, x1, x2, x3, x4, x5, x6, x7⟩ := lot_at I HX.out
        obtain ⟨y0, y1, y2, y3, y4, y5, y6, y7⟩ := lot_at I HY.out
        replace I := Lib.hid I
        go_region_held3 (fun w' => Fr w1 w') (first | assumption | exact (Fr.refl _).drew | exact Fr.trans (by assumption) (by assumption)) (first | (go_at_call 101; go_must (refine (HC.out _).mono ?_; rintro _ w1 ⟨rfl, hf⟩)))
        replace I := I.out.still (by assumption)
        clear x0 x1 x2 x3 x4 x5 x6 x7 y0 y1 y2 y3 y4 y5 y6 y7
        go_wp2_with fail
        go_roundw
        case rel => exact ⟨i, h, rfl, rfl, by omega, by omega, by omega, HI, HJ2, I⟩
        case measure => simp only [intOf]; omega
    · have hlt2 : ¬ (i : Int) < (j : Int) := by omega
      obtain rfl : i = j := by omega
      obtain ⟨k, hk⟩ : ∃ k, i - a = k := ⟨_, rfl⟩
      have hkA : k ≤ A.length := by have := HP.out.2.1; omega
      have HM : Hid ((A.take k ++ x :: A.drop k).Pairwise Fef.lt ∧ (A.take k ++ x :: A.drop k).Perm (A ++ B)) := Lib.hid (by
        have hlo := Srt.part_lo Fef.ord HS.out.1 (x := x) hkA (by
          rcases HI.out with h | h
          · exact .inl (by omega)
          · by_cases hk0 : k = 0
            · exact .inl hk0
            · refine .inr fun y hy => Fef.ord.no (HTx.out y (List.mem_of_getElem? hy)) (h y ?_)
              have := HP.out.2.1
              rw [in_A HL.out HP.out.1 HP.out.2.1 (i - 1) (by omega) (by omega), show i - 1 - a = k - 1 by omega]; exact hy)
        have hhi := Srt.part_hi Fef.ord HS.out.1 (x := x) (k := k) (by
          rcases HJ.out with h | h
          · exact .inl (by have := HP.out.2.1; omega)
          · by_cases hk0 : k = A.length
            · exact .inl hk0
            · refine .inr fun y hy => (Fef.ord.neg_iff (HTx.out y (List.mem_of_getElem? hy))).1 (h y ?_)
              have := HP.out.2.1
              rw [in_A HL.out HP.out.1 HP.out.2.1 i (by omega) (by omega), hk]; exact hy)
        have := Srt.put_in HS.out.1 hlo hhi
        exact ⟨this.1, by rw [HBx.out]; exact this.2.trans (List.perm_append_singleton _ _).symm⟩)
      have HPl : Hid ((P ++ A.take k).length = i) := Lib.hid (by rw [List.length_append, List.length_take, HP.out.1]; omega)
      have HMv : Hid (Srt.Move (P ++ A.take k) (A.drop k) x Rr l m (fun _ => True)) := Lib.hid ⟨A.drop k, [], by simp, by
        rw [HL.out, HBx.out, List.append_assoc, ← List.append_assoc (A.take k), List.take_append_drop]; rfl, by rw [HPl.out, List.length_drop]; have := HP.out.2.1; omega, fun _ h => (by cases h)⟩
      clear hk HI HJ
      go_wp2_with fail
      go_loopw [17] (fun vp wr => ∃ (p : Nat) (K : List Lt), vp = .int .i64 p ∧ i ≤ p ∧ p ≤ m ∧ Hid (Srt.Move (P ++ A.take k) (A.drop k) x Rr K p (fun _ => True) ∧ K.length = q) ∧ St w0 wr (OwnT (.slice (some ⟨g, 0, none⟩) q c) K :: R)) (fun vp _ => (intOf vp).toNat)
      case atStart => exact ⟨m, l, rfl, by omega, by omega, Lib.hid ⟨HMv.out, HQ.out⟩, I⟩
      case round =>
        clear I HX
        obtain ⟨p, K, rfl, hp1, hp2, HK, I⟩ := hrel
        by_cases hlt9 : i < p
        · have hlt3 : (i : Int) < (p : Int) := by omega
          obtain ⟨p1, hp1e⟩ : ∃ p1, p = p1 + 1 := ⟨p - 1, by omega⟩
          have hwp : IntKind.i64.wrap ((p : Int) - 1) = (p1 : Int) := by rw [IntKind.wrap_i64]; omega
          have hq_p : p < q := by omega
          have hq2_p : (p : Int) < (q : Int) := by omega
          have hq_p1 : p1 < q := by omega
          have hq2_p1 : (p1 : Int) < (q : Int) := by omega
          have HX : Hid (K[p]? = some x) := Lib.hid HK.out.1.here
          obtain ⟨y, hy⟩ : ∃ y, K[p1]? = some y := ⟨_, List.getElem?_eq_getElem (by rw [HK.out.2]; omega)⟩
          have HY := Lib.hid hy
          have hpl : p < K.length := by rw [HK.out.2]; omega
          have hpl1 : p1 < K.length := by rw [HK.out.2]; omega
          have HK2 : Hid (Srt.Move (P ++ A.take k) (A.drop k) x Rr ((K.set p y).set p1 x) p1 (fun _ => True) ∧ ((K.set p y).set p1 x).length = q) := Lib.hid ⟨by
            have h1 := HK.out.1
            rw [hp1e] at h1
            have h2 := h1.down (by rw [HPl.out]; omega) (fun _ _ => trivial)
            rw [← hp1e] at h2
            obtain ⟨_, hxe⟩ := List.getElem?_eq_some_iff.1 HX.out
            obtain ⟨_, hye⟩ := List.getElem?_eq_some_iff.1 HY.out
            rw [Srt.swp_eq hpl hpl1, hxe, hye] at h2
            exact h2, by rw [List.length_set, List.length_set]; exact HK.out.2⟩
          have hpp : i ≤ p1 ∧ p1 ≤ m ∧ p1 < p := by omega
          obtain ⟨hpp1, hpp2, hpp3⟩ := hpp
          clear hp1e hy
          obtain ⟨x0, x1, x2, x3, x4, x5, x6, x7⟩ := cells8 (cellsF I p x HX.out _ (Fr.refl _))
          obtain ⟨y0, y1, y2, y3, y4, y5, y6, y7⟩ := cells8 (cellsF I p1 y HY.out _ (Fr.refl _))
          have z0 := (I.own (v := .slice (some ⟨g, 0, none⟩) q c) (l := K) .here).frozen
          go_upto_region 23 with fail
          go_region
          have I2 := (set8 (set8 I hpl y) (i := p1) (by rw [List.length_set]; exact hpl1) x).drew
          clear x0 x1 x2 x3 x4 x5 x6 x7 y0 y1 y2 y3 y4 y5 y6 y7 z0 I
          go_wp2_with fail
          go_roundw
          case rel => exact ⟨p1, _, rfl, hpp1, hpp2, HK2, I2⟩
          case measure => simp only [intOf]; omega
        · have hlt3 : ¬ (i : Int) < (p : Int) := by omega
          have HF : Hid (K = P ++ ((A.take k ++ x :: A.drop k) ++ Rr)) := Lib.hid (by
            have h2 := HK.out.1
            rw [show p = (P ++ A.take k).length by rw [HPl.out]; omega] at h2
            rw [h2.first.1]; simp)
          go_wp2_with fail
          exact ret_0 rfl rfl ⟨rfl, _, HM.out.2, HM.out.1, by rw [← HF.out]; exact I⟩
end Go.Proofs.Ytggeloihnbjogaa
