
/- Lots (layer 15): two sorted stretches merged in place: the whole. -/
import Derived.Test.YtggeloihnbjogaaSrtE
namespace Go.Proofs.Ytggeloihnbjogaa
open Go.RowKit Go.Hf
/-- What is known where the search begins. -/
structure Fef.Bnd (a m b n s0 r0 : Nat) : Prop where
  lo : a ≤ s0
  le : s0 ≤ r0
  hi : r0 ≤ m
  nb : n ≤ s0 + b
  nm : r0 + m ≤ n
  g1 : s0 = a ∨ n = s0 + b
  g2 : r0 = m ∨ n = r0 + m
set_option maxRecDepth 100000 in
set_option maxHeartbeats 16000000 in
theorem merge_step (P A B Rr : List Lt) (a m b g c q : Nat) (hna : m - a ≠ 1) (hnb : b - m ≠ 1)
    (ih : ∀ (P A B Rr : List Lt) (a' m' b' : Nat), b' - a' < b - a → P.length = a' → a' + A.length = m' → m' + B.length = b' → a' < m' → m' < b' → A.Pairwise Fef.lt → B.Pairwise Fef.lt → (∀ x ∈ A, ∀ y ∈ B, x.tag < y.tag) → ∀ (w0 w : World) (L R : List Asr), St w0 w L → At (OwnT (.slice (some ⟨g, 0, none⟩) q c) (P ++ (A ++ (B ++ Rr)))) L R →
      Calls Try.prog 131 #[.slice (some ⟨g, 0, none⟩) q c, .int .i64 a', .int .i64 m', .int .i64 b', sortF] w fun e w' => e = .returned (.tuple #[]) ∧ ∃ M, M.Perm (A ++ B) ∧ M.Pairwise Fef.lt ∧ St w0 w' (OwnT (.slice (some ⟨g, 0, none⟩) q c) (P ++ (M ++ Rr)) :: R))
    (hq6 : q ≤ 1000000) (hPa : P.length = a) (hAm : a + A.length = m) (hBb : m + B.length = b) (ham : a < m) (hmb : m < b) (sA : A.Pairwise Fef.lt) (sB : B.Pairwise Fef.lt) (ht : ∀ x ∈ A, ∀ y ∈ B, x.tag < y.tag) (w0 w : World) (L R : List Asr) (I : St w0 w L) (hA : At (OwnT (.slice (some ⟨g, 0, none⟩) q c) (P ++ (A ++ (B ++ Rr)))) L R) :
    Calls Try.prog 131 #[.slice (some ⟨g, 0, none⟩) q c, .int .i64 a, .int .i64 m, .int .i64 b, sortF] w fun e w' => e = .returned (.tuple #[]) ∧ ∃ M, M.Perm (A ++ B) ∧ M.Pairwise Fef.lt ∧ St w0 w' (OwnT (.slice (some ⟨g, 0, none⟩) q c) (P ++ (M ++ Rr)) :: R) := by
  replace I := I.take hA
  clear hA
  obtain ⟨A', c', e, hnc, hcm, -⟩ := (I.own .here).reads encT_len
  unfold maxLen at hcm
  injection e with e1 e2 e3
  subst e1 e3
  have hbq : b ≤ q := by rw [e2]; simp; omega
  obtain ⟨l, hl⟩ : ∃ l, P ++ (A ++ (B ++ Rr)) = l := ⟨_, rfl⟩
  rw [hl] at I e2 hnc
  have HL := Lib.hid hl.symm
  have HQ : Hid (l.length = q) := Lib.hid e2.symm
  have hqc : q ≤ c := by rw [e2]; exact hnc
  have HP := Lib.hid (And.intro hPa (And.intro hAm hBb))
  have HS := Lib.hid (And.intro sA (And.intro sB ht))
  clear hl e2 hnc hPa hAm hBb sA sB ht
  have HIH := Lib.hid ih
  clear ih
  obtain ⟨d, hd⟩ : ∃ d, m - a = d := ⟨_, rfl⟩
  have hw0 : IntKind.i64.wrap ((m : Int) - (a : Int)) = (d : Int) := by rw [IntKind.wrap_i64]; omega
  have hd1 : ((d : Int) == 1) = false := by simp; omega
  have hd2 : (d == 1) = false := by simp; omega
  have hd3 : ¬ d = 1 := by omega
  obtain ⟨d', hd'⟩ : ∃ d', b - m = d' := ⟨_, rfl⟩
  have hw0' : IntKind.i64.wrap ((b : Int) - (m : Int)) = (d' : Int) := by rw [IntKind.wrap_i64]; omega
  have hd1' : ((d' : Int) == 1) = false := by simp; omega
  have hd2' : (d' == 1) = false := by simp; omega
  have hd3' : ¬ d' = 1 := by omega
  obtain ⟨md, hmd⟩ : ∃ md : Nat, (a + b) / 2 = md := ⟨_, rfl⟩
  have hmd2 : ((a : Int) + (b : Int)) / 2 = (md : Int) := by omega
  have hmda : a < md := by omega
  have hmdb : md < b := by omega
  obtain ⟨n, hn⟩ : ∃ n, md + m = n := ⟨_, rfl⟩
  have hwn : IntKind.i64.wrap ((md : Int) + (m : Int)) = (n : Int) := by rw [IntKind.wrap_i64]; omega
  have hnle : n ≤ 2000000 := by omega
  have HMD := Lib.hid (And.intro hmd hn)
  clear hna hnb hd hd' hmd
  go_enter Try.func131, Try.ntmps131
  try dsimp only [List.append]
  go_upto_if 140 with fail
  rename World => wb
  go_cut [20, 21] from 129 to 147 (fun sv rv wx => ∃ s0 r0 : Nat, sv = .int .i64 s0 ∧ rv = .int .i64 r0 ∧ Hid (Fef.Bnd a m b n s0 r0) ∧ St w0 wx (OwnT (.slice (some ⟨g, 0, none⟩) q c) l :: R))
  case first =>
    by_cases hmm : md < m
    · have hmm2 : (md : Int) < (m : Int) := by omega
      have d1 : decide (md < m) = true := decide_eq_true hmm
      have d2 : decide ((md : Int) < (m : Int)) = true := decide_eq_true hmm2
      obtain ⟨s0, hs0⟩ : ∃ s0, n - b = s0 := ⟨_, rfl⟩
      have hnb : b ≤ n := by have := HMD.out; omega
      have hws : IntKind.i64.wrap ((n : Int) - (b : Int)) = (s0 : Int) := by rw [IntKind.wrap_i64]; omega
      have HB : Hid (Fef.Bnd a m b n s0 md) := Lib.hid ⟨by have := HMD.out; omega, by have := HMD.out; omega, by omega, by omega, by have := HMD.out; omega, .inr (by omega), .inr (by have := HMD.out; omega)⟩
      clear hs0
      go_wp2_with fail
      go_meet
      case rel => exact ⟨s0, md, rfl, rfl, HB, I⟩
    · have hmm2 : ¬ (md : Int) < (m : Int) := by omega
      have d1 : decide (md < m) = false := decide_eq_false hmm
      have d2 : decide ((md : Int) < (m : Int)) = false := decide_eq_false hmm2
      have HB : Hid (Fef.Bnd a m b n a m) := Lib.hid ⟨by omega, by omega, by omega, by have := HMD.out; omega, by omega, .inl rfl, .inl rfl⟩
      go_wp2_with fail
      go_meet
      case rel => exact ⟨a, m, rfl, rfl, HB, I⟩
  case rest =>
    clear I
    obtain ⟨s0, r0, rfl, rfl, HB, I⟩ := hcut
    obtain ⟨p, hp⟩ : ∃ p, n - 1 = p := ⟨_, rfl⟩
    have hn1 : 1 ≤ n := by omega
    have hwp : IntKind.i64.wrap ((n : Int) - 1) = (p : Int) := by rw [IntKind.wrap_i64]; omega
    have HPn := Lib.hid hp
    clear hp
    obtain ⟨b1, b2, b3, b4, b5, b6, b7⟩ := HB.out
    clear b6 b7
    go_wp2_with fail
    go_loopw [20, 21] (fun vs vr wr => ∃ s r : Nat, vs = .int .i64 s ∧ vr = .int .i64 r ∧ s0 ≤ s ∧ s ≤ r ∧ r ≤ r0 ∧ Hid (s = s0 ∨ ∀ x y, l[s - 1]? = some x → l[n - s]? = some y → Fef.neg y x = false) ∧ Hid (r = r0 ∨ ∀ x y, l[r]? = some x → l[n - 1 - r]? = some y → Fef.neg y x = true) ∧ St w0 wr (OwnT (.slice (some ⟨g, 0, none⟩) q c) l :: R)) (fun vs vr _ => (intOf vr).toNat - (intOf vs).toNat)
    case atStart => exact ⟨s0, r0, rfl, rfl, by omega, by omega, by omega, Lib.hid (.inl rfl), Lib.hid (.inl rfl), I⟩
    case round =>
      clear I
      obtain ⟨s, r, rfl, rfl, hs1, hs2, hs3, HI, HJ, I⟩ := hrel
      by_cases hlt : s < r
      · obtain ⟨h, hh⟩ : ∃ h : Nat, (s + r) / 2 = h := ⟨_, rfl⟩
        have hh1 : s ≤ h ∧ h < r := by omega
        obtain ⟨hh3, hh4⟩ := hh1
        have hh2 : ((s : Int) + (r : Int)) / 2 = (h : Int) := by omega
        have hlt2 : (s : Int) < (r : Int) := by omega
        clear hh
        obtain ⟨t, htt⟩ : ∃ t, n - 1 - h = t := ⟨_, rfl⟩
        have hpt : h ≤ p ∧ p - h = t := by have := HPn.out; omega
        obtain ⟨hpt1, hpt2⟩ := hpt
        have hwt : IntKind.i64.wrap ((p : Int) - (h : Int)) = (t : Int) := by rw [IntKind.wrap_i64]; omega
        have hq_h : h < q := by omega
        have hq2_h : (h : Int) < (q : Int) := by omega
        have hq_t : t < q := by omega
        have hq2_t : (t : Int) < (q : Int) := by omega
        obtain ⟨x, hx⟩ : ∃ x, l[h]? = some x := ⟨_, List.getElem?_eq_getElem (by rw [HQ.out]; omega)⟩
        have HX := Lib.hid hx
        obtain ⟨y, hy⟩ : ∃ y, l[t]? = some y := ⟨_, List.getElem?_eq_getElem (by rw [HQ.out]; omega)⟩
        have HY := Lib.hid hy
        have HTT := Lib.hid htt
        obtain ⟨z, hr⟩ : ∃ z, Fef.cf y x = z := ⟨_, rfl⟩
        have HC := Lib.hid (fun w => fefo_cf y x z hr w)
        have HN : Hid (decide (z < 0) = Fef.neg y x) := Lib.hid (by rw [← hr]; exact Fef.cf_neg y x)
        clear hx hy hr hpt2 htt
        cases hn : Fef.neg y x with
        | false =>
          have d5 : decide (z < 0) = false := HN.out.trans hn
          have HI2 : Hid (h + 1 = s0 ∨ ∀ x y, l[h + 1 - 1]? = some x → l[n - (h + 1)]? = some y → Fef.neg y x = false) := Lib.hid (.inr fun x' y' hx' hy' => by
            rw [Nat.add_sub_cancel, HX.out] at hx'; injection hx' with hx'
            rw [show n - (h + 1) = t by have := HTT.out; omega, HY.out] at hy'; injection hy' with hy'
            rw [← hx', ← hy']; exact hn)
          clear hn
          go_upto_region 35 with fail
          rename World => w1
          obtain ⟨x0, x1, x2, x3, x4, x5, x6, x7⟩ := lot_at I HX.out
          obtain ⟨y0, y1, y2, y3, y4, y5, y6, y7⟩ := lot_at I HY.out
          replace I := Lib.hid I
          go_region_held3 (fun w' => Fr w1 w') (first | assumption | exact (Fr.refl _).drew | exact Fr.trans (by assumption) (by assumption)) (first | (go_at_call 101; go_must (refine (HC.out _).mono ?_; rintro _ w1 ⟨rfl, hf⟩)))
          replace I := I.out.still (by assumption)
          clear x0 x1 x2 x3 x4 x5 x6 x7 y0 y1 y2 y3 y4 y5 y6 y7
          go_wp2_with fail
          go_roundw
          case rel => exact ⟨h + 1, r, by go_num, rfl, by omega, by omega, by omega, HI2, HJ, I⟩
          case measure => simp [intOf]; omega
        | true =>
          have d5 : decide (z < 0) = true := HN.out.trans hn
          have HJ2 : Hid (h = r0 ∨ ∀ x y, l[h]? = some x → l[n - 1 - h]? = some y → Fef.neg y x = true) := Lib.hid (.inr fun x' y' hx' hy' => by
            rw [HX.out] at hx'; injection hx' with hx'
            rw [HTT.out, HY.out] at hy'; injection hy' with hy'
            rw [← hx', ← hy']; exact hn)
          clear hn
          go_upto_region 35 with fail
          rename World => w1
          obtain ⟨x0, x1, x2, x3, x4, x5, x6, x7⟩ := lot_at I HX.out
          obtain ⟨y0, y1, y2, y3, y4, y5, y6, y7⟩ := lot_at I HY.out
          replace I := Lib.hid I
          go_region_held3 (fun w' => Fr w1 w') (first | assumption | exact (Fr.refl _).drew | exact Fr.trans (by assumption) (by assumption)) (first | (go_at_call 101; go_must (refine (HC.out _).mono ?_; rintro _ w1 ⟨rfl, hf⟩)))
          replace I := I.out.still (by assumption)
          clear x0 x1 x2 x3 x4 x5 x6 x7 y0 y1 y2 y3 y4 y5 y6 y7
          go_wp2_with fail
          go_roundw
          case rel => exact ⟨s, h, rfl, rfl, by omega, by omega, by omega, HI, HJ2, I⟩
          case measure => simp only [intOf]; omega
      · have hlt2 : ¬ (s : Int) < (r : Int) := by omega
        obtain rfl : s = r := by omega
        obtain ⟨e, he⟩ : ∃ e, n - s = e := ⟨_, rfl⟩
        have hsn : s ≤ n := by omega
        have hwe : IntKind.i64.wrap ((n : Int) - (s : Int)) = (e : Int) := by rw [IntKind.wrap_i64]; omega
        have hea : a ≤ s := by omega
        have hsm : s ≤ m := by omega
        have hme : m ≤ e := by omega
        have heb : e ≤ b := by omega
        have hnmd : n = md + m := HMD.out.2.symm
        have hsmd : s ≤ md := by omega
        have hmde : md ≤ e := by omega
        -- the four parts
        obtain ⟨A1, A2, hA, hA1, hA2⟩ : ∃ A1 A2, A = A1 ++ A2 ∧ A1 = A.take (s - a) ∧ A2 = A.drop (s - a) := ⟨_, _, (List.take_append_drop _ _).symm, rfl, rfl⟩
        obtain ⟨B1, B2, hB, hB1, hB2⟩ : ∃ B1 B2, B = B1 ++ B2 ∧ B1 = B.take (e - m) ∧ B2 = B.drop (e - m) := ⟨_, _, (List.take_append_drop _ _).symm, rfl, rfl⟩
        have hlA := HP.out.2.1
        have hlB := HP.out.2.2
        have hc1 : ∀ x ∈ A1, ∀ y ∈ B2, Fef.lt x y := by
          rw [hA1, hB2]
          refine Srt.cross_lo Fef.ord HS.out.1 HS.out.2.1 HS.out.2.2 (by omega) ?_
          rcases HI.out with h | h
          · rcases HB.out.g1 with h' | h'
            · exact .inl (by omega)
            · exact .inr (.inl (by omega))
          · by_cases h0 : s - a = 0
            · exact .inl h0
            · by_cases h9 : e - m = B.length
              · exact .inr (.inl h9)
              · refine .inr (.inr fun x y hx hy => h x y ?_ ?_)
                · rw [in_A HL.out HP.out.1 HP.out.2.1 (s - 1) (by omega) (by omega), show s - 1 - a = s - a - 1 by omega]; exact hx
                · rw [in_B HL.out HP.out.1 HP.out.2.1 HP.out.2.2 (n - s) (by omega) (by omega), show n - s - m = e - m by omega]; exact hy
        have hc2 : ∀ x ∈ B1, ∀ y ∈ A2, Fef.lt x y := by
          rw [hA2, hB1]
          refine Srt.cross_hi Fef.ord HS.out.1 HS.out.2.1 HS.out.2.2 (by omega) ?_
          rcases HJ.out with h | h
          · rcases HB.out.g2 with h' | h'
            · exact .inr (.inl (by omega))
            · exact .inl (by omega)
          · by_cases h0 : e - m = 0
            · exact .inl h0
            · by_cases h9 : s - a = A.length
              · exact .inr (.inl h9)
              · refine .inr (.inr fun x y hx hy => h x y ?_ ?_)
                · rw [in_A HL.out HP.out.1 HP.out.2.1 s (by omega) (by omega)]; exact hx
                · rw [in_B HL.out HP.out.1 HP.out.2.1 HP.out.2.2 (n - 1 - s) (by omega) (by omega), show n - 1 - s - m = e - m - 1 by omega]; exact hy
        have hl1 : A1.length = s - a := by rw [hA1, List.length_take]; omega
        have hl2 : A2.length = m - s := by rw [hA2, List.length_drop]; omega
        have hl3 : B1.length = e - m := by rw [hB1, List.length_take]; omega
        have hl4 : B2.length = b - e := by rw [hB2, List.length_drop]; omega
        have HLN := Lib.hid (And.intro hl1 (And.intro hl2 (And.intro hl3 hl4)))
        have HCR := Lib.hid (And.intro hc1 hc2)
        have HAB := Lib.hid (And.intro hA hB)
        have HSm : Hid (e = md + m - s) := Lib.hid (by omega)
        clear hA1 hA2 hB1 hB2 hc1 hc2 hl1 hl2 hl3 hl4 hA hB HI HJ HB hlA hlB he hnmd b1 b2 b3 b4 b5 hs1 hs2 hs3
        go_upto_region 39 with fail
        go_cut [185] from 178 to 185 (fun cv wx => ∃ qb : Bool, cv = .bool qb ∧ Hid (qb = true ↔ (s < m ∧ m < e)) ∧ St w0 wx (OwnT (.slice (some ⟨g, 0, none⟩) q c) l :: R))
        case first =>
          by_cases h1 : s < m
          · have d1 : decide (s < m) = true := decide_eq_true h1
            have d2 : decide ((s : Int) < (m : Int)) = true := decide_eq_true (by omega)
            have d2' : (s : Int) < (m : Int) := by omega
            have H1 := Lib.hid h1
            by_cases h2 : m < e
            · have d3 : decide (m < e) = true := decide_eq_true h2
              have d4 : decide ((m : Int) < (e : Int)) = true := decide_eq_true (by omega)
              have d4' : (m : Int) < (e : Int) := by omega
              have H2 := Lib.hid h2
              go_wp2_with fail
              go_meet
              case rel => exact ⟨true, rfl, Lib.hid ⟨fun _ => ⟨H1.out, H2.out⟩, fun _ => rfl⟩, I⟩
            · have d3 : decide (m < e) = false := decide_eq_false h2
              have d4 : decide ((m : Int) < (e : Int)) = false := decide_eq_false (by omega)
              have H2 := Lib.hid h2
              go_wp2_with fail
              go_meet
              case rel => exact ⟨false, rfl, Lib.hid ⟨fun h => (by cases h), fun h => absurd h.2 H2.out⟩, I⟩
          · have d1 : decide (s < m) = false := decide_eq_false h1
            have d2 : decide ((s : Int) < (m : Int)) = false := decide_eq_false (by omega)
            have H1 := Lib.hid h1
            go_wp2_with fail
            go_meet
            case rel => exact ⟨false, rfl, Lib.hid ⟨fun h => (by cases h), fun h => absurd h.1 H1.out⟩, I⟩
        case rest =>
          clear I
          obtain ⟨qb, rfl, HQb, I⟩ := hcut
          go_upto_if 185 with fail
          go_cut [] from 178 to 191 (fun wx => St w0 wx (OwnT (.slice (some ⟨g, 0, none⟩) q c) (P ++ (A1 ++ (B1 ++ (A2 ++ (B2 ++ Rr))))) :: R))
          case first =>
            cases qb with
            | true =>
              obtain ⟨h1, h2⟩ := HQb.out.1 rfl
              have HR := Lib.hid (rotate_lots (P ++ (A1 ++ (B1 ++ (A2 ++ (B2 ++ Rr))))) s m e g c q l h1 h2 ⟨P ++ A1, A2, B1, B2 ++ Rr, by rw [HL.out, HAB.out.1, HAB.out.2]; simp, by rw [List.length_append, HP.out.1, HLN.out.1]; omega, HLN.out.2.1, HLN.out.2.2.1, by simp⟩ w0 _ _ R I .here HQ.out)
              clear h1 h2
              go_wp2_with (first | (go_at_call 134; go_must (refine (HR.out).mono ?_; rintro _ w1 ⟨rfl, S⟩; clear I; have I := S; clear S)))
              go_meet
              case rel => exact I
            | false =>
              have HE : Hid (l = P ++ (A1 ++ (B1 ++ (A2 ++ (B2 ++ Rr))))) := Lib.hid (by
                have h3 : ¬ (s < m ∧ m < e) := fun h => by have := HQb.out.2 h; cases this
                by_cases h1 : s < m
                · have e1 : B1 = [] := List.eq_nil_of_length_eq_zero (by have := HLN.out.2.2.1; omega)
                  rw [HL.out, HAB.out.1, HAB.out.2, e1]; simp
                · have e1 : A2 = [] := List.eq_nil_of_length_eq_zero (by have := HLN.out.2.1; omega)
                  rw [HL.out, HAB.out.1, HAB.out.2, e1]; simp)
              go_wp2_with fail
              go_meet
              case rel => rw [← HE.out]; exact I
          case rest =>
            clear I HQb
            have I := hcut
            clear hcut
            go_upto_region 41 with fail
            go_cut [199] from 192 to 199 (fun cv wx => ∃ qb : Bool, cv = .bool qb ∧ Hid (qb = true ↔ (a < s ∧ s < md)) ∧ St w0 wx (OwnT (.slice (some ⟨g, 0, none⟩) q c) (P ++ (A1 ++ (B1 ++ (A2 ++ (B2 ++ Rr))))) :: R))
            case first =>
              by_cases h1 : a < s
              · have d1 : decide (a < s) = true := decide_eq_true h1
                have d2 : decide ((a : Int) < (s : Int)) = true := decide_eq_true (by omega)
                have d2' : (a : Int) < (s : Int) := by omega
                have H1 := Lib.hid h1
                by_cases h2 : s < md
                · have d3 : decide (s < md) = true := decide_eq_true h2
                  have d4 : decide ((s : Int) < (md : Int)) = true := decide_eq_true (by omega)
                  have d4' : (s : Int) < (md : Int) := by omega
                  have H2 := Lib.hid h2
                  go_wp2_with fail
                  go_meet
                  case rel => exact ⟨true, rfl, Lib.hid ⟨fun _ => ⟨H1.out, H2.out⟩, fun _ => rfl⟩, I⟩
                · have d3 : decide (s < md) = false := decide_eq_false h2
                  have d4 : decide ((s : Int) < (md : Int)) = false := decide_eq_false (by omega)
                  have H2 := Lib.hid h2
                  go_wp2_with fail
                  go_meet
                  case rel => exact ⟨false, rfl, Lib.hid ⟨fun h => (by cases h), fun h => absurd h.2 H2.out⟩, I⟩
              · have d1 : decide (a < s) = false := decide_eq_false h1
                have d2 : decide ((a : Int) < (s : Int)) = false := decide_eq_false (by omega)
                have H1 := Lib.hid h1
                go_wp2_with fail
                go_meet
                case rel => exact ⟨false, rfl, Lib.hid ⟨fun h => (by cases h), fun h => absurd h.1 H1.out⟩, I⟩
            case rest =>
              clear I
              obtain ⟨qb, rfl, HQb, I⟩ := hcut
              go_upto_if 199 with fail
              go_cut [] from 192 to 205 (fun wx => ∃ M1, Hid (M1.Perm (A1 ++ B1) ∧ M1.Pairwise Fef.lt) ∧ St w0 wx (OwnT (.slice (some ⟨g, 0, none⟩) q c) (P ++ (M1 ++ (A2 ++ (B2 ++ Rr)))) :: R))
              case first =>
                cases qb with
                | true =>
                  obtain ⟨h1, h2⟩ := HQb.out.1 rfl
                  have HM := Lib.hid (HIH.out P A1 B1 (A2 ++ (B2 ++ Rr)) a s md (by omega) HP.out.1 (by rw [HLN.out.1]; omega) (by rw [HLN.out.2.2.1]; have := HSm.out; omega) h1 h2 (by have := HS.out.1; rw [HAB.out.1, List.pairwise_append] at this; exact this.1) (by have := HS.out.2.1; rw [HAB.out.2, List.pairwise_append] at this; exact this.1) (fun x hx y hy => HS.out.2.2 x (by rw [HAB.out.1]; exact List.mem_append_left _ hx) y (by rw [HAB.out.2]; exact List.mem_append_left _ hy)) w0 _ _ R I .here)
                  clear h1 h2
                  go_wp2_with (first | (go_at_call 131; go_must (refine (HM.out).mono ?_; rintro _ w1 ⟨rfl, M1, hp1, hp2, S⟩; clear I; have I := S; clear S; replace hp1 := Lib.hid (And.intro hp1 hp2); clear hp2)))
                  go_meet
                  case rel => exact ⟨M1, hp1, I⟩
                | false =>
                  have HE : Hid (A1 = [] ∨ B1 = []) := Lib.hid (by
                    have h3 : ¬ (a < s ∧ s < md) := fun h => by have := HQb.out.2 h; cases this
                    by_cases h1 : a < s
                    · exact .inr (List.eq_nil_of_length_eq_zero (by have := HLN.out.2.2.1; have := HSm.out; omega))
                    · exact .inl (List.eq_nil_of_length_eq_zero (by have := HLN.out.1; omega)))
                  have HSA := Lib.hid (show A1.Pairwise Fef.lt by have := HS.out.1; rw [HAB.out.1, List.pairwise_append] at this; exact this.1)
                  have HSB := Lib.hid (show B1.Pairwise Fef.lt by have := HS.out.2.1; rw [HAB.out.2, List.pairwise_append] at this; exact this.1)
                  go_wp2_with fail
                  go_meet
                  case rel =>
                    rcases HE.out with e1 | e1
                    · exact ⟨B1, Lib.hid ⟨by rw [e1, List.nil_append], HSB.out⟩, by rw [e1] at I; exact I⟩
                    · exact ⟨A1, Lib.hid ⟨by rw [e1, List.append_nil], HSA.out⟩, by rw [e1] at I; exact I⟩
              case rest =>
                clear I HQb
                obtain ⟨M1, HM1, I⟩ := hcut
                have hMl : (P ++ M1).length = md := by rw [List.length_append, HP.out.1, HM1.out.1.length_eq, List.length_append, HLN.out.1, HLN.out.2.2.1]; have := HSm.out; omega
                have HMl := Lib.hid hMl
                clear hMl
                by_cases h1 : md < e
                · have d1 : decide (md < e) = true := decide_eq_true h1
                  have d2 : decide ((md : Int) < (e : Int)) = true := decide_eq_true (by omega)
                  have d2' : (md : Int) < (e : Int) := by omega
                  by_cases h2 : e < b
                  · have d3 : decide (e < b) = true := decide_eq_true h2
                    have d4 : decide ((e : Int) < (b : Int)) = true := decide_eq_true (by omega)
                    have d4' : (e : Int) < (b : Int) := by omega
                    have HM := Lib.hid (HIH.out (P ++ M1) A2 B2 Rr md e b (by omega) HMl.out (by rw [HLN.out.2.1]; have := HSm.out; omega) (by rw [HLN.out.2.2.2]; omega) h1 h2 (by have := HS.out.1; rw [HAB.out.1, List.pairwise_append] at this; exact this.2.1) (by have := HS.out.2.1; rw [HAB.out.2, List.pairwise_append] at this; exact this.2.1) (fun x hx y hy => HS.out.2.2 x (by rw [HAB.out.1]; exact List.mem_append_right _ hx) y (by rw [HAB.out.2]; exact List.mem_append_right _ hy)) w0 _ _ R (by rw [List.append_assoc]; exact I) .here)
                    go_wp2_with (first | (go_at_call 131; go_must (refine (HM.out).mono ?_; rintro _ w1 ⟨rfl, M2, hp1, hp2, S⟩; clear I; have I := S; clear S; replace hp1 := Lib.hid (And.intro hp1 hp2); clear hp2)))
                    have HF := Srt.halves (by have := HS.out.1; rw [HAB.out.1] at this; exact this) (by have := HS.out.2.1; rw [HAB.out.2] at this; exact this) HCR.out.1 HCR.out.2 HM1.out.1 hp1.out.1 HM1.out.2 hp1.out.2
                    exact end_0 rfl rfl ⟨rfl, M1 ++ M2, by rw [HAB.out.1, HAB.out.2]; exact HF.2, HF.1, by rw [List.append_assoc] at I ⊢; exact I⟩
                  · have d3 : decide (e < b) = false := decide_eq_false h2
                    have d4 : decide ((e : Int) < (b : Int)) = false := decide_eq_false (by omega)
                    have HE : Hid (B2 = []) := Lib.hid (List.eq_nil_of_length_eq_zero (by have := HLN.out.2.2.2; omega))
                    go_wp2_with fail
                    have HF := Srt.halves (M2 := A2) (by have := HS.out.1; rw [HAB.out.1] at this; exact this) (by have := HS.out.2.1; rw [HAB.out.2] at this; exact this) HCR.out.1 HCR.out.2 HM1.out.1 (by rw [HE.out, List.append_nil]) HM1.out.2 (by have := HS.out.1; rw [HAB.out.1, List.pairwise_append] at this; exact this.2.1)
                    exact end_0 rfl rfl ⟨rfl, M1 ++ A2, by rw [HAB.out.1, HAB.out.2]; exact HF.2, HF.1, by rw [HE.out] at I; rw [List.append_assoc]; exact I⟩
                · have d1 : decide (md < e) = false := decide_eq_false h1
                  have d2 : decide ((md : Int) < (e : Int)) = false := decide_eq_false (by omega)
                  have HE : Hid (A2 = []) := Lib.hid (List.eq_nil_of_length_eq_zero (by have := HLN.out.2.1; have := HSm.out; omega))
                  go_wp2_with fail
                  have HF := Srt.halves (M2 := B2) (by have := HS.out.1; rw [HAB.out.1] at this; exact this) (by have := HS.out.2.1; rw [HAB.out.2] at this; exact this) HCR.out.1 HCR.out.2 HM1.out.1 (by rw [HE.out, List.nil_append]) HM1.out.2 (by have := HS.out.2.1; rw [HAB.out.2, List.pairwise_append] at this; exact this.2.1)
                  exact end_0 rfl rfl ⟨rfl, M1 ++ B2, by rw [HAB.out.1, HAB.out.2]; exact HF.2, HF.1, by rw [HE.out] at I; rw [List.append_assoc]; exact I⟩
/-- Two sorted stretches, the one behind the other, merged in place. -/
theorem merge_lots (g c q : Nat) (hq6 : q ≤ 1000000) : ∀ (N : Nat) (P A B Rr : List Lt) (a m b : Nat), b - a ≤ N → P.length = a → a + A.length = m → m + B.length = b → a < m → m < b → A.Pairwise Fef.lt → B.Pairwise Fef.lt → (∀ x ∈ A, ∀ y ∈ B, x.tag < y.tag) → ∀ (w0 w : World) (L R : List Asr), St w0 w L → At (OwnT (.slice (some ⟨g, 0, none⟩) q c) (P ++ (A ++ (B ++ Rr)))) L R →
    Calls Try.prog 131 #[.slice (some ⟨g, 0, none⟩) q c, .int .i64 a, .int .i64 m, .int .i64 b, sortF] w fun e w' => e = .returned (.tuple #[]) ∧ ∃ M, M.Perm (A ++ B) ∧ M.Pairwise Fef.lt ∧ St w0 w' (OwnT (.slice (some ⟨g, 0, none⟩) q c) (P ++ (M ++ Rr)) :: R)
  | 0, _, _, _, _, _, _, _, hN, _, _, _, ham, hmb, _, _, _, _, _, _, _, _, _ => by omega
  | N + 1, P, A, B, Rr, a, m, b, hN, hPa, hAm, hBb, ham, hmb, sA, sB, ht, w0, w, L, R, I, hA => by
    by_cases h1 : m - a = 1
    · exact merge_one P A B Rr a m b g c q h1 hq6 hPa hAm hBb ham hmb sA sB ht w0 w L R I hA
    · by_cases h2 : b - m = 1
      · exact merge_last P A B Rr a m b g c q h1 h2 hq6 hPa hAm hBb ham hmb sA sB ht w0 w L R I hA
      · exact merge_step P A B Rr a m b g c q h1 h2 (fun P A B Rr a' m' b' hN' => merge_lots g c q hq6 N P A B Rr a' m' b' (by omega)) hq6 hPa hAm hBb ham hmb sA sB ht w0 w L R I hA
end Go.Proofs.Ytggeloihnbjogaa
