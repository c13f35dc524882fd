
/- Lots (layer 15): the insertion sort. -/
import Derived.Test.YtggeloihnbjogaaSrtC
import Derived.Deep.RegionHeld3
namespace Go.Proofs.Ytggeloihnbjogaa
open Go.RowKit Go.Hf
theorem cellsF {w1 w0 : World} {g q c : Nat} {K : List Lt} {R : List Asr} (I : St w0 w1 (OwnT (.slice (some ⟨g, 0, none⟩) q c) K :: R)) (i : Nat) (x : Lt) (hx : K[i]? = some x) : ∀ w', Fr w1 w' → ∀ (j : Nat) (u : Value), (encT x)[j]? = some u → w'.cell? ⟨g, i * 8 + j, none⟩ = some u := by
  intro w' hf
  obtain ⟨hi, he⟩ := List.getElem?_eq_some_iff.1 hx
  rw [← he]
  exact ((I.still hf).own (v := .slice (some ⟨g, 0, none⟩) q c) (l := K) .here).cell encT_len i hi
theorem lot_at {w0 w1 : World} {g q c : Nat} {K : List Lt} {R : List Asr} {i : Nat} {x : Lt} (I : St w0 w1 (OwnT (.slice (some ⟨g, 0, none⟩) q c) K :: R)) (hx : K[i]? = some x) :
    (∀ w', Fr w1 w' → w'.cell? ⟨g, i * 8, none⟩ = some (.int .i64 x.id)) ∧ (∀ w', Fr w1 w' → w'.cell? ⟨g, i * 8 + 1, none⟩ = some (.int .i64 x.prod)) ∧ (∀ w', Fr w1 w' → w'.cell? ⟨g, i * 8 + 2, none⟩ = some (.int .i64 x.units)) ∧ (∀ w', Fr w1 w' → w'.cell? ⟨g, i * 8 + 3, none⟩ = some (.int .i64 x.exp)) ∧ (∀ w', Fr w1 w' → w'.cell? ⟨g, i * 8 + 4, none⟩ = some (.int .i64 x.gr)) ∧ (∀ w', Fr w1 w' → w'.cell? ⟨g, i * 8 + 5, none⟩ = some (.int .i64 x.ord)) ∧ (∀ w', Fr w1 w' → w'.cell? ⟨g, i * 8 + 6, none⟩ = some (.int .i64 x.st)) ∧ (∀ w', Fr w1 w' → w'.cell? ⟨g, i * 8 + 7, none⟩ = some (.slice x.A x.n x.c)) := by
  have h := fun w' hf => cells8 (cellsF I i x hx w' hf)
  exact ⟨fun w' hf => (h w' hf).1, fun w' hf => (h w' hf).2.1, fun w' hf => (h w' hf).2.2.1, fun w' hf => (h w' hf).2.2.2.1, fun w' hf => (h w' hf).2.2.2.2.1, fun w' hf => (h w' hf).2.2.2.2.2.1, fun w' hf => (h w' hf).2.2.2.2.2.2.1, fun w' hf => (h w' hf).2.2.2.2.2.2.2⟩
/-- The comparison, its answer under a name. -/
theorem fefo_cf (x y : Lt) (r : Int) (h : Fef.cf x y = r) (w0 : World) : Calls Try.prog 101 #[aggT x, aggT y] w0 fun e w' => e = .returned (.int .i64 r) ∧ Fr w0 w' := by rw [← h]; exact fefo_cmp x y w0
/-- What the first k of a stretch are behind k rounds. -/
def Fef.Out (P D R : List Lt) (k : Nat) (K : List Lt) : Prop := ∃ S, K = P ++ (S ++ (D.drop k ++ R)) ∧ S.Perm (D.take k) ∧ S.Pairwise Fef.lt
theorem Fef.Out.start (P D R : List Lt) : Fef.Out P D R 1 (P ++ (D ++ R)) := by
  refine ⟨D.take 1, by rw [← List.append_assoc (D.take 1), List.take_append_drop], List.Perm.refl _, ?_⟩
  cases D with
  | nil => exact List.Pairwise.nil
  | cons x D => simp
theorem Fef.Out.move {P D R K : List Lt} {k : Nat} (h : Fef.Out P D R k K) (hk : k < D.length) (ht : D.Pairwise fun x y => x.tag < y.tag) : ∃ S x, Srt.Move P S x (D.drop (k + 1) ++ R) K (P.length + k) (Fef.lt x) ∧ S.Pairwise Fef.lt ∧ (∀ y ∈ S, y.tag < x.tag) ∧ (x :: S).Perm (D.take (k + 1)) := by
  obtain ⟨S, rfl, hp, hs⟩ := h
  have hl : S.length = k := by rw [hp.length_eq, List.length_take]; omega
  refine ⟨S, D[k], ⟨S, [], by simp, ?_, by rw [hl], fun _ h => (by cases h)⟩, hs, fun y hy => ?_, ?_⟩
  · rw [List.drop_eq_getElem_cons hk]; rfl
  · obtain ⟨i, hi, rfl⟩ := List.mem_iff_getElem.1 (hp.mem_iff.1 hy)
    rw [List.length_take] at hi
    rw [List.getElem_take]
    exact List.pairwise_iff_getElem.1 ht i k (by omega) hk (by omega)
  · rw [List.take_succ_eq_append_getElem hk]
    exact (List.Perm.cons _ hp).trans (List.perm_append_singleton _ _).symm
theorem Fef.Out.next {P D R K S : List Lt} {x : Lt} {k j : Nat} (hm : Srt.Move P S x (D.drop (k + 1) ++ R) K j (Fef.lt x)) (hs : S.Pairwise Fef.lt) (ht : ∀ y ∈ S, y.tag < x.tag) (hp : (x :: S).Perm (D.take (k + 1))) (he : j = P.length ∨ ∀ y, K[j - 1]? = some y → Fef.neg x y = false) : Fef.Out P D R (k + 1) K := by
  obtain ⟨M, h1, h2, h3⟩ := Srt.Move.stop Fef.ord hm hs ht he
  exact ⟨M, h1, h3.trans hp, h2⟩
theorem Fef.Out.done {P D R K : List Lt} {k : Nat} (h : Fef.Out P D R k K) (hk : D.length ≤ k) : ∃ M, K = P ++ (M ++ R) ∧ M.Perm D ∧ M.Pairwise Fef.lt := by
  obtain ⟨S, rfl, hp, hs⟩ := h
  rw [List.take_of_length_le hk] at hp
  rw [List.drop_of_length_le hk]
  exact ⟨S, rfl, hp, hs⟩
set_option maxRecDepth 100000 in
set_option maxHeartbeats 8000000 in
theorem insertion_lots (P D Rr : List Lt) (a b : Nat) (g c : Nat) (q : Nat) (hq6 : q ≤ 1000000) (ha : P.length = a) (hb : a + D.length = b) (ht : D.Pairwise fun x y => x.tag < y.tag) (w0 w : World) (L R : List Asr) (I : St w0 w L) (hA : At (OwnT (.slice (some ⟨g, 0, none⟩) q c) (P ++ (D ++ Rr))) L R) :
    Calls Try.prog 130 #[.slice (some ⟨g, 0, none⟩) q c, .int .i64 a, .int .i64 b, sortF] w fun e w' => e = .returned (.tuple #[]) ∧ ∃ M, M.Perm D ∧ M.Pairwise Fef.lt ∧ St w0 w' (OwnT (.slice (some ⟨g, 0, none⟩) q c) (P ++ (M ++ Rr)) :: R) := by
  replace I := I.take hA
  clear hA
  obtain ⟨A', c', e, hnc, hcm, -⟩ := (I.own .here).reads encT_len
  unfold maxLen at hcm
  injection e with e1 e2 e3
  subst e1 e3
  have hq : b ≤ q := by rw [e2]; simp; omega
  have HQ : Hid (q = (P ++ (D ++ Rr)).length) := Lib.hid e2
  have hqc : q ≤ c := by rw [e2]; exact hnc
  have HAB := Lib.hid (And.intro ha hb)
  have HT := Lib.hid ht
  have hab : a ≤ b := by omega
  clear ha hb ht e2 hnc
  go_enter Try.func130, Try.ntmps130
  try dsimp only [List.append]
  go_wp2_with fail
  all_goals try omega
  go_loopw [8] (fun iv wr => ∃ (i k : Nat) (K : List Lt), iv = .int .i64 i ∧ i ≤ b + 1 ∧ Hid (i = a + k) ∧ Hid (Fef.Out P D Rr k K ∧ K.length = q) ∧ St w0 wr (OwnT (.slice (some ⟨g, 0, none⟩) q c) K :: R)) (fun iv _ => b + 1 - (intOf iv).toNat)
  case atStart => exact ⟨a + 1, 1, _, by go_num, by omega, Lib.hid rfl, Lib.hid ⟨Fef.Out.start P D Rr, HQ.out.symm⟩, I⟩
  case round =>
    clear I
    obtain ⟨i, k, K, rfl, hi, HI, HK, I⟩ := hrel
    rename World => wr
    by_cases hlt : i < b
    · have hlt2 : (i : Int) < (b : Int) := by omega
      obtain ⟨S, x, HM, HS⟩ : ∃ S x, Hid (Srt.Move P S x (D.drop (k + 1) ++ Rr) K i (Fef.lt x)) ∧ Hid (S.Pairwise Fef.lt ∧ (∀ y ∈ S, y.tag < x.tag) ∧ (x :: S).Perm (D.take (k + 1))) := by
        obtain ⟨S, x, h1, h2⟩ := HK.out.1.move (by have h1 := HAB.out; have := HI.out; omega) HT.out
        exact ⟨S, x, Lib.hid (by rw [HI.out, ← HAB.out.1]; exact h1), Lib.hid h2⟩
      have HLn : Hid (K.length = q) := Lib.hid HK.out.2
      clear HK
      go_wp2_with fail
      go_loopw [9] (fun jv wi => ∃ (j : Nat) (K2 : List Lt), jv = .int .i64 j ∧ a ≤ j ∧ j ≤ i ∧ Hid (Srt.Move P S x (D.drop (k + 1) ++ Rr) K2 j (Fef.lt x) ∧ K2.length = q) ∧ St w0 wi (OwnT (.slice (some ⟨g, 0, none⟩) q c) K2 :: R)) (fun jv _ => (intOf jv).toNat)
      case atStart => exact ⟨i, K, rfl, by have := HI.out; omega, by omega, Lib.hid ⟨HM.out, HLn.out⟩, I⟩
      case round =>
        clear I HM HLn
        obtain ⟨j, K2, rfl, haj, hji, HM, I⟩ := hrel
        by_cases hj : j = a
        · have HO : Hid (Fef.Out P D Rr (k + 1) K2 ∧ K2.length = q) := Lib.hid ⟨Fef.Out.next HM.out.1 HS.out.1 HS.out.2.1 HS.out.2.2 (.inl (by rw [hj]; exact HAB.out.1.symm)), HM.out.2⟩
          have d1 : decide ((a : Int) < (j : Int)) = false := decide_eq_false (by omega)
          have d2 : decide (a < j) = false := decide_eq_false (by omega)
          have d3 : ¬ a < j := by omega
          have HI2 : Hid (i + 1 = a + (k + 1)) := Lib.hid (by have := HI.out; omega)
          clear hj
          go_upto_region 4 with fail
          go_quiet (fail)
          replace I := I.drewN nq
          go_wp2_with fail
          exact ⟨⟨i + 1, k + 1, K2, by go_num, by omega, HI2, HO, I⟩, by simp [intOf]; omega⟩
        · obtain ⟨jp, hjp⟩ : ∃ jp, j = jp + 1 := ⟨j - 1, by omega⟩
          have hap : a ≤ jp := by omega
          have d1 : decide ((a : Int) < (j : Int)) = true := decide_eq_true (by omega)
          have d2 : decide (a < j) = true := decide_eq_true (by omega)
          have d3 : a < j := by omega
          have hwj : IntKind.i64.wrap ((j : Int) - 1) = (jp : Int) := by rw [IntKind.wrap_i64]; omega
          have hjq : j < q := by have h1 := HM.out.1.len; have h2 := HM.out.2; omega
          have hjq2 : (j : Int) < (q : Int) := by omega
          have hpq : jp < q := by omega
          have hpq2 : (jp : Int) < (q : Int) := by omega
          obtain ⟨y, hy⟩ : ∃ y, K2[jp]? = some y := ⟨_, List.getElem?_eq_getElem (by rw [HM.out.2]; omega)⟩
          have HY := Lib.hid hy
          have HX : Hid (K2[j]? = some x) := Lib.hid HM.out.1.here
          have HJ := Lib.hid hjp
          obtain ⟨r, hr⟩ : ∃ r, Fef.cf x y = r := ⟨_, rfl⟩
          have HC := Lib.hid (fun w => fefo_cf x y r hr w)
          have HN : Hid (decide (r < 0) = Fef.neg x y) := Lib.hid (by rw [← hr]; exact Fef.cf_neg x y)
          clear hy hj hjp hr
          have hpj : jp < j := by have := HJ.out; omega
          go_upto_region 4 with fail
          rename World => w1
          obtain ⟨x0, x1, x2, x3, x4, x5, x6, x7⟩ := lot_at I HX.out
          obtain ⟨y0, y1, y2, y3, y4, y5, y6, y7⟩ := lot_at I HY.out
          replace I := Lib.hid I
          cases hn : Fef.neg x y with
          | false =>
            have HO : Hid (Fef.Out P D Rr (k + 1) K2 ∧ K2.length = q) := Lib.hid ⟨Fef.Out.next HM.out.1 HS.out.1 HS.out.2.1 HS.out.2.2 (.inr (fun z hz => by
              rw [HJ.out, Nat.add_sub_cancel, HY.out] at hz
              injection hz with hz
              rw [← hz]; exact hn)), HM.out.2⟩
            have d5 : decide (r < 0) = false := HN.out.trans hn
            have HI2 : Hid (i + 1 = a + (k + 1)) := Lib.hid (by have := HI.out; omega)
            clear hn
            go_region_held3 (fun w' => Fr w1 w') (first | assumption | exact (Fr.refl _).drew | exact Fr.trans (by assumption) (by assumption)) (first | (go_at_call 101; go_must (refine (HC.out _).mono ?_; rintro _ w1 ⟨rfl, hf⟩)))
            replace I := I.out.still (by assumption)
            clear x0 x1 x2 x3 x4 x5 x6 x7 y0 y1 y2 y3 y4 y5 y6 y7
            go_wp2_with fail
            exact ⟨⟨i + 1, k + 1, K2, by go_num, by omega, HI2, HO, I⟩, by simp [intOf]; omega⟩
          | true =>
            have d5 : decide (r < 0) = true := HN.out.trans hn
            have HM2 : Hid (Srt.Move P S x (D.drop (k + 1) ++ Rr) ((K2.set j y).set jp x) jp (Fef.lt x) ∧ ((K2.set j y).set jp x).length = q) := Lib.hid ⟨by
              have h1 := HM.out.1
              rw [HJ.out] at h1
              have h2 := h1.down (by rw [HAB.out.1]; omega) (fun z hz => by
                rw [HY.out] at hz; injection hz with hz
                rw [← hz]
                have hyt : y.tag < x.tag := by
                  obtain ⟨U, V, e1, e2, e3, -⟩ := h1
                  rcases List.eq_nil_or_concat U with rfl | ⟨U, u, rfl⟩
                  · simp at e3; have := HAB.out.1; have := HJ.out; omega
                  · rw [List.concat_eq_append] at *
                    have e4 : jp = P.length + U.length := by rw [List.length_append] at e3; simp at e3; omega
                    have e5 := HY.out
                    rw [e2, e4, List.getElem?_append_right (by omega), Nat.add_sub_cancel_left, List.append_assoc, List.getElem?_append_right (Nat.le_refl _), Nat.sub_self] at e5
                    injection e5 with e5
                    rw [← e5]
                    exact HS.out.2.1 u (by rw [← e1]; simp)
                exact (Fef.ord.neg_iff hyt).1 hn)
              rw [← HJ.out] at h2
              obtain ⟨hjl, hxe⟩ := List.getElem?_eq_some_iff.1 HX.out
              obtain ⟨hpl, hye⟩ := List.getElem?_eq_some_iff.1 HY.out
              rw [Srt.swp_eq hjl hpl, hxe, hye] at h2
              exact h2, by rw [List.length_set, List.length_set]; exact HM.out.2⟩
            have hjl : j < K2.length := by rw [HM.out.2]; omega
            have hpl : jp < K2.length := by rw [HM.out.2]; omega
            clear hn
            go_region_held3 (fun w' => Fr w1 w') (first | assumption | exact (Fr.refl _).drew | exact Fr.trans (by assumption) (by assumption)) (first | (go_at_call 101; go_must (refine (HC.out _).mono ?_; rintro _ w1 ⟨rfl, hf⟩)))
            replace I := I.out.still (by assumption)
            clear x0 x1 x2 x3 x4 x5 x6 x7 y0 y1 y2 y3 y4 y5 y6 y7
            obtain ⟨x0, x1, x2, x3, x4, x5, x6, x7⟩ := cells8 (cellsF I j x HX.out _ (Fr.refl _))
            obtain ⟨y0, y1, y2, y3, y4, y5, y6, y7⟩ := cells8 (cellsF I jp y HY.out _ (Fr.refl _))
            have z0 := (I.own (v := .slice (some ⟨g, 0, none⟩) q c) (l := K2) .here).frozen
            go_upto_region 6 with fail
            go_region
            have I2 := (set8 (set8 I hjl y) (i := jp) (by rw [List.length_set]; exact hpl) x).drew
            clear x0 x1 x2 x3 x4 x5 x6 x7 y0 y1 y2 y3 y4 y5 y6 y7 z0 I
            go_wp2_with fail
            go_roundw
            case rel => exact ⟨jp, _, rfl, by omega, by omega, HM2, I2⟩
            case measure => simp only [intOf]; omega
    · have hlt2 : ¬ (i : Int) < (b : Int) := by omega
      obtain ⟨M, HE, HM⟩ : ∃ M, Hid (K = P ++ (M ++ Rr)) ∧ Hid (M.Perm D ∧ M.Pairwise Fef.lt) := by
        obtain ⟨M, h1, h2, h3⟩ := HK.out.1.done (by have h1 := HAB.out; have := HI.out; omega)
        exact ⟨M, Lib.hid h1, Lib.hid ⟨h2, h3⟩⟩
      go_wp2_with fail
      exact end_0 rfl rfl ⟨rfl, M, HM.out.1, HM.out.2, by rw [← HE.out]; exact I⟩
end Go.Proofs.Ytggeloihnbjogaa
