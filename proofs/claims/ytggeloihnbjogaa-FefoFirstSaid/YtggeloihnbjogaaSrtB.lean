
/- Lots (layer 15): exchanges: swapRange. -/
import Derived.Test.YtggeloihnbjogaaSrtA
import Derived.BigRegion
import Derived.Deep.RegionLaw
namespace Go.Proofs.Ytggeloihnbjogaa
open Go.RowKit Go.Hf
abbrev sortF : Value := .func (.func 101) #[] #[]
abbrev OwnT (v : Value) (l : List Lt) : Asr := OwnS 59 8 encT v l
theorem set8 {g q c i : Nat} {K : List Lt} {w0 w : World} {R : List Asr} (I : St w0 w (OwnT (.slice (some ⟨g, 0, none⟩) q c) K :: R)) (hi : i < K.length) (y : Lt) :
    St w0 ((((((((w.setCell ⟨g, i * 8, none⟩ (.int .i64 y.id)).setCell ⟨g, i * 8 + 1, none⟩ (.int .i64 y.prod)).setCell ⟨g, i * 8 + 2, none⟩ (.int .i64 y.units)).setCell ⟨g, i * 8 + 3, none⟩ (.int .i64 y.exp)).setCell ⟨g, i * 8 + 4, none⟩ (.int .i64 y.gr)).setCell ⟨g, i * 8 + 5, none⟩ (.int .i64 y.ord)).setCell ⟨g, i * 8 + 6, none⟩ (.int .i64 y.st)).setCell ⟨g, i * 8 + 7, none⟩ (.slice y.A y.n y.c)) (OwnT (.slice (some ⟨g, 0, none⟩) q c) (K.set i y) :: R) := by
  obtain ⟨x, hx⟩ : ∃ x, K[i]? = some x := ⟨_, List.getElem?_eq_getElem hi⟩
  have hz : ∀ z : Lt, (K.set i z)[i]? = some z := fun z => List.getElem?_set_self hi
  have I1 : St w0 (w.setCell ⟨g, i * 8, none⟩ (.int .i64 y.id)) (OwnT (.slice (some ⟨g, 0, none⟩) q c) (K.set i { x with id := y.id, tag := y.tag }) :: R) := I.setOwn (f := 0) .here encT_len (x := x) (x' := { x with id := y.id, tag := y.tag }) hx (by decide) rfl rfl
  have I2 : St w0 ((w.setCell ⟨g, i * 8, none⟩ (.int .i64 y.id)).setCell ⟨g, i * 8 + 1, none⟩ (.int .i64 y.prod)) (OwnT (.slice (some ⟨g, 0, none⟩) q c) (K.set i { x with id := y.id, prod := y.prod, tag := y.tag }) :: R) := I1.setOwn (f := 1) .here encT_len (x := { x with id := y.id, tag := y.tag }) (x' := { x with id := y.id, prod := y.prod, tag := y.tag }) (hz _) (by decide) rfl (List.set_set ..)
  have I3 : St w0 (((w.setCell ⟨g, i * 8, none⟩ (.int .i64 y.id)).setCell ⟨g, i * 8 + 1, none⟩ (.int .i64 y.prod)).setCell ⟨g, i * 8 + 2, none⟩ (.int .i64 y.units)) (OwnT (.slice (some ⟨g, 0, none⟩) q c) (K.set i { x with id := y.id, prod := y.prod, units := y.units, tag := y.tag }) :: R) := I2.setOwn (f := 2) .here encT_len (x := { x with id := y.id, prod := y.prod, tag := y.tag }) (x' := { x with id := y.id, prod := y.prod, units := y.units, tag := y.tag }) (hz _) (by decide) rfl (List.set_set ..)
  have I4 : St w0 ((((w.setCell ⟨g, i * 8, none⟩ (.int .i64 y.id)).setCell ⟨g, i * 8 + 1, none⟩ (.int .i64 y.prod)).setCell ⟨g, i * 8 + 2, none⟩ (.int .i64 y.units)).setCell ⟨g, i * 8 + 3, none⟩ (.int .i64 y.exp)) (OwnT (.slice (some ⟨g, 0, none⟩) q c) (K.set i { x with id := y.id, prod := y.prod, units := y.units, exp := y.exp, tag := y.tag }) :: R) := I3.setOwn (f := 3) .here encT_len (x := { x with id := y.id, prod := y.prod, units := y.units, tag := y.tag }) (x' := { x with id := y.id, prod := y.prod, units := y.units, exp := y.exp, tag := y.tag }) (hz _) (by decide) rfl (List.set_set ..)
  have I5 : St w0 (((((w.setCell ⟨g, i * 8, none⟩ (.int .i64 y.id)).setCell ⟨g, i * 8 + 1, none⟩ (.int .i64 y.prod)).setCell ⟨g, i * 8 + 2, none⟩ (.int .i64 y.units)).setCell ⟨g, i * 8 + 3, none⟩ (.int .i64 y.exp)).setCell ⟨g, i * 8 + 4, none⟩ (.int .i64 y.gr)) (OwnT (.slice (some ⟨g, 0, none⟩) q c) (K.set i { x with id := y.id, prod := y.prod, units := y.units, exp := y.exp, gr := y.gr, tag := y.tag }) :: R) := I4.setOwn (f := 4) .here encT_len (x := { x with id := y.id, prod := y.prod, units := y.units, exp := y.exp, tag := y.tag }) (x' := { x with id := y.id, prod := y.prod, units := y.units, exp := y.exp, gr := y.gr, tag := y.tag }) (hz _) (by decide) rfl (List.set_set ..)
  have I6 : St w0 ((((((w.setCell ⟨g, i * 8, none⟩ (.int .i64 y.id)).setCell ⟨g, i * 8 + 1, none⟩ (.int .i64 y.prod)).setCell ⟨g, i * 8 + 2, none⟩ (.int .i64 y.units)).setCell ⟨g, i * 8 + 3, none⟩ (.int .i64 y.exp)).setCell ⟨g, i * 8 + 4, none⟩ (.int .i64 y.gr)).setCell ⟨g, i * 8 + 5, none⟩ (.int .i64 y.ord)) (OwnT (.slice (some ⟨g, 0, none⟩) q c) (K.set i { x with id := y.id, prod := y.prod, units := y.units, exp := y.exp, gr := y.gr, ord := y.ord, tag := y.tag }) :: R) := I5.setOwn (f := 5) .here encT_len (x := { x with id := y.id, prod := y.prod, units := y.units, exp := y.exp, gr := y.gr, tag := y.tag }) (x' := { x with id := y.id, prod := y.prod, units := y.units, exp := y.exp, gr := y.gr, ord := y.ord, tag := y.tag }) (hz _) (by decide) rfl (List.set_set ..)
  have I7 : St w0 (((((((w.setCell ⟨g, i * 8, none⟩ (.int .i64 y.id)).setCell ⟨g, i * 8 + 1, none⟩ (.int .i64 y.prod)).setCell ⟨g, i * 8 + 2, none⟩ (.int .i64 y.units)).setCell ⟨g, i * 8 + 3, none⟩ (.int .i64 y.exp)).setCell ⟨g, i * 8 + 4, none⟩ (.int .i64 y.gr)).setCell ⟨g, i * 8 + 5, none⟩ (.int .i64 y.ord)).setCell ⟨g, i * 8 + 6, none⟩ (.int .i64 y.st)) (OwnT (.slice (some ⟨g, 0, none⟩) q c) (K.set i { x with id := y.id, prod := y.prod, units := y.units, exp := y.exp, gr := y.gr, ord := y.ord, st := y.st, tag := y.tag }) :: R) := I6.setOwn (f := 6) .here encT_len (x := { x with id := y.id, prod := y.prod, units := y.units, exp := y.exp, gr := y.gr, ord := y.ord, tag := y.tag }) (x' := { x with id := y.id, prod := y.prod, units := y.units, exp := y.exp, gr := y.gr, ord := y.ord, st := y.st, tag := y.tag }) (hz _) (by decide) rfl (List.set_set ..)
  have I8 : St w0 ((((((((w.setCell ⟨g, i * 8, none⟩ (.int .i64 y.id)).setCell ⟨g, i * 8 + 1, none⟩ (.int .i64 y.prod)).setCell ⟨g, i * 8 + 2, none⟩ (.int .i64 y.units)).setCell ⟨g, i * 8 + 3, none⟩ (.int .i64 y.exp)).setCell ⟨g, i * 8 + 4, none⟩ (.int .i64 y.gr)).setCell ⟨g, i * 8 + 5, none⟩ (.int .i64 y.ord)).setCell ⟨g, i * 8 + 6, none⟩ (.int .i64 y.st)).setCell ⟨g, i * 8 + 7, none⟩ (.slice y.A y.n y.c)) (OwnT (.slice (some ⟨g, 0, none⟩) q c) (K.set i y) :: R) := I7.setOwn (f := 7) .here encT_len (x := { x with id := y.id, prod := y.prod, units := y.units, exp := y.exp, gr := y.gr, ord := y.ord, st := y.st, tag := y.tag }) (x' := y) (hz _) (by decide) rfl (List.set_set ..)
  exact I8
theorem cells8 {w : World} {g i : Nat} {x : Lt} (h : ∀ (j : Nat) (u : Value), (encT x)[j]? = some u → w.cell? ⟨g, i * 8 + j, none⟩ = some u) : w.cell? ⟨g, i * 8, none⟩ = some (.int .i64 x.id) ∧ w.cell? ⟨g, i * 8 + 1, none⟩ = some (.int .i64 x.prod) ∧ w.cell? ⟨g, i * 8 + 2, none⟩ = some (.int .i64 x.units) ∧ w.cell? ⟨g, i * 8 + 3, none⟩ = some (.int .i64 x.exp) ∧ w.cell? ⟨g, i * 8 + 4, none⟩ = some (.int .i64 x.gr) ∧ w.cell? ⟨g, i * 8 + 5, none⟩ = some (.int .i64 x.ord) ∧ w.cell? ⟨g, i * 8 + 6, none⟩ = some (.int .i64 x.st) ∧ w.cell? ⟨g, i * 8 + 7, none⟩ = some (.slice x.A x.n x.c) :=
  ⟨h 0 _ rfl, h 1 _ rfl, h 2 _ rfl, h 3 _ rfl, h 4 _ rfl, h 5 _ rfl, h 6 _ rfl, h 7 _ rfl⟩
set_option maxRecDepth 100000 in
set_option maxHeartbeats 4000000 in
theorem swap_range (a b n : Nat) (g c : Nat) (q : Nat) (l : List Lt) (hab : a + n ≤ b) (hb : b + n ≤ q) (w0 w : World) (L R : List Asr) (I : St w0 w L) (hA : At (OwnT (.slice (some ⟨g, 0, none⟩) q c) l) L R) (hq : l.length = q) :
    Calls Try.prog 136 #[.slice (some ⟨g, 0, none⟩) q c, .int .i64 a, .int .i64 b, .int .i64 n, sortF] w fun e w' => e = .returned (.tuple #[]) ∧ St w0 w' (OwnT (.slice (some ⟨g, 0, none⟩) q c) (Srt.swr l a b n) :: R) := by
  replace I := I.take hA
  clear hA
  obtain ⟨A', c', e, hnc, hcm, -⟩ := (I.own .here).reads encT_len
  unfold maxLen at hcm
  injection e with e1 e2 e3
  subst e1 e3
  clear e2
  go_enter Try.func136, Try.ntmps136
  try dsimp only [List.append]
  go_wp2_with fail
  go_loopw [10] (fun i wr => ∃ (k : Nat) (K : List Lt), i = .int .i64 k ∧ k ≤ n ∧ Hid (K.length = q ∧ Srt.swr K (a + k) (b + k) (n - k) = Srt.swr l a b n) ∧ St w0 wr (OwnT (.slice (some ⟨g, 0, none⟩) q c) K :: R)) (fun i _ => n - (intOf i).toNat)
  case atStart => exact ⟨0, l, rfl, by omega, Lib.hid ⟨hq, rfl⟩, I⟩
  case round =>
    clear I
    obtain ⟨k, K, rfl, hk, HK, I⟩ := hrel
    rename World => wr
    by_cases hlt : k < n
    · have hlt2 : (k : Int) < (n : Int) := by omega
      obtain ⟨i, hi⟩ : ∃ i, a + k = i := ⟨_, rfl⟩
      obtain ⟨j, hj⟩ : ∃ j, b + k = j := ⟨_, rfl⟩
      have hwi : IntKind.i64.wrap ((a : Int) + (k : Int)) = (i : Int) := by rw [IntKind.wrap_i64]; omega
      have hwj : IntKind.i64.wrap ((b : Int) + (k : Int)) = (j : Int) := by rw [IntKind.wrap_i64]; omega
      have hij : i < j := by omega
      have hjq : j < q := by omega
      have hi2 : (i : Int) < (q : Int) := by omega
      have hj2 : (j : Int) < (q : Int) := by omega
      have HIJ := Lib.hid (And.intro hi hj)
      have hnc2 : n ≤ c := by omega
      have HB := Lib.hid (And.intro hab hb)
      clear hi hj hab hb
      have hil : i < K.length := by rw [HK.out.1]; omega
      have hjl : j < K.length := by rw [HK.out.1]; omega
      have x0 := (I.own (v := .slice (some ⟨g, 0, none⟩) q c) (l := K) .here).cell encT_len i hil
      have y0 := (I.own (v := .slice (some ⟨g, 0, none⟩) q c) (l := K) .here).cell encT_len j hjl
      have z0 := (I.own (v := .slice (some ⟨g, 0, none⟩) q c) (l := K) .here).frozen
      go_upto_region 3 with fail
      have HK2 : Hid (((K.set i K[j]).set j K[i]).length = q ∧ Srt.swr ((K.set i K[j]).set j K[i]) (a + (k + 1)) (b + (k + 1)) (n - (k + 1)) = Srt.swr l a b n) := Lib.hid ⟨by rw [List.length_set, List.length_set]; exact HK.out.1, by
        rw [← HK.out.2, show n - k = (n - (k + 1)) + 1 by omega, Srt.swr, HIJ.out.1, HIJ.out.2, Srt.swp_eq hil hjl, show a + (k + 1) = i + 1 by have := HIJ.out.1; omega, show b + (k + 1) = j + 1 by have := HIJ.out.2; omega]⟩
      generalize K[i] = x at x0 HK2
      generalize K[j] = y at y0 HK2
      obtain ⟨x0, x1, x2, x3, x4, x5, x6, x7⟩ := cells8 x0
      obtain ⟨y0, y1, y2, y3, y4, y5, y6, y7⟩ := cells8 y0
      go_region
      have I2 := (set8 (set8 I hil y) (i := j) (by rw [List.length_set]; exact hjl) x).drew
      clear x0 x1 x2 x3 x4 x5 x6 x7 y0 y1 y2 y3 y4 y5 y6 y7 z0 I
      go_wp2_with fail
      go_roundw
      case rel => exact ⟨k + 1, _, by go_num, by omega, HK2, I2⟩
      case measure => simp [intOf]; omega
    · obtain rfl : k = n := by omega
      have hlt2 : ¬ (k : Int) < (k : Int) := by omega
      have HK2 : Hid (K = Srt.swr l a b k) := Lib.hid (by have := HK.out.2; rw [Nat.sub_self] at this; exact this)
      go_wp2_with fail
      exact end_0 rfl rfl ⟨rfl, by rw [← HK2.out]; exact I⟩
end Go.Proofs.Ytggeloihnbjogaa
