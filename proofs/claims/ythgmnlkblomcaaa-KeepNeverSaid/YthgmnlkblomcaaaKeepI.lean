/- Stays, and lots: are two one? Layer 14: its live question. -/
import Derived.Test.YthgmnlkblomcaaaKeepH
import Derived.Laws.StructEq
namespace Go.Proofs.Ythgmnlkblomcaaa
open Go.RowKit Go.Hf

abbrev aggS (x : Stay) : Value := .agg #[.int .i64 x.zone, .int .i64 x.frm, .int .i64 x.to_]
theorem eq_stay (x y : Stay) (wx : World) : (Op.equalIn 10000 146 (aggS x) (aggS y)).run Try.prog wx = .ok (decide (x = y)) wx := by
  have hu := Try.underlying146
  have h3 := Try.underlying3
  go_simp
  clear hu h3
  rcases x with ⟨a, b, c⟩
  rcases y with ⟨a', b', c'⟩
  (repeat' split) <;> simp_all
theorem atS {w : World} {A : Option Addr} {l : List Stay} (h : SlA 3 (flat encS) w A l) (i : Nat) (hi : i < l.length) : ∃ b o, A = some ⟨b, o, none⟩ ∧ w.cell? ⟨b, o + i * 3, none⟩ = some (.int .i64 l[i].zone) ∧ w.cell? ⟨b, o + i * 3 + 1, none⟩ = some (.int .i64 l[i].frm) ∧ w.cell? ⟨b, o + i * 3 + 2, none⟩ = some (.int .i64 l[i].to_) := by
  obtain ⟨b, o, rfl, cs, _, rfl, h3⟩ := h.at_ i hi
  exact ⟨b, o, rfl, by simpa using h3 0 _ rfl, by simpa using h3 1 _ rfl, by simpa using h3 2 _ rfl⟩

set_option maxRecDepth 100000 in
set_option maxHeartbeats 1000000 in
theorem ref09_Same (v1 v2 : Value) (l1 l2 : List Stay) (w : World) (h1 : Stays w v1 l1) (h2 : Stays w v2 l2) :
    Calls Try.prog 121 #[v1, v2] w fun e w' => e = .returned (.bool (l1 == l2)) ∧ Dr w w' := by
  have hm := h1.len_le
  have hm2 := h2.len_le
  unfold maxLen at hm hm2
  obtain ⟨A1, _, c1, rfl, rfl, _, _, _, hs1⟩ := h1
  obtain ⟨A2, _, c2, rfl, rfl, _, _, _, hs2⟩ := h2
  have H1 := Lib.hid hs1
  have H2 := Lib.hid hs2
  clear hs1 hs2
  by_cases hlen : l1.length = l2.length
  · have HL := Lib.hid hlen
    have hd : ((l1.length : Int) != (l2.length : Int)) = false := by simp [hlen]
    have hlt2 : ∀ k, k < l1.length → k < l2.length := fun k h => by omega
    have HT := Lib.hid hlt2
    clear hlen hlt2
    go_enter Try.func121, Try.ntmps121
    go_wp2_with fail
    go_loopw [5] (fun i wr => ∃ k : Nat, i = .int .i64 k ∧ k ≤ l1.length ∧ Hid (l1.take k = l2.take k) ∧ Dr w wr) (fun i _ => l1.length - (intOf i).toNat)
    case atStart => exact ⟨0, rfl, by omega, rfl, Dr.refl _⟩
    case round =>
      obtain ⟨k, rfl, hk, ht, hf⟩ := hrel
      by_cases hlt : k < l1.length
      · have hlt2 := HT.out k hlt
        obtain ⟨b1, o1, rfl, hc0, hc1, hc2⟩ := atS (H1.out.fr (flat_stays _) hf.fr) k hlt
        obtain ⟨b2, o2, rfl, hd0, hd1, hd2⟩ := atS (H2.out.fr (flat_stays _) hf.fr) k hlt2
        have HS := Lib.hid (fun h => take_eq_step l1 l2 k hlt hlt2 ht.out h)
        have HN := Lib.hid (fun h => beq_false_of_get l1 l2 k hlt hlt2 h)
        generalize l1[k] = x at *
        generalize l2[k] = y at *
        have hi1 : (k : Int) < (l1.length : Int) := by omega
        have hi2 : (k : Int) < (l2.length : Int) := by omega
        have he := eq_stay x y
        by_cases hxy : x = y
        · rw [decide_eq_true hxy] at he
          have HE := Lib.hid (HS.out hxy)
          clear hxy
          go_wp2_with fail
          go_quiet (fail)
          go_wp2_with fail
          go_roundw
          case rel => exact ⟨k + 1, by go_num, by omega, HE, hf.drewN _⟩
          case measure => simp [intOf]; omega
        · rw [decide_eq_false hxy] at he
          have HE := Lib.hid (HN.out hxy)
          clear hxy
          go_wp2_with fail
          go_quiet (fail)
          go_wp2_with fail
          go_ret
          exact ⟨by rw [HE.out]; rfl, hf.drewN _⟩
      · obtain rfl : k = l1.length := by omega
        have HE := Lib.hid (beq_of_take l1 l2 HL.out ht.out)
        go_wp2_with fail
        go_ret
        exact ⟨by rw [HE.out]; rfl, hf⟩
  · have hd : ((l1.length : Int) != (l2.length : Int)) = true := by simp; omega
    have HE := Lib.hid (beq_false_of_len l1 l2 hlen)
    clear hlen
    go_enter Try.func121, Try.ntmps121
    go_wp2_with fail
    go_ret
    exact ⟨by rw [HE.out]; rfl, Dr.refl _⟩
set_option maxRecDepth 100000 in
theorem ref12_Alike (d : Lot) (A A2 : Option Addr) (n n2 c c2 : Nat) (ss : List Stay) (w : World) (h1 : Stays w (.slice A n c) ss) (h2 : Stays w (.slice A2 n2 c2) ss) :
    Calls Try.prog 112 #[aggL d A n c, aggL d A2 n2 c2] w fun e w' => e = .returned (.bool true) ∧ Fr w w' := by
  have H1 := Lib.hid h1
  have H2 := Lib.hid h2
  clear h1 h2
  have I := St.refl w
  go_enter Try.func112, Try.ntmps112
  go_wp2_with (first | (first | ((with_reducible refine gguard ?_); first | refine w_want (by rfl) ?_ | ((first | refine w_guardT (by rfl) (fun hb => ?_) (fun hb => ?_) | refine w_guardF (by rfl) (fun hb => ?_) (fun hb => ?_)) <;> (try rw [hb]) <;> (try simp only [decide_eq_true_eq, decide_eq_false_iff_not, Bool.and_eq_true, Bool.or_eq_true, Bool.and_eq_false_iff, Bool.or_eq_false_iff, beq_iff_eq, bne_iff_ne, beq_eq_false_iff_ne, bne_eq_false_iff_eq, Bool.not_eq_true, Bool.not_eq_false] at hb) <;> go_prune <;> (try (with_reducible replace hb := eqPair hb)))) | (((with_reducible refine gbox ?_); first | refine w_boxA I (by rfl) ?_ | refine w_box1 I (by (conv => lhs; whnf) <;> rfl) (by rfl) ?_); clear I; intro g w I) | ((with_reducible refine galloc ?_); refine w_alloc I ?_; clear I; intro g w I) | ((with_reducible refine gload ?_); first | refine w_loadB I (by rfl) (by first | (with_reducible repeat (first | exact .here | apply At.there)); done | repeat (first | exact .here | apply At.there)) (by rfl) ?_ | refine w_loadBR I (by rfl) (by first | (with_reducible repeat (first | exact .here | apply At.there)); done | repeat (first | exact .here | apply At.there)) (by rfl) ?_ | refine w_load0 I (by rfl) (by assumption) ?_) | ((with_reducible refine gstore ?_); (first | refine w_storeB I (by rfl) (by (conv => lhs; whnf) <;> rfl) (by first | (with_reducible repeat (first | exact .here | apply Upd.there)); done | repeat (first | exact .here | apply Upd.there)) (by rfl) (by rfl) (by simp only [List.set_cons_zero, List.set_cons_succ] <;> rfl) ?_ | refine w_storeBR I (by rfl) (by rfl) (by first | (with_reducible repeat (first | exact .here | apply Upd.there)); done | repeat (first | exact .here | apply Upd.there)) (by rfl) (by rfl) (by rfl) ?_); clear I; intro w I)) | (go_at_call 121; go_must (refine (ref09_Same _ _ ss ss _ (H1.out.frF I.fr) (H2.out.frF I.fr)).mono ?_; rintro _ w1 ⟨rfl, hf⟩; simp only [beq_self_eq_true]; replace I := I.still hf.fr; clear hf)))
  go_ret
  exact ⟨rfl, I.fr⟩
set_option maxRecDepth 100000 in
theorem ref12_One (d : Lot) (A A2 : Option Addr) (n n2 c c2 : Nat) (ss : List Stay) (w : World) (h1 : Stays w (.slice A n c) ss) (h2 : Stays w (.slice A2 n2 c2) ss) :
    Calls Try.prog 58 #[aggL d A n c, aggL d A2 n2 c2] w fun e w' => e = .returned (.bool true) ∧ Fr w w' := by
  have H1 := Lib.hid h1
  have H2 := Lib.hid h2
  clear h1 h2
  have I := St.refl w
  go_enter Try.func58, Try.ntmps58
  go_wp2_with (first | (first | ((with_reducible refine gguard ?_); first | refine w_want (by rfl) ?_ | ((first | refine w_guardT (by rfl) (fun hb => ?_) (fun hb => ?_) | refine w_guardF (by rfl) (fun hb => ?_) (fun hb => ?_)) <;> (try rw [hb]) <;> (try simp only [decide_eq_true_eq, decide_eq_false_iff_not, Bool.and_eq_true, Bool.or_eq_true, Bool.and_eq_false_iff, Bool.or_eq_false_iff, beq_iff_eq, bne_iff_ne, beq_eq_false_iff_ne, bne_eq_false_iff_eq, Bool.not_eq_true, Bool.not_eq_false] at hb) <;> go_prune <;> (try (with_reducible replace hb := eqPair hb)))) | (((with_reducible refine gbox ?_); first | refine w_boxA I (by rfl) ?_ | refine w_box1 I (by (conv => lhs; whnf) <;> rfl) (by rfl) ?_); clear I; intro g w I) | ((with_reducible refine galloc ?_); refine w_alloc I ?_; clear I; intro g w I) | ((with_reducible refine gload ?_); first | refine w_loadB I (by rfl) (by first | (with_reducible repeat (first | exact .here | apply At.there)); done | repeat (first | exact .here | apply At.there)) (by rfl) ?_ | refine w_loadBR I (by rfl) (by first | (with_reducible repeat (first | exact .here | apply At.there)); done | repeat (first | exact .here | apply At.there)) (by rfl) ?_ | refine w_load0 I (by rfl) (by assumption) ?_) | ((with_reducible refine gstore ?_); (first | refine w_storeB I (by rfl) (by (conv => lhs; whnf) <;> rfl) (by first | (with_reducible repeat (first | exact .here | apply Upd.there)); done | repeat (first | exact .here | apply Upd.there)) (by rfl) (by rfl) (by simp only [List.set_cons_zero, List.set_cons_succ] <;> rfl) ?_ | refine w_storeBR I (by rfl) (by rfl) (by first | (with_reducible repeat (first | exact .here | apply Upd.there)); done | repeat (first | exact .here | apply Upd.there)) (by rfl) (by rfl) (by rfl) ?_); clear I; intro w I)) | (go_at_call 112; go_must (refine (ref12_Alike d _ _ _ _ _ _ ss _ (H1.out.frF I.fr) (H2.out.frF I.fr)).mono ?_; rintro _ w1 ⟨rfl, hf⟩; replace I := I.still hf; clear hf)))
  go_ret
  exact ⟨rfl, I.fr⟩
end Go.Proofs.Ythgmnlkblomcaaa
