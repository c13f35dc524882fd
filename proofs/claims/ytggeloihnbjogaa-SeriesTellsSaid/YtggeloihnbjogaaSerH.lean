
/- Readings (layer 6): the reference's All. -/
import Derived.Test.YtggeloihnbjogaaSerZ
import Derived.Test.YtggeloihnbjogaaStN
namespace Go.Proofs.Ytggeloihnbjogaa
open Go.RowKit Go.Hf
namespace Ser
def slLen : Value → Nat
  | .slice _ n _ => n
  | _ => 0
def Cand (s : List Rd) (k : Nat) (y : Rd) : Prop := 0 < k → ∀ p, s[k - 1]? = some p → lt p y
def Best (l s : List Rd) (k j : Nat) : Option Nat → Prop
  | none => ∀ i (h : i < l.length), i < j → ¬ Cand s k l[i]
  | some b => ∃ hb : b < l.length, b < j ∧ Cand s k l[b] ∧ ∀ i (h : i < l.length), i < j → Cand s k l[i] → ¬ lt l[i] l[b]
def bi : Option Nat → Int
  | none => -1
  | some b => b
variable {l s : List Rd} {k j : Nat}
theorem best_skip {β : Option Nat} (hj : j < l.length) (h : Best l s k j β) (hn : ¬ Cand s k l[j]) : Best l s k (j + 1) β := by
  cases β with
  | none =>
    intro i hi hij
    by_cases e : i = j
    · subst e; exact hn
    · exact h i hi (by omega)
  | some b =>
    obtain ⟨h1, h2, h3, h4⟩ := h
    refine ⟨h1, by omega, h3, fun i hi hij hc => ?_⟩
    by_cases e : i = j
    · subst e; exact absurd hc hn
    · exact h4 i hi (by omega) hc
theorem best_first (hj : j < l.length) (h : Best l s k j none) (hc : Cand s k l[j]) : Best l s k (j + 1) (some j) := by
  refine ⟨hj, by omega, hc, fun i hi hij hci => ?_⟩
  by_cases e : i = j
  · subst e; exact lt_irrefl _
  · exact absurd hci (h i hi (by omega))
theorem best_less {b : Nat} (hj : j < l.length) (h : Best l s k j (some b)) (hc : Cand s k l[j]) (hl : lt l[j] (l[b]'h.1)) : Best l s k (j + 1) (some j) := by
  obtain ⟨h1, h2, h3, h4⟩ := h
  refine ⟨hj, by omega, hc, fun i hi hij hci => ?_⟩
  by_cases e : i = j
  · subst e; exact lt_irrefl _
  · exact fun e2 => h4 i hi (by omega) hci (lt_trans e2 hl)
theorem best_keep {b : Nat} (hj : j < l.length) (h : Best l s k j (some b)) (hl : ¬ lt l[j] (l[b]'h.1)) : Best l s k (j + 1) (some b) := by
  obtain ⟨h1, h2, h3, h4⟩ := h
  refine ⟨h1, by omega, h3, fun i hi hij hci => ?_⟩
  by_cases e : i = j
  · subst e; exact hl
  · exact h4 i hi (by omega) hci
theorem best_end {β : Option Nat} (hs : Sorted s) (hm : ∀ x, x ∈ l ↔ x ∈ s) (hk : k < s.length) (h : Best l s k l.length β) : ∃ b, β = some b ∧ ∃ hb : b < l.length, l[b] = s[k] := by
  have hcand : ∀ y, Cand s k y ↔ ∀ h : 0 < k, lt (s[k - 1]'(by omega)) y := fun y => by
    unfold Cand
    constructor
    · intro h1 h2; exact h1 h2 _ (List.getElem?_eq_getElem _)
    · intro h1 h2 p hp
      rw [List.getElem?_eq_getElem (by omega)] at hp
      injection hp with hp
      rw [← hp]; exact h1 h2
  obtain ⟨i, hi, hik⟩ := List.mem_iff_getElem.1 ((hm s[k]).2 (List.getElem_mem hk))
  cases β with
  | none =>
    exfalso
    refine h i hi hi ((hcand _).2 fun h0 => ?_)
    rw [hik]
    exact sorted_get hs (by omega) hk
  | some b =>
    obtain ⟨h1, h2, h3, h4⟩ := h
    refine ⟨b, rfl, h1, all_ref hs hm k hk _ (List.getElem_mem h1) ((hcand _).1 h3) fun y hy hc => ?_⟩
    obtain ⟨i, hi, rfl⟩ := List.mem_iff_getElem.1 hy
    exact h4 i hi hi ((hcand _).2 hc)
end Ser
set_option maxRecDepth 100000 in
set_option maxHeartbeats 8000000 in
theorem ref06_All (gr : Nat) (a b : Int) (l s : List Rd) (hsr : Ser.Sorted s) (hmem : ∀ x, x ∈ l ↔ x ∈ s) (hlen : l.length = s.length) (hl : l.length ≤ 10000) (w0 : World) (hs : SerIs w0 gr a b l) :
    Calls Try.prog 19 #[.pointer (some ⟨gr, 0, none⟩)] w0 fun e w' => ∃ v', e = .returned v' ∧ St w0 w' [OwnS 36 3 encR v' s] := by
  obtain ⟨A, c, h0, h1, h2, hv⟩ := hs
  have HSR := Lib.hid hsr
  have HMEM := Lib.hid hmem
  have HLEN := Lib.hid hlen
  obtain ⟨A', _, c', e1, -, -, -, -, hsl⟩ := hv
  injection e1 with e1 e2 e3
  subst e1
  clear e2 e3 hsr hmem hlen h0 h1
  have HS := Lib.hid hsl
  clear hsl
  have I := (St.refl w0).nilOwn 36 3 encR
  go_enter Try.func19, Try.ntmps19
  try dsimp only [List.append]
  go_upto_region 2 with fail
  go_loopw [3] (fun o wr => ∃ (n : Nat) (out : List Rd) (A2 : Option Addr) (c2 : Nat), o = .slice A2 n c2 ∧ n ≤ s.length ∧ Hid (out.length = n ∧ out = s.take n) ∧ St w0 wr [OwnS 36 3 encR (.slice A2 n c2) out]) (fun o _ => s.length - Ser.slLen o)
  case atStart => exact ⟨0, [], none, 0, rfl, by omega, Lib.hid ⟨rfl, rfl⟩, I⟩
  case round =>
    clear I
    obtain ⟨n, out, A2, c2, rfl, hn, HO, I⟩ := hrel
    rename World => wr
    by_cases hlt : n < s.length
    · have hlt2 : (n : Int) < (l.length : Int) := by have := HLEN.out; omega
      go_upto_region 5 with (first | ((with_reducible refine gguard ?_); (first | refine w_guardT (by rfl) (fun hb => ?_) (fun hb => ?_) | refine w_guardF (by rfl) (fun hb => ?_) (fun hb => ?_)) <;> first | (cases hb; done) | cases hb | ((try rw [hb]) <;> (try simp at hb) <;> go_prune <;> (try (with_reducible replace hb := eqPair hb)))) | (((with_reducible refine gbox ?_); first | refine w_boxA I (by rfl) ?_ | refine w_box1 I (by (conv => lhs; whnf) <;> rfl) (by rfl) ?_); clear I; intro g w I) | ((with_reducible refine galloc ?_); refine w_alloc I ?_; clear I; intro g w I) | ((with_reducible refine gload ?_); first | refine w_loadB I (by rfl) (by first | (with_reducible repeat (first | exact .here | apply At.there)); done | repeat (first | exact .here | apply At.there)) (by rfl) ?_ | refine w_loadBR I (by rfl) (by first | (with_reducible repeat (first | exact .here | apply At.there)); done | repeat (first | exact .here | apply At.there)) (by rfl) ?_ | refine w_load0 I (by rfl) (by assumption) ?_) | ((with_reducible refine gstore ?_); (first | refine w_storeB I (by rfl) (by (conv => lhs; whnf) <;> rfl) (by first | (with_reducible repeat (first | exact .here | apply Upd.there)); done | repeat (first | exact .here | apply Upd.there)) (by rfl) (by rfl) (by simp only [List.set_cons_zero, List.set_cons_succ] <;> rfl) ?_ | refine w_storeBR I (by rfl) (by rfl) (by first | (with_reducible repeat (first | exact .here | apply Upd.there)); done | repeat (first | exact .here | apply Upd.there)) (by rfl) (by rfl) (by rfl) ?_); clear I; intro w I))
      go_loopw [4, 5] (fun z i wi => ∃ (j : Nat) (β : Option Nat), i = .int .i64 j ∧ j ≤ l.length ∧ z = .int .i64 (Ser.bi β) ∧ Hid (Ser.Best l s n j β) ∧ St w0 wi [OwnS 36 3 encR (.slice A2 n c2) out]) (fun _ i _ => l.length - (intOf i).toNat)
      case atStart => exact ⟨0, none, rfl, by omega, rfl, Lib.hid (fun i _ h => by omega), I⟩
      case round =>
        clear I
        obtain ⟨j, β, rfl, hjl, rfl, HB, I⟩ := hrel
        by_cases hj : j < l.length
        · obtain ⟨ab, ao, rfl, hc0, hc1, hc2⟩ := atR HS.out j hj
          have hj2 : (j : Int) < (l.length : Int) := by omega
          obtain ⟨x, hx⟩ : ∃ x, l[j] = x := ⟨_, rfl⟩
          have HX := Lib.hid hx
          rw [hx] at hc0 hc1 hc2
          clear hx
          by_cases hz : n = 0
          · have d0 : decide ((0 : Int) < (n : Int)) = false := decide_eq_false (by omega)
            have hz2 : ¬ 0 < n := by omega
            have hz3 : ¬ (0 : Int) < (n : Int) := by omega
            have HCx : Hid (Ser.Cand s n x) := Lib.hid (fun h => by omega)
            clear hz
            cases β with
            | none =>
              dsimp only [Ser.bi]
              have HB2 : Hid (Ser.Best l s n (j + 1) (some j)) := Lib.hid (Ser.best_first hj HB.out (by rw [HX.out]; exact HCx.out))
              have HA12 := Lib.hid (fun w => ref06_ahead x x w)
              rw [show Ser.ahead x x = false from by
                cases hz : Ser.ahead x x with
                | false => rfl
                | true => exact absurd ((Ser.ahead_iff x x).1 hz) (Ser.lt_irrefl _)] at HA12
              go_upto_region 12 with (first | ((with_reducible refine gguard ?_); (first | refine w_guardT (by rfl) (fun hb => ?_) (fun hb => ?_) | refine w_guardF (by rfl) (fun hb => ?_) (fun hb => ?_)) <;> first | (cases hb; done) | cases hb | ((try rw [hb]) <;> (try simp at hb) <;> go_prune <;> (try (with_reducible replace hb := eqPair hb)))) | (((with_reducible refine gbox ?_); first | refine w_boxA I (by rfl) ?_ | refine w_box1 I (by (conv => lhs; whnf) <;> rfl) (by rfl) ?_); clear I; intro g w I) | ((with_reducible refine galloc ?_); refine w_alloc I ?_; clear I; intro g w I) | ((with_reducible refine gload ?_); first | refine w_loadB I (by rfl) (by first | (with_reducible repeat (first | exact .here | apply At.there)); done | repeat (first | exact .here | apply At.there)) (by rfl) ?_ | refine w_loadBR I (by rfl) (by first | (with_reducible repeat (first | exact .here | apply At.there)); done | repeat (first | exact .here | apply At.there)) (by rfl) ?_ | refine w_load0 I (by rfl) (by assumption) ?_) | ((with_reducible refine gstore ?_); (first | refine w_storeB I (by rfl) (by (conv => lhs; whnf) <;> rfl) (by first | (with_reducible repeat (first | exact .here | apply Upd.there)); done | repeat (first | exact .here | apply Upd.there)) (by rfl) (by rfl) (by simp only [List.set_cons_zero, List.set_cons_succ] <;> rfl) ?_ | refine w_storeBR I (by rfl) (by rfl) (by first | (with_reducible repeat (first | exact .here | apply Upd.there)); done | repeat (first | exact .here | apply Upd.there)) (by rfl) (by rfl) (by rfl) ?_); clear I; intro w I))
              all_goals try omega
              rename World => w1
              have q2 := fun w' (hf : Fr w1 w') => (I.fr.trans hf).cell h2
              have q3 := fun w' (hf : Fr w1 w') => (I.fr.trans hf).cell hc0
              have q4 := fun w' (hf : Fr w1 w') => (I.fr.trans hf).cell hc1
              have q5 := fun w' (hf : Fr w1 w') => (I.fr.trans hf).cell hc2
              replace I := Lib.hid I
              go_region_held3 (fun w' => Fr w1 w') (first | assumption | exact (Fr.refl _).drew | exact Fr.trans (by assumption) (by assumption)) (first | (go_at_call 56; go_must (refine (HA12.out _).mono ?_; rintro _ w1 ⟨rfl, hf⟩)))
              replace I := I.out.still (by assumption)
              clear q2 q3 q4 q5
              go_wp2_with (first | ((with_reducible refine gguard ?_); (first | refine w_guardT (by rfl) (fun hb => ?_) (fun hb => ?_) | refine w_guardF (by rfl) (fun hb => ?_) (fun hb => ?_)) <;> first | (cases hb; done) | cases hb | ((try rw [hb]) <;> (try simp at hb) <;> go_prune <;> (try (with_reducible replace hb := eqPair hb)))) | (((with_reducible refine gbox ?_); first | refine w_boxA I (by rfl) ?_ | refine w_box1 I (by (conv => lhs; whnf) <;> rfl) (by rfl) ?_); clear I; intro g w I) | ((with_reducible refine galloc ?_); refine w_alloc I ?_; clear I; intro g w I) | ((with_reducible refine gload ?_); first | refine w_loadB I (by rfl) (by first | (with_reducible repeat (first | exact .here | apply At.there)); done | repeat (first | exact .here | apply At.there)) (by rfl) ?_ | refine w_loadBR I (by rfl) (by first | (with_reducible repeat (first | exact .here | apply At.there)); done | repeat (first | exact .here | apply At.there)) (by rfl) ?_ | refine w_load0 I (by rfl) (by assumption) ?_) | ((with_reducible refine gstore ?_); (first | refine w_storeB I (by rfl) (by (conv => lhs; whnf) <;> rfl) (by first | (with_reducible repeat (first | exact .here | apply Upd.there)); done | repeat (first | exact .here | apply Upd.there)) (by rfl) (by rfl) (by simp only [List.set_cons_zero, List.set_cons_succ] <;> rfl) ?_ | refine w_storeBR I (by rfl) (by rfl) (by first | (with_reducible repeat (first | exact .here | apply Upd.there)); done | repeat (first | exact .here | apply Upd.there)) (by rfl) (by rfl) (by rfl) ?_); clear I; intro w I))
              all_goals try omega
              go_roundw
              case rel => exact ⟨j + 1, some j, by go_num, by omega, rfl, HB2, I⟩
              case measure => simp [intOf]; omega
            | some jb =>
              dsimp only [Ser.bi]
              obtain ⟨hjb, HB3⟩ : ∃ hjb : jb < l.length, Hid (Ser.Best l s n j (some jb)) := ⟨HB.out.1, HB⟩
              have hjb2 : (jb : Int) < (l.length : Int) := by omega
              have d9 : decide ((jb : Int) < (0 : Int)) = false := decide_eq_false (by omega)
              obtain ⟨ab2, ao2, hab, hb0, hb1, hb2⟩ := atR HS.out jb hjb
              injection hab with hab
              injection hab with e1 e2 e3
              subst e1 e2
              clear e3
              obtain ⟨y, hy⟩ : ∃ y, l[jb] = y := ⟨_, rfl⟩
              have HY := Lib.hid hy
              rw [hy] at hb0 hb1 hb2
              clear hy
              cases hq : Ser.ahead x y with
              | true =>
                have HB2 : Hid (Ser.Best l s n (j + 1) (some j)) := Lib.hid (Ser.best_less hj HB3.out (by rw [HX.out]; exact HCx.out) (by rw [HX.out, HY.out]; exact (Ser.ahead_iff x y).1 hq))
                have HA12 := Lib.hid (fun w => ref06_ahead x y w)
                rw [hq] at HA12
                clear hq
                go_upto_region 12 with (first | ((with_reducible refine gguard ?_); (first | refine w_guardT (by rfl) (fun hb => ?_) (fun hb => ?_) | refine w_guardF (by rfl) (fun hb => ?_) (fun hb => ?_)) <;> first | (cases hb; done) | cases hb | ((try rw [hb]) <;> (try simp at hb) <;> go_prune <;> (try (with_reducible replace hb := eqPair hb)))) | (((with_reducible refine gbox ?_); first | refine w_boxA I (by rfl) ?_ | refine w_box1 I (by (conv => lhs; whnf) <;> rfl) (by rfl) ?_); clear I; intro g w I) | ((with_reducible refine galloc ?_); refine w_alloc I ?_; clear I; intro g w I) | ((with_reducible refine gload ?_); first | refine w_loadB I (by rfl) (by first | (with_reducible repeat (first | exact .here | apply At.there)); done | repeat (first | exact .here | apply At.there)) (by rfl) ?_ | refine w_loadBR I (by rfl) (by first | (with_reducible repeat (first | exact .here | apply At.there)); done | repeat (first | exact .here | apply At.there)) (by rfl) ?_ | refine w_load0 I (by rfl) (by assumption) ?_) | ((with_reducible refine gstore ?_); (first | refine w_storeB I (by rfl) (by (conv => lhs; whnf) <;> rfl) (by first | (with_reducible repeat (first | exact .here | apply Upd.there)); done | repeat (first | exact .here | apply Upd.there)) (by rfl) (by rfl) (by simp only [List.set_cons_zero, List.set_cons_succ] <;> rfl) ?_ | refine w_storeBR I (by rfl) (by rfl) (by first | (with_reducible repeat (first | exact .here | apply Upd.there)); done | repeat (first | exact .here | apply Upd.there)) (by rfl) (by rfl) (by rfl) ?_); clear I; intro w I))
                all_goals try omega
                rename World => w1
                have q2 := fun w' (hf : Fr w1 w') => (I.fr.trans hf).cell h2
                have q3 := fun w' (hf : Fr w1 w') => (I.fr.trans hf).cell hc0
                have q4 := fun w' (hf : Fr w1 w') => (I.fr.trans hf).cell hc1
                have q5 := fun w' (hf : Fr w1 w') => (I.fr.trans hf).cell hc2
                have q6 := fun w' (hf : Fr w1 w') => (I.fr.trans hf).cell hb0
                have q7 := fun w' (hf : Fr w1 w') => (I.fr.trans hf).cell hb1
                have q8 := fun w' (hf : Fr w1 w') => (I.fr.trans hf).cell hb2
                replace I := Lib.hid I
                go_region_held3 (fun w' => Fr w1 w') (first | assumption | exact (Fr.refl _).drew | exact Fr.trans (by assumption) (by assumption)) (first | (go_at_call 56; go_must (refine (HA12.out _).mono ?_; rintro _ w1 ⟨rfl, hf⟩)))
                replace I := I.out.still (by assumption)
                clear q2 q3 q4 q5 q6 q7 q8
                go_wp2_with (first | ((with_reducible refine gguard ?_); (first | refine w_guardT (by rfl) (fun hb => ?_) (fun hb => ?_) | refine w_guardF (by rfl) (fun hb => ?_) (fun hb => ?_)) <;> first | (cases hb; done) | cases hb | ((try rw [hb]) <;> (try simp at hb) <;> go_prune <;> (try (with_reducible replace hb := eqPair hb)))) | (((with_reducible refine gbox ?_); first | refine w_boxA I (by rfl) ?_ | refine w_box1 I (by (conv => lhs; whnf) <;> rfl) (by rfl) ?_); clear I; intro g w I) | ((with_reducible refine galloc ?_); refine w_alloc I ?_; clear I; intro g w I) | ((with_reducible refine gload ?_); first | refine w_loadB I (by rfl) (by first | (with_reducible repeat (first | exact .here | apply At.there)); done | repeat (first | exact .here | apply At.there)) (by rfl) ?_ | refine w_loadBR I (by rfl) (by first | (with_reducible repeat (first | exact .here | apply At.there)); done | repeat (first | exact .here | apply At.there)) (by rfl) ?_ | refine w_load0 I (by rfl) (by assumption) ?_) | ((with_reducible refine gstore ?_); (first | refine w_storeB I (by rfl) (by (conv => lhs; whnf) <;> rfl) (by first | (with_reducible repeat (first | exact .here | apply Upd.there)); done | repeat (first | exact .here | apply Upd.there)) (by rfl) (by rfl) (by simp only [List.set_cons_zero, List.set_cons_succ] <;> rfl) ?_ | refine w_storeBR I (by rfl) (by rfl) (by first | (with_reducible repeat (first | exact .here | apply Upd.there)); done | repeat (first | exact .here | apply Upd.there)) (by rfl) (by rfl) (by rfl) ?_); clear I; intro w I))
                all_goals try omega
                go_roundw
                case rel => exact ⟨j + 1, some j, by go_num, by omega, rfl, HB2, I⟩
                case measure => simp [intOf]; omega
              | false =>
                have HB2 : Hid (Ser.Best l s n (j + 1) (some jb)) := Lib.hid (Ser.best_keep hj HB3.out (by rw [HX.out, HY.out]; intro e; rw [(Ser.ahead_iff x y).2 e] at hq; cases hq))
                have HA12 := Lib.hid (fun w => ref06_ahead x y w)
                rw [hq] at HA12
                clear hq
                go_upto_region 12 with (first | ((with_reducible refine gguard ?_); (first | refine w_guardT (by rfl) (fun hb => ?_) (fun hb => ?_) | refine w_guardF (by rfl) (fun hb => ?_) (fun hb => ?_)) <;> first | (cases hb; done) | cases hb | ((try rw [hb]) <;> (try simp at hb) <;> go_prune <;> (try (with_reducible replace hb := eqPair hb)))) | (((with_reducible refine gbox ?_); first | refine w_boxA I (by rfl) ?_ | refine w_box1 I (by (conv => lhs; whnf) <;> rfl) (by rfl) ?_); clear I; intro g w I) | ((with_reducible refine galloc ?_); refine w_alloc I ?_; clear I; intro g w I) | ((with_reducible refine gload ?_); first | refine w_loadB I (by rfl) (by first | (with_reducible repeat (first | exact .here | apply At.there)); done | repeat (first | exact .here | apply At.there)) (by rfl) ?_ | refine w_loadBR I (by rfl) (by first | (with_reducible repeat (first | exact .here | apply At.there)); done | repeat (first | exact .here | apply At.there)) (by rfl) ?_ | refine w_load0 I (by rfl) (by assumption) ?_) | ((with_reducible refine gstore ?_); (first | refine w_storeB I (by rfl) (by (conv => lhs; whnf) <;> rfl) (by first | (with_reducible repeat (first | exact .here | apply Upd.there)); done | repeat (first | exact .here | apply Upd.there)) (by rfl) (by rfl) (by simp only [List.set_cons_zero, List.set_cons_succ] <;> rfl) ?_ | refine w_storeBR I (by rfl) (by rfl) (by first | (with_reducible repeat (first | exact .here | apply Upd.there)); done | repeat (first | exact .here | apply Upd.there)) (by rfl) (by rfl) (by rfl) ?_); clear I; intro w I))
                all_goals try omega
                rename World => w1
                have q2 := fun w' (hf : Fr w1 w') => (I.fr.trans hf).cell h2
                have q3 := fun w' (hf : Fr w1 w') => (I.fr.trans hf).cell hc0
                have q4 := fun w' (hf : Fr w1 w') => (I.fr.trans hf).cell hc1
                have q5 := fun w' (hf : Fr w1 w') => (I.fr.trans hf).cell hc2
                have q6 := fun w' (hf : Fr w1 w') => (I.fr.trans hf).cell hb0
                have q7 := fun w' (hf : Fr w1 w') => (I.fr.trans hf).cell hb1
                have q8 := fun w' (hf : Fr w1 w') => (I.fr.trans hf).cell hb2
                replace I := Lib.hid I
                go_region_held3 (fun w' => Fr w1 w') (first | assumption | exact (Fr.refl _).drew | exact Fr.trans (by assumption) (by assumption)) (first | (go_at_call 56; go_must (refine (HA12.out _).mono ?_; rintro _ w1 ⟨rfl, hf⟩)))
                replace I := I.out.still (by assumption)
                clear q2 q3 q4 q5 q6 q7 q8
                go_wp2_with (first | ((with_reducible refine gguard ?_); (first | refine w_guardT (by rfl) (fun hb => ?_) (fun hb => ?_) | refine w_guardF (by rfl) (fun hb => ?_) (fun hb => ?_)) <;> first | (cases hb; done) | cases hb | ((try rw [hb]) <;> (try simp at hb) <;> go_prune <;> (try (with_reducible replace hb := eqPair hb)))) | (((with_reducible refine gbox ?_); first | refine w_boxA I (by rfl) ?_ | refine w_box1 I (by (conv => lhs; whnf) <;> rfl) (by rfl) ?_); clear I; intro g w I) | ((with_reducible refine galloc ?_); refine w_alloc I ?_; clear I; intro g w I) | ((with_reducible refine gload ?_); first | refine w_loadB I (by rfl) (by first | (with_reducible repeat (first | exact .here | apply At.there)); done | repeat (first | exact .here | apply At.there)) (by rfl) ?_ | refine w_loadBR I (by rfl) (by first | (with_reducible repeat (first | exact .here | apply At.there)); done | repeat (first | exact .here | apply At.there)) (by rfl) ?_ | refine w_load0 I (by rfl) (by assumption) ?_) | ((with_reducible refine gstore ?_); (first | refine w_storeB I (by rfl) (by (conv => lhs; whnf) <;> rfl) (by first | (with_reducible repeat (first | exact .here | apply Upd.there)); done | repeat (first | exact .here | apply Upd.there)) (by rfl) (by rfl) (by simp only [List.set_cons_zero, List.set_cons_succ] <;> rfl) ?_ | refine w_storeBR I (by rfl) (by rfl) (by first | (with_reducible repeat (first | exact .here | apply Upd.there)); done | repeat (first | exact .here | apply Upd.there)) (by rfl) (by rfl) (by rfl) ?_); clear I; intro w I))
                all_goals try omega
                go_roundw
                case rel => exact ⟨j + 1, some jb, by go_num, by omega, rfl, HB2, I⟩
                case measure => simp [intOf]; omega
          · have d0 : decide ((0 : Int) < (n : Int)) = true := decide_eq_true (by omega)
            have hz2 : 0 < n := by omega
            have hz3 : (0 : Int) < (n : Int) := by omega
            obtain ⟨k, hk⟩ : ∃ k, n = k + 1 := ⟨n - 1, by omega⟩
            have hki : IntKind.i64.wrap ((n : Int) - 1) = (k : Int) := by rw [IntKind.wrap_i64]; omega
            have hkn : (k : Int) < (n : Int) := by omega
            have hkn2 : k < n := by omega
            have HK := Lib.hid hk
            clear hk
            obtain ⟨gv, c9, hab, -, -, -⟩ := (I.own (v := .slice A2 n c2) (l := out) .here).base_of (by intro e; have := HO.out.1; rw [e] at this; simp at this; omega)
            injection hab with e1 e2 e3
            subst e1 e3
            clear e2
            obtain ⟨p, hp⟩ : ∃ p, out[k]'(by rw [HO.out.1]; omega) = p := ⟨_, rfl⟩
            have HP := Lib.hid hp
            have HPs : Hid (s[n - 1]? = some p) := Lib.hid (by
              have h1 : out[k]? = some p := by rw [List.getElem?_eq_getElem (by rw [HO.out.1]; omega), HP.out]
              rw [HO.out.2, List.getElem?_take] at h1
              rw [if_pos hkn2] at h1
              rw [HK.out, Nat.add_sub_cancel]; exact h1)
            clear hp
            have HA8 := Lib.hid (fun w => ref06_ahead p x w)
            cases hq : Ser.ahead p x with
            | false =>
              rw [hq] at HA8
              have HB2 : Hid (Ser.Best l s n (j + 1) β) := Lib.hid (Ser.best_skip hj HB.out (by
                rw [HX.out]; intro e
                rw [(Ser.ahead_iff p x).2 (e (by omega) p HPs.out)] at hq; cases hq))
              clear hq
              go_upto_region 8 with (first | ((with_reducible refine gguard ?_); (first | refine w_guardT (by rfl) (fun hb => ?_) (fun hb => ?_) | refine w_guardF (by rfl) (fun hb => ?_) (fun hb => ?_)) <;> first | (cases hb; done) | cases hb | ((try rw [hb]) <;> (try simp at hb) <;> go_prune <;> (try (with_reducible replace hb := eqPair hb)))) | (((with_reducible refine gbox ?_); first | refine w_boxA I (by rfl) ?_ | refine w_box1 I (by (conv => lhs; whnf) <;> rfl) (by rfl) ?_); clear I; intro g w I) | ((with_reducible refine galloc ?_); refine w_alloc I ?_; clear I; intro g w I) | ((with_reducible refine gload ?_); first | refine w_loadB I (by rfl) (by first | (with_reducible repeat (first | exact .here | apply At.there)); done | repeat (first | exact .here | apply At.there)) (by rfl) ?_ | refine w_loadBR I (by rfl) (by first | (with_reducible repeat (first | exact .here | apply At.there)); done | repeat (first | exact .here | apply At.there)) (by rfl) ?_ | refine w_load0 I (by rfl) (by assumption) ?_) | ((with_reducible refine gstore ?_); (first | refine w_storeB I (by rfl) (by (conv => lhs; whnf) <;> rfl) (by first | (with_reducible repeat (first | exact .here | apply Upd.there)); done | repeat (first | exact .here | apply Upd.there)) (by rfl) (by rfl) (by simp only [List.set_cons_zero, List.set_cons_succ] <;> rfl) ?_ | refine w_storeBR I (by rfl) (by rfl) (by first | (with_reducible repeat (first | exact .here | apply Upd.there)); done | repeat (first | exact .here | apply Upd.there)) (by rfl) (by rfl) (by rfl) ?_); clear I; intro w I))
              all_goals try omega
              rename World => w1
              have p0 := fun w' (hf : Fr w1 w') => by have hx := ((I.still hf).own (v := .slice (some ⟨gv, 0, none⟩) n c2) (l := out) .here).cell encR_len k (by rw [HO.out.1]; omega) 0 _ rfl; rw [Nat.add_zero] at hx; rw [HP.out] at hx; exact hx
              have p1 := fun w' (hf : Fr w1 w') => by have hx := ((I.still hf).own (v := .slice (some ⟨gv, 0, none⟩) n c2) (l := out) .here).cell encR_len k (by rw [HO.out.1]; omega) 1 _ rfl; rw [HP.out] at hx; exact hx
              have p2 := fun w' (hf : Fr w1 w') => by have hx := ((I.still hf).own (v := .slice (some ⟨gv, 0, none⟩) n c2) (l := out) .here).cell encR_len k (by rw [HO.out.1]; omega) 2 _ rfl; rw [HP.out] at hx; exact hx
              have q2 := fun w' (hf : Fr w1 w') => (I.fr.trans hf).cell h2
              have q3 := fun w' (hf : Fr w1 w') => (I.fr.trans hf).cell hc0
              have q4 := fun w' (hf : Fr w1 w') => (I.fr.trans hf).cell hc1
              have q5 := fun w' (hf : Fr w1 w') => (I.fr.trans hf).cell hc2
              replace I := Lib.hid I
              go_region_held3 (fun w' => Fr w1 w') (first | assumption | exact (Fr.refl _).drew | exact Fr.trans (by assumption) (by assumption)) (first | (go_at_call 56; go_must (refine (HA8.out _).mono ?_; rintro _ w1 ⟨rfl, hf⟩)))
              replace I := I.out.still (by assumption)
              clear p0 p1 p2 q2 q3 q4 q5
              go_wp2_with (first | ((with_reducible refine gguard ?_); (first | refine w_guardT (by rfl) (fun hb => ?_) (fun hb => ?_) | refine w_guardF (by rfl) (fun hb => ?_) (fun hb => ?_)) <;> first | (cases hb; done) | cases hb | ((try rw [hb]) <;> (try simp at hb) <;> go_prune <;> (try (with_reducible replace hb := eqPair hb)))) | (((with_reducible refine gbox ?_); first | refine w_boxA I (by rfl) ?_ | refine w_box1 I (by (conv => lhs; whnf) <;> rfl) (by rfl) ?_); clear I; intro g w I) | ((with_reducible refine galloc ?_); refine w_alloc I ?_; clear I; intro g w I) | ((with_reducible refine gload ?_); first | refine w_loadB I (by rfl) (by first | (with_reducible repeat (first | exact .here | apply At.there)); done | repeat (first | exact .here | apply At.there)) (by rfl) ?_ | refine w_loadBR I (by rfl) (by first | (with_reducible repeat (first | exact .here | apply At.there)); done | repeat (first | exact .here | apply At.there)) (by rfl) ?_ | refine w_load0 I (by rfl) (by assumption) ?_) | ((with_reducible refine gstore ?_); (first | refine w_storeB I (by rfl) (by (conv => lhs; whnf) <;> rfl) (by first | (with_reducible repeat (first | exact .here | apply Upd.there)); done | repeat (first | exact .here | apply Upd.there)) (by rfl) (by rfl) (by simp only [List.set_cons_zero, List.set_cons_succ] <;> rfl) ?_ | refine w_storeBR I (by rfl) (by rfl) (by first | (with_reducible repeat (first | exact .here | apply Upd.there)); done | repeat (first | exact .here | apply Upd.there)) (by rfl) (by rfl) (by rfl) ?_); clear I; intro w I))
              all_goals try omega
              go_roundw
              case rel => exact ⟨j + 1, β, by go_num, by omega, rfl, HB2, I⟩
              case measure => simp [intOf]; omega
            | true =>
              rw [hq] at HA8
              have HCx : Hid (Ser.Cand s n x) := Lib.hid (fun _ p' hp' => by
                rw [HPs.out] at hp'; injection hp' with hp'; rw [← hp']; exact (Ser.ahead_iff p x).1 hq)
              clear hq
              go_upto_region 8 with (first | ((with_reducible refine gguard ?_); (first | refine w_guardT (by rfl) (fun hb => ?_) (fun hb => ?_) | refine w_guardF (by rfl) (fun hb => ?_) (fun hb => ?_)) <;> first | (cases hb; done) | cases hb | ((try rw [hb]) <;> (try simp at hb) <;> go_prune <;> (try (with_reducible replace hb := eqPair hb)))) | (((with_reducible refine gbox ?_); first | refine w_boxA I (by rfl) ?_ | refine w_box1 I (by (conv => lhs; whnf) <;> rfl) (by rfl) ?_); clear I; intro g w I) | ((with_reducible refine galloc ?_); refine w_alloc I ?_; clear I; intro g w I) | ((with_reducible refine gload ?_); first | refine w_loadB I (by rfl) (by first | (with_reducible repeat (first | exact .here | apply At.there)); done | repeat (first | exact .here | apply At.there)) (by rfl) ?_ | refine w_loadBR I (by rfl) (by first | (with_reducible repeat (first | exact .here | apply At.there)); done | repeat (first | exact .here | apply At.there)) (by rfl) ?_ | refine w_load0 I (by rfl) (by assumption) ?_) | ((with_reducible refine gstore ?_); (first | refine w_storeB I (by rfl) (by (conv => lhs; whnf) <;> rfl) (by first | (with_reducible repeat (first | exact .here | apply Upd.there)); done | repeat (first | exact .here | apply Upd.there)) (by rfl) (by rfl) (by simp only [List.set_cons_zero, List.set_cons_succ] <;> rfl) ?_ | refine w_storeBR I (by rfl) (by rfl) (by first | (with_reducible repeat (first | exact .here | apply Upd.there)); done | repeat (first | exact .here | apply Upd.there)) (by rfl) (by rfl) (by rfl) ?_); clear I; intro w I))
              all_goals try omega
              rename World => w1
              have p0 := fun w' (hf : Fr w1 w') => by have hx := ((I.still hf).own (v := .slice (some ⟨gv, 0, none⟩) n c2) (l := out) .here).cell encR_len k (by rw [HO.out.1]; omega) 0 _ rfl; rw [Nat.add_zero] at hx; rw [HP.out] at hx; exact hx
              have p1 := fun w' (hf : Fr w1 w') => by have hx := ((I.still hf).own (v := .slice (some ⟨gv, 0, none⟩) n c2) (l := out) .here).cell encR_len k (by rw [HO.out.1]; omega) 1 _ rfl; rw [HP.out] at hx; exact hx
              have p2 := fun w' (hf : Fr w1 w') => by have hx := ((I.still hf).own (v := .slice (some ⟨gv, 0, none⟩) n c2) (l := out) .here).cell encR_len k (by rw [HO.out.1]; omega) 2 _ rfl; rw [HP.out] at hx; exact hx
              have q2 := fun w' (hf : Fr w1 w') => (I.fr.trans hf).cell h2
              have q3 := fun w' (hf : Fr w1 w') => (I.fr.trans hf).cell hc0
              have q4 := fun w' (hf : Fr w1 w') => (I.fr.trans hf).cell hc1
              have q5 := fun w' (hf : Fr w1 w') => (I.fr.trans hf).cell hc2
              replace I := Lib.hid I
              go_region_held3 (fun w' => Fr w1 w') (first | assumption | exact (Fr.refl _).drew | exact Fr.trans (by assumption) (by assumption)) (first | (go_at_call 56; go_must (refine (HA8.out _).mono ?_; rintro _ w1 ⟨rfl, hf⟩)))
              replace I := I.out.still (by assumption)
              clear p0 p1 p2 q2 q3 q4 q5
              cases β with
              | none =>
                dsimp only [Ser.bi]
                have HB2 : Hid (Ser.Best l s n (j + 1) (some j)) := Lib.hid (Ser.best_first hj HB.out (by rw [HX.out]; exact HCx.out))
                have HA12 := Lib.hid (fun w => ref06_ahead x x w)
                rw [show Ser.ahead x x = false from by
                  cases hz : Ser.ahead x x with
                  | false => rfl
                  | true => exact absurd ((Ser.ahead_iff x x).1 hz) (Ser.lt_irrefl _)] at HA12
                go_upto_region 12 with (first | ((with_reducible refine gguard ?_); (first | refine w_guardT (by rfl) (fun hb => ?_) (fun hb => ?_) | refine w_guardF (by rfl) (fun hb => ?_) (fun hb => ?_)) <;> first | (cases hb; done) | cases hb | ((try rw [hb]) <;> (try simp at hb) <;> go_prune <;> (try (with_reducible replace hb := eqPair hb)))) | (((with_reducible refine gbox ?_); first | refine w_boxA I (by rfl) ?_ | refine w_box1 I (by (conv => lhs; whnf) <;> rfl) (by rfl) ?_); clear I; intro g w I) | ((with_reducible refine galloc ?_); refine w_alloc I ?_; clear I; intro g w I) | ((with_reducible refine gload ?_); first | refine w_loadB I (by rfl) (by first | (with_reducible repeat (first | exact .here | apply At.there)); done | repeat (first | exact .here | apply At.there)) (by rfl) ?_ | refine w_loadBR I (by rfl) (by first | (with_reducible repeat (first | exact .here | apply At.there)); done | repeat (first | exact .here | apply At.there)) (by rfl) ?_ | refine w_load0 I (by rfl) (by assumption) ?_) | ((with_reducible refine gstore ?_); (first | refine w_storeB I (by rfl) (by (conv => lhs; whnf) <;> rfl) (by first | (with_reducible repeat (first | exact .here | apply Upd.there)); done | repeat (first | exact .here | apply Upd.there)) (by rfl) (by rfl) (by simp only [List.set_cons_zero, List.set_cons_succ] <;> rfl) ?_ | refine w_storeBR I (by rfl) (by rfl) (by first | (with_reducible repeat (first | exact .here | apply Upd.there)); done | repeat (first | exact .here | apply Upd.there)) (by rfl) (by rfl) (by rfl) ?_); clear I; intro w I))
                all_goals try omega
                rename World => w1
                have q2 := fun w' (hf : Fr w1 w') => (I.fr.trans hf).cell h2
                have q3 := fun w' (hf : Fr w1 w') => (I.fr.trans hf).cell hc0
                have q4 := fun w' (hf : Fr w1 w') => (I.fr.trans hf).cell hc1
                have q5 := fun w' (hf : Fr w1 w') => (I.fr.trans hf).cell hc2
                replace I := Lib.hid I
                go_region_held3 (fun w' => Fr w1 w') (first | assumption | exact (Fr.refl _).drew | exact Fr.trans (by assumption) (by assumption)) (first | (go_at_call 56; go_must (refine (HA12.out _).mono ?_; rintro _ w1 ⟨rfl, hf⟩)))
                replace I := I.out.still (by assumption)
                clear q2 q3 q4 q5
                go_wp2_with (first | ((with_reducible refine gguard ?_); (first | refine w_guardT (by rfl) (fun hb => ?_) (fun hb => ?_) | refine w_guardF (by rfl) (fun hb => ?_) (fun hb => ?_)) <;> first | (cases hb; done) | cases hb | ((try rw [hb]) <;> (try simp at hb) <;> go_prune <;> (try (with_reducible replace hb := eqPair hb)))) | (((with_reducible refine gbox ?_); first | refine w_boxA I (by rfl) ?_ | refine w_box1 I (by (conv => lhs; whnf) <;> rfl) (by rfl) ?_); clear I; intro g w I) | ((with_reducible refine galloc ?_); refine w_alloc I ?_; clear I; intro g w I) | ((with_reducible refine gload ?_); first | refine w_loadB I (by rfl) (by first | (with_reducible repeat (first | exact .here | apply At.there)); done | repeat (first | exact .here | apply At.there)) (by rfl) ?_ | refine w_loadBR I (by rfl) (by first | (with_reducible repeat (first | exact .here | apply At.there)); done | repeat (first | exact .here | apply At.there)) (by rfl) ?_ | refine w_load0 I (by rfl) (by assumption) ?_) | ((with_reducible refine gstore ?_); (first | refine w_storeB I (by rfl) (by (conv => lhs; whnf) <;> rfl) (by first | (with_reducible repeat (first | exact .here | apply Upd.there)); done | repeat (first | exact .here | apply Upd.there)) (by rfl) (by rfl) (by simp only [List.set_cons_zero, List.set_cons_succ] <;> rfl) ?_ | refine w_storeBR I (by rfl) (by rfl) (by first | (with_reducible repeat (first | exact .here | apply Upd.there)); done | repeat (first | exact .here | apply Upd.there)) (by rfl) (by rfl) (by rfl) ?_); clear I; intro w I))
                all_goals try omega
                go_roundw
                case rel => exact ⟨j + 1, some j, by go_num, by omega, rfl, HB2, I⟩
                case measure => simp [intOf]; omega
              | some jb =>
                dsimp only [Ser.bi]
                obtain ⟨hjb, HB3⟩ : ∃ hjb : jb < l.length, Hid (Ser.Best l s n j (some jb)) := ⟨HB.out.1, HB⟩
                have hjb2 : (jb : Int) < (l.length : Int) := by omega
                have d9 : decide ((jb : Int) < (0 : Int)) = false := decide_eq_false (by omega)
                obtain ⟨ab2, ao2, hab, hb0, hb1, hb2⟩ := atR HS.out jb hjb
                injection hab with hab
                injection hab with e1 e2 e3
                subst e1 e2
                clear e3
                obtain ⟨y, hy⟩ : ∃ y, l[jb] = y := ⟨_, rfl⟩
                have HY := Lib.hid hy
                rw [hy] at hb0 hb1 hb2
                clear hy
                cases hq : Ser.ahead x y with
                | true =>
                  have HB2 : Hid (Ser.Best l s n (j + 1) (some j)) := Lib.hid (Ser.best_less hj HB3.out (by rw [HX.out]; exact HCx.out) (by rw [HX.out, HY.out]; exact (Ser.ahead_iff x y).1 hq))
                  have HA12 := Lib.hid (fun w => ref06_ahead x y w)
                  rw [hq] at HA12
                  clear hq
                  go_upto_region 12 with (first | ((with_reducible refine gguard ?_); (first | refine w_guardT (by rfl) (fun hb => ?_) (fun hb => ?_) | refine w_guardF (by rfl) (fun hb => ?_) (fun hb => ?_)) <;> first | (cases hb; done) | cases hb | ((try rw [hb]) <;> (try simp at hb) <;> go_prune <;> (try (with_reducible replace hb := eqPair hb)))) | (((with_reducible refine gbox ?_); first | refine w_boxA I (by rfl) ?_ | refine w_box1 I (by (conv => lhs; whnf) <;> rfl) (by rfl) ?_); clear I; intro g w I) | ((with_reducible refine galloc ?_); refine w_alloc I ?_; clear I; intro g w I) | ((with_reducible refine gload ?_); first | refine w_loadB I (by rfl) (by first | (with_reducible repeat (first | exact .here | apply At.there)); done | repeat (first | exact .here | apply At.there)) (by rfl) ?_ | refine w_loadBR I (by rfl) (by first | (with_reducible repeat (first | exact .here | apply At.there)); done | repeat (first | exact .here | apply At.there)) (by rfl) ?_ | refine w_load0 I (by rfl) (by assumption) ?_) | ((with_reducible refine gstore ?_); (first | refine w_storeB I (by rfl) (by (conv => lhs; whnf) <;> rfl) (by first | (with_reducible repeat (first | exact .here | apply Upd.there)); done | repeat (first | exact .here | apply Upd.there)) (by rfl) (by rfl) (by simp only [List.set_cons_zero, List.set_cons_succ] <;> rfl) ?_ | refine w_storeBR I (by rfl) (by rfl) (by first | (with_reducible repeat (first | exact .here | apply Upd.there)); done | repeat (first | exact .here | apply Upd.there)) (by rfl) (by rfl) (by rfl) ?_); clear I; intro w I))
                  all_goals try omega
                  rename World => w1
                  have q2 := fun w' (hf : Fr w1 w') => (I.fr.trans hf).cell h2
                  have q3 := fun w' (hf : Fr w1 w') => (I.fr.trans hf).cell hc0
                  have q4 := fun w' (hf : Fr w1 w') => (I.fr.trans hf).cell hc1
                  have q5 := fun w' (hf : Fr w1 w') => (I.fr.trans hf).cell hc2
                  have q6 := fun w' (hf : Fr w1 w') => (I.fr.trans hf).cell hb0
                  have q7 := fun w' (hf : Fr w1 w') => (I.fr.trans hf).cell hb1
                  have q8 := fun w' (hf : Fr w1 w') => (I.fr.trans hf).cell hb2
                  replace I := Lib.hid I
                  go_region_held3 (fun w' => Fr w1 w') (first | assumption | exact (Fr.refl _).drew | exact Fr.trans (by assumption) (by assumption)) (first | (go_at_call 56; go_must (refine (HA12.out _).mono ?_; rintro _ w1 ⟨rfl, hf⟩)))
                  replace I := I.out.still (by assumption)
                  clear q2 q3 q4 q5 q6 q7 q8
                  go_wp2_with (first | ((with_reducible refine gguard ?_); (first | refine w_guardT (by rfl) (fun hb => ?_) (fun hb => ?_) | refine w_guardF (by rfl) (fun hb => ?_) (fun hb => ?_)) <;> first | (cases hb; done) | cases hb | ((try rw [hb]) <;> (try simp at hb) <;> go_prune <;> (try (with_reducible replace hb := eqPair hb)))) | (((with_reducible refine gbox ?_); first | refine w_boxA I (by rfl) ?_ | refine w_box1 I (by (conv => lhs; whnf) <;> rfl) (by rfl) ?_); clear I; intro g w I) | ((with_reducible refine galloc ?_); refine w_alloc I ?_; clear I; intro g w I) | ((with_reducible refine gload ?_); first | refine w_loadB I (by rfl) (by first | (with_reducible repeat (first | exact .here | apply At.there)); done | repeat (first | exact .here | apply At.there)) (by rfl) ?_ | refine w_loadBR I (by rfl) (by first | (with_reducible repeat (first | exact .here | apply At.there)); done | repeat (first | exact .here | apply At.there)) (by rfl) ?_ | refine w_load0 I (by rfl) (by assumption) ?_) | ((with_reducible refine gstore ?_); (first | refine w_storeB I (by rfl) (by (conv => lhs; whnf) <;> rfl) (by first | (with_reducible repeat (first | exact .here | apply Upd.there)); done | repeat (first | exact .here | apply Upd.there)) (by rfl) (by rfl) (by simp only [List.set_cons_zero, List.set_cons_succ] <;> rfl) ?_ | refine w_storeBR I (by rfl) (by rfl) (by first | (with_reducible repeat (first | exact .here | apply Upd.there)); done | repeat (first | exact .here | apply Upd.there)) (by rfl) (by rfl) (by rfl) ?_); clear I; intro w I))
                  all_goals try omega
                  go_roundw
                  case rel => exact ⟨j + 1, some j, by go_num, by omega, rfl, HB2, I⟩
                  case measure => simp [intOf]; omega
                | false =>
                  have HB2 : Hid (Ser.Best l s n (j + 1) (some jb)) := Lib.hid (Ser.best_keep hj HB3.out (by rw [HX.out, HY.out]; intro e; rw [(Ser.ahead_iff x y).2 e] at hq; cases hq))
                  have HA12 := Lib.hid (fun w => ref06_ahead x y w)
                  rw [hq] at HA12
                  clear hq
                  go_upto_region 12 with (first | ((with_reducible refine gguard ?_); (first | refine w_guardT (by rfl) (fun hb => ?_) (fun hb => ?_) | refine w_guardF (by rfl) (fun hb => ?_) (fun hb => ?_)) <;> first | (cases hb; done) | cases hb | ((try rw [hb]) <;> (try simp at hb) <;> go_prune <;> (try (with_reducible replace hb := eqPair hb)))) | (((with_reducible refine gbox ?_); first | refine w_boxA I (by rfl) ?_ | refine w_box1 I (by (conv => lhs; whnf) <;> rfl) (by rfl) ?_); clear I; intro g w I) | ((with_reducible refine galloc ?_); refine w_alloc I ?_; clear I; intro g w I) | ((with_reducible refine gload ?_); first | refine w_loadB I (by rfl) (by first | (with_reducible repeat (first | exact .here | apply At.there)); done | repeat (first | exact .here | apply At.there)) (by rfl) ?_ | refine w_loadBR I (by rfl) (by first | (with_reducible repeat (first | exact .here | apply At.there)); done | repeat (first | exact .here | apply At.there)) (by rfl) ?_ | refine w_load0 I (by rfl) (by assumption) ?_) | ((with_reducible refine gstore ?_); (first | refine w_storeB I (by rfl) (by (conv => lhs; whnf) <;> rfl) (by first | (with_reducible repeat (first | exact .here | apply Upd.there)); done | repeat (first | exact .here | apply Upd.there)) (by rfl) (by rfl) (by simp only [List.set_cons_zero, List.set_cons_succ] <;> rfl) ?_ | refine w_storeBR I (by rfl) (by rfl) (by first | (with_reducible repeat (first | exact .here | apply Upd.there)); done | repeat (first | exact .here | apply Upd.there)) (by rfl) (by rfl) (by rfl) ?_); clear I; intro w I))
                  all_goals try omega
                  rename World => w1
                  have q2 := fun w' (hf : Fr w1 w') => (I.fr.trans hf).cell h2
                  have q3 := fun w' (hf : Fr w1 w') => (I.fr.trans hf).cell hc0
                  have q4 := fun w' (hf : Fr w1 w') => (I.fr.trans hf).cell hc1
                  have q5 := fun w' (hf : Fr w1 w') => (I.fr.trans hf).cell hc2
                  have q6 := fun w' (hf : Fr w1 w') => (I.fr.trans hf).cell hb0
                  have q7 := fun w' (hf : Fr w1 w') => (I.fr.trans hf).cell hb1
                  have q8 := fun w' (hf : Fr w1 w') => (I.fr.trans hf).cell hb2
                  replace I := Lib.hid I
                  go_region_held3 (fun w' => Fr w1 w') (first | assumption | exact (Fr.refl _).drew | exact Fr.trans (by assumption) (by assumption)) (first | (go_at_call 56; go_must (refine (HA12.out _).mono ?_; rintro _ w1 ⟨rfl, hf⟩)))
                  replace I := I.out.still (by assumption)
                  clear q2 q3 q4 q5 q6 q7 q8
                  go_wp2_with (first | ((with_reducible refine gguard ?_); (first | refine w_guardT (by rfl) (fun hb => ?_) (fun hb => ?_) | refine w_guardF (by rfl) (fun hb => ?_) (fun hb => ?_)) <;> first | (cases hb; done) | cases hb | ((try rw [hb]) <;> (try simp at hb) <;> go_prune <;> (try (with_reducible replace hb := eqPair hb)))) | (((with_reducible refine gbox ?_); first | refine w_boxA I (by rfl) ?_ | refine w_box1 I (by (conv => lhs; whnf) <;> rfl) (by rfl) ?_); clear I; intro g w I) | ((with_reducible refine galloc ?_); refine w_alloc I ?_; clear I; intro g w I) | ((with_reducible refine gload ?_); first | refine w_loadB I (by rfl) (by first | (with_reducible repeat (first | exact .here | apply At.there)); done | repeat (first | exact .here | apply At.there)) (by rfl) ?_ | refine w_loadBR I (by rfl) (by first | (with_reducible repeat (first | exact .here | apply At.there)); done | repeat (first | exact .here | apply At.there)) (by rfl) ?_ | refine w_load0 I (by rfl) (by assumption) ?_) | ((with_reducible refine gstore ?_); (first | refine w_storeB I (by rfl) (by (conv => lhs; whnf) <;> rfl) (by first | (with_reducible repeat (first | exact .here | apply Upd.there)); done | repeat (first | exact .here | apply Upd.there)) (by rfl) (by rfl) (by simp only [List.set_cons_zero, List.set_cons_succ] <;> rfl) ?_ | refine w_storeBR I (by rfl) (by rfl) (by first | (with_reducible repeat (first | exact .here | apply Upd.there)); done | repeat (first | exact .here | apply Upd.there)) (by rfl) (by rfl) (by rfl) ?_); clear I; intro w I))
                  all_goals try omega
                  go_roundw
                  case rel => exact ⟨j + 1, some jb, by go_num, by omega, rfl, HB2, I⟩
                  case measure => simp [intOf]; omega
        · obtain rfl : j = l.length := by omega
          obtain ⟨jb, rfl, hjb, hjs⟩ := Ser.best_end HSR.out HMEM.out hlt HB.out
          dsimp only [Ser.bi]
          have hj2 : ¬ (l.length : Int) < (l.length : Int) := by omega
          have hjb2 : (jb : Int) < (l.length : Int) := by omega
          obtain ⟨ab, ao, rfl, hc0, hc1, hc2⟩ := atR HS.out jb hjb
          have HR3 := Lib.hid (show ∀ (j : Nat) (u : Value), (encR l[jb])[j]? = some u → w0.cell? ((⟨ab, ao + jb * 3, none⟩ : Addr).add j) = some u from fun j u hj => by
            rw [addr_add]
            match j, hj with
            | 0, hj => obtain rfl := Option.some.inj hj; exact hc0
            | 1, hj => obtain rfl := Option.some.inj hj; exact hc1
            | 2, hj => obtain rfl := Option.some.inj hj; exact hc2
            | _ + 3, hj => cases hj)
          have HO2 : Hid ((out ++ [l[jb]]).length = n + 1 ∧ out ++ [l[jb]] = s.take (n + 1)) := Lib.hid ⟨by rw [List.length_append, HO.out.1]; rfl, by rw [List.take_succ_eq_append_getElem hlt, ← HO.out.2, hjs]⟩
          generalize l[jb] = x at hc0 hc1 hc2 HR3 HO2
          have HOL := Lib.hid HO.out.1
          go_wp2_with (first | ((with_reducible refine gload (ty := 36) ?_); refine w_loadR (n := 3) (cs := encR x) (by rfl) rfl (fun j u hj => I.fr.cell (HR3.out j u hj)) ?_) | (first | ((with_reducible refine gguard ?_); (first | refine w_guardT (by rfl) (fun hb => ?_) (fun hb => ?_) | refine w_guardF (by rfl) (fun hb => ?_) (fun hb => ?_)) <;> first | (cases hb; done) | cases hb | ((try rw [hb]) <;> (try simp at hb) <;> go_prune <;> (try (with_reducible replace hb := eqPair hb)))) | (((with_reducible refine gbox ?_); first | refine w_boxA I (by rfl) ?_ | refine w_box1 I (by (conv => lhs; whnf) <;> rfl) (by rfl) ?_); clear I; intro g w I) | ((with_reducible refine galloc ?_); refine w_alloc I ?_; clear I; intro g w I) | ((with_reducible refine gload ?_); first | refine w_loadB I (by rfl) (by first | (with_reducible repeat (first | exact .here | apply At.there)); done | repeat (first | exact .here | apply At.there)) (by rfl) ?_ | refine w_loadBR I (by rfl) (by first | (with_reducible repeat (first | exact .here | apply At.there)); done | repeat (first | exact .here | apply At.there)) (by rfl) ?_ | refine w_load0 I (by rfl) (by assumption) ?_) | ((with_reducible refine gstore ?_); (first | refine w_storeB I (by rfl) (by (conv => lhs; whnf) <;> rfl) (by first | (with_reducible repeat (first | exact .here | apply Upd.there)); done | repeat (first | exact .here | apply Upd.there)) (by rfl) (by rfl) (by simp only [List.set_cons_zero, List.set_cons_succ] <;> rfl) ?_ | refine w_storeBR I (by rfl) (by rfl) (by first | (with_reducible repeat (first | exact .here | apply Upd.there)); done | repeat (first | exact .here | apply Upd.there)) (by rfl) (by rfl) (by rfl) ?_); clear I; intro w I)) | (((with_reducible refine gbsr ?_); refine w_bsr (enc := encR) [x] encR_len I (by rfl) (by rfl) (by decide) (by decide) (by decide) ?_); clear I; intro g w I) | ((with_reducible refine gappend ?_); refine w_append encR_len encR_one (by decide) I (by rfl) (by first | (with_reducible repeat (first | exact .here | apply At.there)); done | repeat (first | exact .here | apply At.there)) (by rfl) (l2 := [x]) (I.slv .here encR_len) (by have := HOL.out; first | omega | (simp <;> omega)) (by have := HOL.out; unfold maxLen; first | omega | (simp <;> omega)) ?_; clear I; intro A m c w I))
          all_goals try omega
          obtain ⟨A9, c9, e9, -, -, -, -⟩ := (I.own .here).reads encR_len
          injection e9 with _ e9 _
          rw [HO2.out.1] at e9
          subst e9
          exact ⟨⟨n + 1, _, _, _, rfl, by omega, HO2, I.drop (.there .here)⟩, by simp only [Ser.slLen]; omega⟩
    · obtain rfl : n = s.length := by omega
      have hlt2 : ¬ (s.length : Int) < (l.length : Int) := by have := HLEN.out; omega
      have HO3 : Hid (out = s) := Lib.hid (by rw [HO.out.2, List.take_length])
      go_wp2_with (first | ((with_reducible refine gguard ?_); (first | refine w_guardT (by rfl) (fun hb => ?_) (fun hb => ?_) | refine w_guardF (by rfl) (fun hb => ?_) (fun hb => ?_)) <;> first | (cases hb; done) | cases hb | ((try rw [hb]) <;> (try simp at hb) <;> go_prune <;> (try (with_reducible replace hb := eqPair hb)))) | (((with_reducible refine gbox ?_); first | refine w_boxA I (by rfl) ?_ | refine w_box1 I (by (conv => lhs; whnf) <;> rfl) (by rfl) ?_); clear I; intro g w I) | ((with_reducible refine galloc ?_); refine w_alloc I ?_; clear I; intro g w I) | ((with_reducible refine gload ?_); first | refine w_loadB I (by rfl) (by first | (with_reducible repeat (first | exact .here | apply At.there)); done | repeat (first | exact .here | apply At.there)) (by rfl) ?_ | refine w_loadBR I (by rfl) (by first | (with_reducible repeat (first | exact .here | apply At.there)); done | repeat (first | exact .here | apply At.there)) (by rfl) ?_ | refine w_load0 I (by rfl) (by assumption) ?_) | ((with_reducible refine gstore ?_); (first | refine w_storeB I (by rfl) (by (conv => lhs; whnf) <;> rfl) (by first | (with_reducible repeat (first | exact .here | apply Upd.there)); done | repeat (first | exact .here | apply Upd.there)) (by rfl) (by rfl) (by simp only [List.set_cons_zero, List.set_cons_succ] <;> rfl) ?_ | refine w_storeBR I (by rfl) (by rfl) (by first | (with_reducible repeat (first | exact .here | apply Upd.there)); done | repeat (first | exact .here | apply Upd.there)) (by rfl) (by rfl) (by rfl) ?_); clear I; intro w I))
      all_goals try omega
      go_ret
      exact ⟨_, rfl, by rw [HO3.out] at I; exact I⟩
end Go.Proofs.Ytggeloihnbjogaa
