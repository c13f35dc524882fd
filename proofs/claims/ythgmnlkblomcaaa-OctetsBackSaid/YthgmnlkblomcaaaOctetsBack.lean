/- OctetsBack: there and back. -/
import Derived.Test.YthgmnlkblomcaaaOctB
import Derived.Test.YthgmnlkblomcaaaStS
namespace Go.Proofs.Ythgmnlkblomcaaa.octetsBack
open Go.ChangeShapes Go.WideShapes Go.ChangeAt Go.RowKit Go.Hf

theorem step_len (s : List UInt8 × Int) (x : Thing) (u k : Nat) (h : s.1.length ≤ 12 * k + u) :
    (Oct.put s x.n x.size).1.length ≤ 12 * (k + 1) + (u + x.run.length) ∧ (∀ n, (Oct.putInt s n).1.length ≤ 12 * (k + 1) + (u + x.run.length)) ∧ (∀ b, (Oct.putBool s b).1.length ≤ 12 * (k + 1) + (u + x.run.length)) ∧ (Oct.putRun s x.run).1.length ≤ 12 * (k + 1) + (u + x.run.length) := by
  have h1 := Oct.put_len s x.n x.size
  have h4 := Oct.putRun_len s x.run
  refine ⟨by omega, fun n => ?_, fun b => ?_, by omega⟩
  · have := Oct.put_len s (Oct.u64 n) 8; unfold Oct.putInt; omega
  · have := Oct.put_len s (if b = true then 1 else 0) 1; unfold Oct.putBool; omega
theorem wr_0 (s : List UInt8 × Int) (x : Thing) (h : (x.kind.toNat : Int) % 4 = 0) : wr s x = Oct.put s x.n x.size := by unfold wr; rw [if_pos h]
theorem wr_1 (s : List UInt8 × Int) (x : Thing) (h : (x.kind.toNat : Int) % 4 = 1) : wr s x = Oct.putInt s (Oct.i64 x.n) := by unfold wr; rw [if_neg (by omega), if_pos h]
theorem wr_2 (s : List UInt8 × Int) (x : Thing) (h : (x.kind.toNat : Int) % 4 = 2) : wr s x = Oct.putBool s ((x.n : Int) % 2 == 1) := by unfold wr; rw [if_neg (by omega), if_neg (by omega), if_pos h]
theorem wr_3 (s : List UInt8 × Int) (x : Thing) (h : (x.kind.toNat : Int) % 4 = 3) : wr s x = Oct.putRun s x.run := by unfold wr; rw [if_neg (by omega), if_neg (by omega), if_neg (by omega)]
theorem r_0 (s : List UInt8 × Int) (x : Thing) (h : (x.kind.toNat : Int) % 4 = 0) : rd s x = (Oct.num s x.size).2 := by unfold rd; rw [if_pos h]
theorem r_1 (s : List UInt8 × Int) (x : Thing) (h : (x.kind.toNat : Int) % 4 = 1) : rd s x = (Oct.int s).2 := by unfold rd; rw [if_neg (by omega), if_pos h]
theorem r_2 (s : List UInt8 × Int) (x : Thing) (h : (x.kind.toNat : Int) % 4 = 2) : rd s x = (Oct.bool s).2 := by unfold rd; rw [if_neg (by omega), if_neg (by omega), if_pos h]
theorem r_3 (s : List UInt8 × Int) (x : Thing) (h : (x.kind.toNat : Int) % 4 = 3) : rd s x = (Oct.run s).2 := by unfold rd; rw [if_neg (by omega), if_neg (by omega), if_neg (by omega)]
theorem rd_left (s : List UInt8 × Int) (x : Thing) : (rd s x).1.length ≤ s.1.length := by
  unfold rd
  split
  · exact Oct.num_left _ _
  · split
    · exact Oct.num_left _ _
    · split
      · exact Oct.bool_left _
      · exact Oct.run_left _
theorem flat_nil (l : List Thing) (hf : ∀ x ∈ l, Fine x) (h : l.flatMap piece = []) : l = [] := by
  cases l with
  | nil => rfl
  | cons x l =>
    rw [List.flatMap_cons] at h
    exact absurd (List.append_eq_nil_iff.1 h).1 (piece_ne x (hf x (.head _)))
theorem all_n {w : World} {A : Option Addr} {l : List Thing} (h : SlA 4 thingR w A l) : ∀ x ∈ l, x.n < 18446744073709551616 := by
  intro x hx
  obtain ⟨i, hi, rfl⟩ := List.getElem_of_mem hx
  obtain ⟨_, _, _, _, _, _, _, _, _, _, h⟩ := atT h i hi
  exact h
theorem all_run (l : List Thing) (h : runs l ≤ 1000) : ∀ x ∈ l, x.run.length ≤ 1000 := by
  intro x hx
  obtain ⟨i, hi, rfl⟩ := List.getElem_of_mem hx
  have := run_le l i hi
  omega

set_option maxRecDepth 100000 in
set_option maxHeartbeats 4000000 in
theorem law (v : Value) (l : List Thing) (w0 : World) (h : Things w0 v l) :
    Calls Try.prog 14 #[v] w0 fun en w' => en = .returned (.bool true) ∧ Fr w0 w' := by
  have HF := Lib.hid (law04_Fits v l w0 h)
  obtain ⟨A, _, c, rfl, rfl, hmc, hcm, hA0, hs⟩ := h
  unfold maxLen at hcm
  have HS := Lib.hid hs
  clear hs hA0
  have I := St.refl w0
  go_enter Try.func14, Try.ntmps14
  try dsimp only [List.append]
  go_upto_region 2 with (go_at_call 63; go_must (refine (HF.out).mono ?_; rintro _ w1 ⟨fb, rfl, hb, rfl⟩; replace hb := Lib.hid hb))
  cases fb with
  | false =>
    go_wp2_with (go_at_call 64; go_must (refine (law04_alive _).mono ?_; rintro _ w1 ⟨rfl, hf⟩))
    go_ret
    exact ⟨rfl, hf⟩
  | true =>
    obtain ⟨hl, hr⟩ := hb.out rfl
    have HR := Lib.hid hr
    clear HF hb hr
    go_upto_region 5 with (first | (first | ((with_reducible refine gguard ?_); (first | refine w_guardT (by rfl) (fun hb => ?_) (fun hb => ?_) | refine w_guardF (by rfl) (fun hb => ?_) (fun hb => ?_)) <;> first | (cases hb; done) | cases hb | ((try rw [hb]) <;> (try simp at hb) <;> go_prune <;> (try (with_reducible replace hb := eqPair hb)))) | (((with_reducible refine gbox ?_); first | refine w_boxA I (by rfl) ?_ | refine w_box1 I (by (conv => lhs; whnf) <;> rfl) (by rfl) ?_); clear I; intro g w I) | ((with_reducible refine galloc ?_); refine w_alloc I ?_; clear I; intro g w I) | ((with_reducible refine gload ?_); first | refine w_loadB I (by rfl) (by first | (with_reducible repeat (first | exact .here | apply At.there)); done | repeat (first | exact .here | apply At.there)) (by rfl) ?_ | refine w_loadBR I (by rfl) (by first | (with_reducible repeat (first | exact .here | apply At.there)); done | repeat (first | exact .here | apply At.there)) (by rfl) ?_ | refine w_load0 I (by rfl) (by assumption) ?_) | ((with_reducible refine gstore ?_); (first | refine w_storeB I (by rfl) (by (conv => lhs; whnf) <;> rfl) (by first | (with_reducible repeat (first | exact .here | apply Upd.there)); done | repeat (first | exact .here | apply Upd.there)) (by rfl) (by rfl) (by simp only [List.set_cons_zero, List.set_cons_succ] <;> rfl) ?_ | refine w_storeBR I (by rfl) (by rfl) (by first | (with_reducible repeat (first | exact .here | apply Upd.there)); done | repeat (first | exact .here | apply Upd.there)) (by rfl) (by rfl) (by rfl) ?_); clear I; intro w I)) | (go_at_call 65; go_must (refine (octets_NewWriter _ _ _ I).mono ?_; rintro _ w1 ⟨gw, rfl, I1⟩; clear I; have I := I1; clear I1)))
    have I0 := I
    clear I
    go_wp2_with fail
    go_loopw [5] (fun i wr' => ∃ (k : Nat) (s : List UInt8 × Int), i = .int .i64 k ∧ k ≤ l.length ∧ s.1.length ≤ 12 * k + runs (l.take k) ∧ s = (l.take k).foldl wr ([], 0) ∧ St w0 wr' [Wr gw s]) (fun i _ => l.length - (intOf i).toNat)
    case atStart => exact ⟨0, ([], 0), rfl, by omega, by simp, rfl, I0⟩
    case round =>
      clear I0
      obtain ⟨k, s, rfl, hk, hsl, hse, I⟩ := hrel
      by_cases hlt : k < l.length
      · obtain ⟨b, o, A', c', rfl, h0, h1, h2, h3, h4, h5⟩ := atT HS.out k hlt
        have hbd : s.1.length ≤ 10000 := by have := runs_le l k; have := HR.out; omega
        have hrl : l[k].run.length ≤ 1000 := by have := run_le l k hlt; have := HR.out; omega
        have HL := Lib.hid (step_len s l[k] _ k hsl)
        rw [← runs_take l k hlt] at HL
        have HB := Lib.hid h4
        have HN := Lib.hid h5
        have HW := fold_take l k hlt
        rw [← hse] at HW
        replace HW := Lib.hid HW
        clear h4 h5 hsl hse
        generalize l[k] = x at *
        have hkl : (k : Int) < (l.length : Int) := by omega
        have h4 : (x.kind.toNat : Int) % 4 = 0 ∨ (x.kind.toNat : Int) % 4 = 1 ∨ (x.kind.toNat : Int) % 4 = 2 ∨ (x.kind.toNat : Int) % 4 = 3 := by omega
        rcases h4 with h4 | h4 | h4 | h4
        · have HX := Lib.hid (wr_0 s x h4)
          have f1 := fun w' (hf : Fr w0 w') => hf.cell h1
          have f2 := fun w' (hf : Fr w0 w') => hf.cell h2
          go_upto_region 11 with (first | ((with_reducible refine gguard ?_); (first | refine w_guardT (by rfl) (fun hb => ?_) (fun hb => ?_) | refine w_guardF (by rfl) (fun hb => ?_) (fun hb => ?_)) <;> first | (cases hb; done) | cases hb | ((try rw [hb]) <;> (try simp at hb) <;> go_prune <;> (try (with_reducible replace hb := eqPair hb)))) | (((with_reducible refine gbox ?_); first | refine w_boxA I (by rfl) ?_ | refine w_box1 I (by (conv => lhs; whnf) <;> rfl) (by rfl) ?_); clear I; intro g w I) | ((with_reducible refine galloc ?_); refine w_alloc I ?_; clear I; intro g w I) | ((with_reducible refine gload ?_); first | refine w_loadB I (by rfl) (by first | (with_reducible repeat (first | exact .here | apply At.there)); done | repeat (first | exact .here | apply At.there)) (by rfl) ?_ | refine w_loadBR I (by rfl) (by first | (with_reducible repeat (first | exact .here | apply At.there)); done | repeat (first | exact .here | apply At.there)) (by rfl) ?_ | refine w_load0 I (by rfl) (by assumption) ?_) | ((with_reducible refine gstore ?_); (first | refine w_storeB I (by rfl) (by (conv => lhs; whnf) <;> rfl) (by first | (with_reducible repeat (first | exact .here | apply Upd.there)); done | repeat (first | exact .here | apply Upd.there)) (by rfl) (by rfl) (by simp only [List.set_cons_zero, List.set_cons_succ] <;> rfl) ?_ | refine w_storeBR I (by rfl) (by rfl) (by first | (with_reducible repeat (first | exact .here | apply Upd.there)); done | repeat (first | exact .here | apply Upd.there)) (by rfl) (by rfl) (by rfl) ?_); clear I; intro w I))
          go_region_held3 (fun w' => Fr w0 w') (first | assumption | exact I.fr.drew | exact St.fr (by assumption)) ((go_at_call 66; go_must (refine (octets_Num gw s x.n x.size HN.out (by omega) w0 _ _ _ I.drew (by first | (with_reducible repeat (first | exact .here | apply At.there)); done | repeat (first | exact .here | apply At.there))).mono ?_; rintro _ w1 ⟨rfl, S⟩)))
          replace I := S
          clear S f1 f2
          go_wp2_with fail
          go_roundw
          case rel => exact ⟨k + 1, _, by go_num, by omega, HL.out.1, by rw [HW.out, HX.out], I⟩
          case measure => simp [intOf]; omega
        · have hq := i64_conv x.n HN.out
          have HX := Lib.hid (wr_1 s x h4)
          generalize Oct.i64 x.n = q at *
          go_wp2_with (first | (first | ((with_reducible refine gguard ?_); (first | refine w_guardT (by rfl) (fun hb => ?_) (fun hb => ?_) | refine w_guardF (by rfl) (fun hb => ?_) (fun hb => ?_)) <;> first | (cases hb; done) | cases hb | ((try rw [hb]) <;> (try simp at hb) <;> go_prune <;> (try (with_reducible replace hb := eqPair hb)))) | (((with_reducible refine gbox ?_); first | refine w_boxA I (by rfl) ?_ | refine w_box1 I (by (conv => lhs; whnf) <;> rfl) (by rfl) ?_); clear I; intro g w I) | ((with_reducible refine galloc ?_); refine w_alloc I ?_; clear I; intro g w I) | ((with_reducible refine gload ?_); first | refine w_loadB I (by rfl) (by first | (with_reducible repeat (first | exact .here | apply At.there)); done | repeat (first | exact .here | apply At.there)) (by rfl) ?_ | refine w_loadBR I (by rfl) (by first | (with_reducible repeat (first | exact .here | apply At.there)); done | repeat (first | exact .here | apply At.there)) (by rfl) ?_ | refine w_load0 I (by rfl) (by assumption) ?_) | ((with_reducible refine gstore ?_); (first | refine w_storeB I (by rfl) (by (conv => lhs; whnf) <;> rfl) (by first | (with_reducible repeat (first | exact .here | apply Upd.there)); done | repeat (first | exact .here | apply Upd.there)) (by rfl) (by rfl) (by simp only [List.set_cons_zero, List.set_cons_succ] <;> rfl) ?_ | refine w_storeBR I (by rfl) (by rfl) (by first | (with_reducible repeat (first | exact .here | apply Upd.there)); done | repeat (first | exact .here | apply Upd.there)) (by rfl) (by rfl) (by rfl) ?_); clear I; intro w I)) | (go_at_call 68; go_must (refine (octets_Int gw s q (by omega) w0 _ _ _ I (by first | (with_reducible repeat (first | exact .here | apply At.there)); done | repeat (first | exact .here | apply At.there))).mono ?_; rintro _ w1 ⟨rfl, S⟩; replace I := S; clear S)))
          go_roundw
          case rel => exact ⟨k + 1, _, by go_num, by omega, HL.out.2.1 q, by rw [HW.out, HX.out], I⟩
          case measure => simp [intOf]; omega
        · have HX := Lib.hid (wr_2 s x h4)
          go_wp2_with (first | (first | ((with_reducible refine gguard ?_); (first | refine w_guardT (by rfl) (fun hb => ?_) (fun hb => ?_) | refine w_guardF (by rfl) (fun hb => ?_) (fun hb => ?_)) <;> first | (cases hb; done) | cases hb | ((try rw [hb]) <;> (try simp at hb) <;> go_prune <;> (try (with_reducible replace hb := eqPair hb)))) | (((with_reducible refine gbox ?_); first | refine w_boxA I (by rfl) ?_ | refine w_box1 I (by (conv => lhs; whnf) <;> rfl) (by rfl) ?_); clear I; intro g w I) | ((with_reducible refine galloc ?_); refine w_alloc I ?_; clear I; intro g w I) | ((with_reducible refine gload ?_); first | refine w_loadB I (by rfl) (by first | (with_reducible repeat (first | exact .here | apply At.there)); done | repeat (first | exact .here | apply At.there)) (by rfl) ?_ | refine w_loadBR I (by rfl) (by first | (with_reducible repeat (first | exact .here | apply At.there)); done | repeat (first | exact .here | apply At.there)) (by rfl) ?_ | refine w_load0 I (by rfl) (by assumption) ?_) | ((with_reducible refine gstore ?_); (first | refine w_storeB I (by rfl) (by (conv => lhs; whnf) <;> rfl) (by first | (with_reducible repeat (first | exact .here | apply Upd.there)); done | repeat (first | exact .here | apply Upd.there)) (by rfl) (by rfl) (by simp only [List.set_cons_zero, List.set_cons_succ] <;> rfl) ?_ | refine w_storeBR I (by rfl) (by rfl) (by first | (with_reducible repeat (first | exact .here | apply Upd.there)); done | repeat (first | exact .here | apply Upd.there)) (by rfl) (by rfl) (by rfl) ?_); clear I; intro w I)) | (go_at_call 70; go_must (refine (octets_Bool gw s _ (by omega) w0 _ _ _ I (by first | (with_reducible repeat (first | exact .here | apply At.there)); done | repeat (first | exact .here | apply At.there))).mono ?_; rintro _ w1 ⟨rfl, S⟩; replace I := S; clear S)))
          go_roundw
          case rel => exact ⟨k + 1, _, by go_num, by omega, HL.out.2.2.1 _, by rw [HW.out, HX.out], I⟩
          case measure => simp [intOf]; omega
        · have HX := Lib.hid (wr_3 s x h4)
          go_wp2_with (first | (first | ((with_reducible refine gguard ?_); (first | refine w_guardT (by rfl) (fun hb => ?_) (fun hb => ?_) | refine w_guardF (by rfl) (fun hb => ?_) (fun hb => ?_)) <;> first | (cases hb; done) | cases hb | ((try rw [hb]) <;> (try simp at hb) <;> go_prune <;> (try (with_reducible replace hb := eqPair hb)))) | (((with_reducible refine gbox ?_); first | refine w_boxA I (by rfl) ?_ | refine w_box1 I (by (conv => lhs; whnf) <;> rfl) (by rfl) ?_); clear I; intro g w I) | ((with_reducible refine galloc ?_); refine w_alloc I ?_; clear I; intro g w I) | ((with_reducible refine gload ?_); first | refine w_loadB I (by rfl) (by first | (with_reducible repeat (first | exact .here | apply At.there)); done | repeat (first | exact .here | apply At.there)) (by rfl) ?_ | refine w_loadBR I (by rfl) (by first | (with_reducible repeat (first | exact .here | apply At.there)); done | repeat (first | exact .here | apply At.there)) (by rfl) ?_ | refine w_load0 I (by rfl) (by assumption) ?_) | ((with_reducible refine gstore ?_); (first | refine w_storeB I (by rfl) (by (conv => lhs; whnf) <;> rfl) (by first | (with_reducible repeat (first | exact .here | apply Upd.there)); done | repeat (first | exact .here | apply Upd.there)) (by rfl) (by rfl) (by simp only [List.set_cons_zero, List.set_cons_succ] <;> rfl) ?_ | refine w_storeBR I (by rfl) (by rfl) (by first | (with_reducible repeat (first | exact .here | apply Upd.there)); done | repeat (first | exact .here | apply Upd.there)) (by rfl) (by rfl) (by rfl) ?_); clear I; intro w I)) | (go_at_call 72; go_must (refine (octets_Run gw s x.run _ (by omega) (by omega) w0 _ _ _ I (by first | (with_reducible repeat (first | exact .here | apply At.there)); done | repeat (first | exact .here | apply At.there)) HB.out).mono ?_; rintro _ w1 ⟨rfl, S⟩; replace I := S; clear S)))
          go_roundw
          case rel => exact ⟨k + 1, _, by go_num, by omega, HL.out.2.2.2, by rw [HW.out, HX.out], I⟩
          case measure => simp [intOf]; omega
      · obtain rfl : k = l.length := by omega
        rw [List.take_length] at hsl hse
        replace hse := Lib.hid hse
        have hsl2 : s.1.length ≤ 10000 := by have := HR.out; omega
        have hkk : ¬ (l.length : Int) < (l.length : Int) := by omega
        go_upto_region 17 with (first | (first | ((with_reducible refine gguard ?_); (first | refine w_guardT (by rfl) (fun hb => ?_) (fun hb => ?_) | refine w_guardF (by rfl) (fun hb => ?_) (fun hb => ?_)) <;> first | (cases hb; done) | cases hb | ((try rw [hb]) <;> (try simp at hb) <;> go_prune <;> (try (with_reducible replace hb := eqPair hb)))) | (((with_reducible refine gbox ?_); first | refine w_boxA I (by rfl) ?_ | refine w_box1 I (by (conv => lhs; whnf) <;> rfl) (by rfl) ?_); clear I; intro g w I) | ((with_reducible refine galloc ?_); refine w_alloc I ?_; clear I; intro g w I) | ((with_reducible refine gload ?_); first | refine w_loadB I (by rfl) (by first | (with_reducible repeat (first | exact .here | apply At.there)); done | repeat (first | exact .here | apply At.there)) (by rfl) ?_ | refine w_loadBR I (by rfl) (by first | (with_reducible repeat (first | exact .here | apply At.there)); done | repeat (first | exact .here | apply At.there)) (by rfl) ?_ | refine w_load0 I (by rfl) (by assumption) ?_) | ((with_reducible refine gstore ?_); (first | refine w_storeB I (by rfl) (by (conv => lhs; whnf) <;> rfl) (by first | (with_reducible repeat (first | exact .here | apply Upd.there)); done | repeat (first | exact .here | apply Upd.there)) (by rfl) (by rfl) (by simp only [List.set_cons_zero, List.set_cons_succ] <;> rfl) ?_ | refine w_storeBR I (by rfl) (by rfl) (by first | (with_reducible repeat (first | exact .here | apply Upd.there)); done | repeat (first | exact .here | apply Upd.there)) (by rfl) (by rfl) (by rfl) ?_); clear I; intro w I)) | (go_at_call 74; go_must (refine (octets_Done gw s (by omega) w0 _ _ _ I (by first | (with_reducible repeat (first | exact .here | apply At.there)); done | repeat (first | exact .here | apply At.there))).mono ?_; rintro _ w1 ⟨Ab, mb, cb, rfl, S⟩; replace I := S; clear S)))
        by_cases he : s.2 = 0
        · rw [if_pos he] at I
          have hE := wrs_ok l [] (fun x hx => ⟨all_n HS.out x hx, all_run l HR.out x hx⟩) (by rw [← hse.out]; exact he)
          obtain ⟨hE, hfine⟩ := hE
          rw [← hse.out, List.nil_append] at hE
          subst hE
          clear he hse hsl hkk
          dsimp only at I hsl2 ⊢
          replace I := I.pick .here
          obtain ⟨A2, c2, hv, _⟩ := (I.own .here).reads encB_len
          injection hv with v1 v2 v3
          subst v1 v2 v3
          have HFi := Lib.hid hfine
          by_cases hF : l.flatMap piece = []
          · have hl0 : l.length = 0 := by rw [flat_nil l hfine hF]; rfl
            have hlz : ¬ (0 : Int) < (l.length : Int) := by omega
            generalize l.flatMap piece = F at *
            subst hF
            clear hfine HFi
            go_upto_region 20 with (first | (first | ((with_reducible refine gguard ?_); (first | refine w_guardT (by rfl) (fun hb => ?_) (fun hb => ?_) | refine w_guardF (by rfl) (fun hb => ?_) (fun hb => ?_)) <;> first | (cases hb; done) | cases hb | ((try rw [hb]) <;> (try simp at hb) <;> go_prune <;> (try (with_reducible replace hb := eqPair hb)))) | (((with_reducible refine gbox ?_); first | refine w_boxA I (by rfl) ?_ | refine w_box1 I (by (conv => lhs; whnf) <;> rfl) (by rfl) ?_); clear I; intro g w I) | ((with_reducible refine galloc ?_); refine w_alloc I ?_; clear I; intro g w I) | ((with_reducible refine gload ?_); first | refine w_loadB I (by rfl) (by first | (with_reducible repeat (first | exact .here | apply At.there)); done | repeat (first | exact .here | apply At.there)) (by rfl) ?_ | refine w_loadBR I (by rfl) (by first | (with_reducible repeat (first | exact .here | apply At.there)); done | repeat (first | exact .here | apply At.there)) (by rfl) ?_ | refine w_load0 I (by rfl) (by assumption) ?_) | ((with_reducible refine gstore ?_); (first | refine w_storeB I (by rfl) (by (conv => lhs; whnf) <;> rfl) (by first | (with_reducible repeat (first | exact .here | apply Upd.there)); done | repeat (first | exact .here | apply Upd.there)) (by rfl) (by rfl) (by simp only [List.set_cons_zero, List.set_cons_succ] <;> rfl) ?_ | refine w_storeBR I (by rfl) (by rfl) (by first | (with_reducible repeat (first | exact .here | apply Upd.there)); done | repeat (first | exact .here | apply Upd.there)) (by rfl) (by rfl) (by rfl) ?_); clear I; intro w I)) | (((with_reducible refine gbs0 ?_); refine w_bs0 (enc := encB) encB_len I ?_); clear I; intro g w I) | (((with_reducible refine gbs ?_); refine w_bs1 (enc := encB) (b := (7 : UInt8)) encB_len I (by rfl) (by rfl) (by rfl) ?_); clear I; intro g w I) | ((with_reducible refine gappend ?_); refine w_append encB_len encB_one (by decide) I (by rfl) (by first | (with_reducible repeat (first | exact .here | apply At.there)); done | repeat (first | exact .here | apply At.there)) (by rfl) (l2 := ([] : List UInt8)) (I.slv (.there .here) encB_len) (by first | omega | (simp <;> omega)) (by unfold maxLen; first | omega | (simp <;> omega)) ?_; clear I; intro A m c w I) | ((with_reducible refine gappend ?_); refine w_append encB_len encB_one (by decide) I (by rfl) (by first | (with_reducible repeat (first | exact .here | apply At.there)); done | repeat (first | exact .here | apply At.there)) (by rfl) (l2 := [7]) (I.slv .here encB_len) (by first | omega | (simp <;> omega)) (by unfold maxLen; first | omega | (simp <;> omega)) ?_; clear I; intro A m c w I) | (go_at_call 75; go_must (refine (octets_NewReader _ [7] (by simp) _ _ _ I (I.slv .here encB_len)).mono ?_; rintro _ w1 ⟨gr, rfl, I1⟩; clear I; have I := I1; clear I1)))
            replace I := I.take (A := OwnS 5 1 encB (.slice Ab ([] : List UInt8).length cb) []) (by first | (with_reducible repeat (first | exact .here | apply At.there)); done | repeat (first | exact .here | apply At.there))
            go_upto_region 21 with (first | (first | ((with_reducible refine gguard ?_); (first | refine w_guardT (by rfl) (fun hb => ?_) (fun hb => ?_) | refine w_guardF (by rfl) (fun hb => ?_) (fun hb => ?_)) <;> first | (cases hb; done) | cases hb | ((try rw [hb]) <;> (try simp at hb) <;> go_prune <;> (try (with_reducible replace hb := eqPair hb)))) | (((with_reducible refine gbox ?_); first | refine w_boxA I (by rfl) ?_ | refine w_box1 I (by (conv => lhs; whnf) <;> rfl) (by rfl) ?_); clear I; intro g w I) | ((with_reducible refine galloc ?_); refine w_alloc I ?_; clear I; intro g w I) | ((with_reducible refine gload ?_); first | refine w_loadB I (by rfl) (by first | (with_reducible repeat (first | exact .here | apply At.there)); done | repeat (first | exact .here | apply At.there)) (by rfl) ?_ | refine w_loadBR I (by rfl) (by first | (with_reducible repeat (first | exact .here | apply At.there)); done | repeat (first | exact .here | apply At.there)) (by rfl) ?_ | refine w_load0 I (by rfl) (by assumption) ?_) | ((with_reducible refine gstore ?_); (first | refine w_storeB I (by rfl) (by (conv => lhs; whnf) <;> rfl) (by first | (with_reducible repeat (first | exact .here | apply Upd.there)); done | repeat (first | exact .here | apply Upd.there)) (by rfl) (by rfl) (by simp only [List.set_cons_zero, List.set_cons_succ] <;> rfl) ?_ | refine w_storeBR I (by rfl) (by rfl) (by first | (with_reducible repeat (first | exact .here | apply Upd.there)); done | repeat (first | exact .here | apply Upd.there)) (by rfl) (by rfl) (by rfl) ?_); clear I; intro w I)) | (go_at_call 75; go_must (refine (octets_NewReader _ [] (by simp) _ _ _ I (I.slv .here encB_len)).mono ?_; rintro _ w1 ⟨gh, rfl, I1⟩; clear I; have I := I1; clear I1)))
            go_upto_region 22 with (first | (first | ((with_reducible refine gguard ?_); (first | refine w_guardT (by rfl) (fun hb => ?_) (fun hb => ?_) | refine w_guardF (by rfl) (fun hb => ?_) (fun hb => ?_)) <;> first | (cases hb; done) | cases hb | ((try rw [hb]) <;> (try simp at hb) <;> go_prune <;> (try (with_reducible replace hb := eqPair hb)))) | (((with_reducible refine gbox ?_); first | refine w_boxA I (by rfl) ?_ | refine w_box1 I (by (conv => lhs; whnf) <;> rfl) (by rfl) ?_); clear I; intro g w I) | ((with_reducible refine galloc ?_); refine w_alloc I ?_; clear I; intro g w I) | ((with_reducible refine gload ?_); first | refine w_loadB I (by rfl) (by first | (with_reducible repeat (first | exact .here | apply At.there)); done | repeat (first | exact .here | apply At.there)) (by rfl) ?_ | refine w_loadBR I (by rfl) (by first | (with_reducible repeat (first | exact .here | apply At.there)); done | repeat (first | exact .here | apply At.there)) (by rfl) ?_ | refine w_load0 I (by rfl) (by assumption) ?_) | ((with_reducible refine gstore ?_); (first | refine w_storeB I (by rfl) (by (conv => lhs; whnf) <;> rfl) (by first | (with_reducible repeat (first | exact .here | apply Upd.there)); done | repeat (first | exact .here | apply Upd.there)) (by rfl) (by rfl) (by simp only [List.set_cons_zero, List.set_cons_succ] <;> rfl) ?_ | refine w_storeBR I (by rfl) (by rfl) (by first | (with_reducible repeat (first | exact .here | apply Upd.there)); done | repeat (first | exact .here | apply Upd.there)) (by rfl) (by rfl) (by rfl) ?_); clear I; intro w I)) | (go_at_call 75; go_must (refine (octets_NewReader _ [] (by simp) _ _ _ I (SlV.nil _ _ _)).mono ?_; rintro _ w1 ⟨gn, rfl, I1⟩; clear I; have I := I1; clear I1)))
            replace I := (I.take (A := Re gh ([], 0)) (by first | (with_reducible repeat (first | exact .here | apply At.there)); done | repeat (first | exact .here | apply At.there))).take (A := Re gr ([7], 0)) (by first | (with_reducible repeat (first | exact .here | apply At.there)); done | repeat (first | exact .here | apply At.there))
            obtain ⟨M, I0⟩ : ∃ M, St w0 w1 (Re gr ([7], 0) :: Re gh ([], 0) :: M) := ⟨_, I⟩
            clear I
            go_wp2_with fail
            go_loopw [11] (fun i wr' => i = .int .i64 0 ∧ St w0 wr' (Re gr ([7], 0) :: Re gh ([], 0) :: M)) (fun i _ => 0)
            case atStart => exact ⟨rfl, I0⟩
            case round =>
              clear I0
              obtain ⟨rfl, I⟩ := hrel
              have e1 : Hid (Oct.left ([7], 0) = 1) := Lib.hid rfl
              have e2 : Hid (Oct.done ([7], 0) = 2) := Lib.hid rfl
              have e3 : Hid (Oct.left ([], 0) = 0) := Lib.hid rfl
              have e4 : Hid (Oct.done ([], 0) = 0) := Lib.hid rfl
              go_wp2_with (first | (first | ((with_reducible refine gguard ?_); (first | refine w_guardT (by rfl) (fun hb => ?_) (fun hb => ?_) | refine w_guardF (by rfl) (fun hb => ?_) (fun hb => ?_)) <;> first | (cases hb; done) | cases hb | ((try rw [hb]) <;> (try simp at hb) <;> go_prune <;> (try (with_reducible replace hb := eqPair hb)))) | (((with_reducible refine gbox ?_); first | refine w_boxA I (by rfl) ?_ | refine w_box1 I (by (conv => lhs; whnf) <;> rfl) (by rfl) ?_); clear I; intro g w I) | ((with_reducible refine galloc ?_); refine w_alloc I ?_; clear I; intro g w I) | ((with_reducible refine gload ?_); first | refine w_loadB I (by rfl) (by first | (with_reducible repeat (first | exact .here | apply At.there)); done | repeat (first | exact .here | apply At.there)) (by rfl) ?_ | refine w_loadBR I (by rfl) (by first | (with_reducible repeat (first | exact .here | apply At.there)); done | repeat (first | exact .here | apply At.there)) (by rfl) ?_ | refine w_load0 I (by rfl) (by assumption) ?_) | ((with_reducible refine gstore ?_); (first | refine w_storeB I (by rfl) (by (conv => lhs; whnf) <;> rfl) (by first | (with_reducible repeat (first | exact .here | apply Upd.there)); done | repeat (first | exact .here | apply Upd.there)) (by rfl) (by rfl) (by simp only [List.set_cons_zero, List.set_cons_succ] <;> rfl) ?_ | refine w_storeBR I (by rfl) (by rfl) (by first | (with_reducible repeat (first | exact .here | apply Upd.there)); done | repeat (first | exact .here | apply Upd.there)) (by rfl) (by rfl) (by rfl) ?_); clear I; intro w I)) | (go_at_call 64; go_must (refine (law04_alive _).mono ?_; rintro _ w1 ⟨rfl, hf⟩; replace I := I.still hf; clear hf)) | (go_at_call 84; ((with_reducible refine (octets_RLeft gr _ w0 _ _ _ I .here).mono ?_); rintro _ w1 ⟨rfl, rfl⟩; rw [e1.out])) | (go_at_call 86; ((with_reducible refine (octets_RDone gr _ w0 _ _ _ I .here).mono ?_); rintro _ w1 ⟨rfl, rfl⟩; rw [e2.out])) | (go_at_call 84; ((with_reducible refine (octets_RLeft gh _ w0 _ _ _ I (.there .here)).mono ?_); rintro _ w1 ⟨rfl, rfl⟩; rw [e3.out])) | (go_at_call 86; ((with_reducible refine (octets_RDone gh _ w0 _ _ _ I (.there .here)).mono ?_); rintro _ w1 ⟨rfl, rfl⟩; rw [e4.out])))
              all_goals (go_ret; exact ⟨rfl, I.fr⟩)
          · have hFl : (0 : Int) < ((l.flatMap piece).length : Int) := by have := List.length_pos_iff.2 hF; omega
            have D0 := Lib.hid (show l.flatMap piece = (l.drop 0).flatMap piece from rfl)
            generalize l.flatMap piece = F at *
            go_upto_region 20 with (first | (first | ((with_reducible refine gguard ?_); (first | refine w_guardT (by rfl) (fun hb => ?_) (fun hb => ?_) | refine w_guardF (by rfl) (fun hb => ?_) (fun hb => ?_)) <;> first | (cases hb; done) | cases hb | ((try rw [hb]) <;> (try simp at hb) <;> go_prune <;> (try (with_reducible replace hb := eqPair hb)))) | (((with_reducible refine gbox ?_); first | refine w_boxA I (by rfl) ?_ | refine w_box1 I (by (conv => lhs; whnf) <;> rfl) (by rfl) ?_); clear I; intro g w I) | ((with_reducible refine galloc ?_); refine w_alloc I ?_; clear I; intro g w I) | ((with_reducible refine gload ?_); first | refine w_loadB I (by rfl) (by first | (with_reducible repeat (first | exact .here | apply At.there)); done | repeat (first | exact .here | apply At.there)) (by rfl) ?_ | refine w_loadBR I (by rfl) (by first | (with_reducible repeat (first | exact .here | apply At.there)); done | repeat (first | exact .here | apply At.there)) (by rfl) ?_ | refine w_load0 I (by rfl) (by assumption) ?_) | ((with_reducible refine gstore ?_); (first | refine w_storeB I (by rfl) (by (conv => lhs; whnf) <;> rfl) (by first | (with_reducible repeat (first | exact .here | apply Upd.there)); done | repeat (first | exact .here | apply Upd.there)) (by rfl) (by rfl) (by simp only [List.set_cons_zero, List.set_cons_succ] <;> rfl) ?_ | refine w_storeBR I (by rfl) (by rfl) (by first | (with_reducible repeat (first | exact .here | apply Upd.there)); done | repeat (first | exact .here | apply Upd.there)) (by rfl) (by rfl) (by rfl) ?_); clear I; intro w I)) | (((with_reducible refine gbs0 ?_); refine w_bs0 (enc := encB) encB_len I ?_); clear I; intro g w I) | (((with_reducible refine gbs ?_); refine w_bs1 (enc := encB) (b := (7 : UInt8)) encB_len I (by rfl) (by rfl) (by rfl) ?_); clear I; intro g w I) | ((with_reducible refine gappend ?_); refine w_append encB_len encB_one (by decide) I (by rfl) (by first | (with_reducible repeat (first | exact .here | apply At.there)); done | repeat (first | exact .here | apply At.there)) (by rfl) (l2 := F) (I.slv (.there .here) encB_len) (by first | omega | (simp <;> omega)) (by unfold maxLen; first | omega | (simp <;> omega)) ?_; clear I; intro A m c w I) | ((with_reducible refine gappend ?_); refine w_append encB_len encB_one (by decide) I (by rfl) (by first | (with_reducible repeat (first | exact .here | apply At.there)); done | repeat (first | exact .here | apply At.there)) (by rfl) (l2 := [7]) (I.slv .here encB_len) (by first | omega | (simp <;> omega)) (by unfold maxLen; first | omega | (simp <;> omega)) ?_; clear I; intro A m c w I) | (go_at_call 75; go_must (refine (octets_NewReader _ (F ++ [7]) (by simp; omega) _ _ _ I (I.slv .here encB_len)).mono ?_; rintro _ w1 ⟨gr, rfl, I1⟩; clear I; have I := I1; clear I1)))
            replace I := I.take (A := OwnS 5 1 encB (.slice Ab F.length cb) F) (by first | (with_reducible repeat (first | exact .here | apply At.there)); done | repeat (first | exact .here | apply At.there))
            go_upto_region 21 with (first | (first | ((with_reducible refine gguard ?_); (first | refine w_guardT (by rfl) (fun hb => ?_) (fun hb => ?_) | refine w_guardF (by rfl) (fun hb => ?_) (fun hb => ?_)) <;> first | (cases hb; done) | cases hb | ((try rw [hb]) <;> (try simp at hb) <;> go_prune <;> (try (with_reducible replace hb := eqPair hb)))) | (((with_reducible refine gbox ?_); first | refine w_boxA I (by rfl) ?_ | refine w_box1 I (by (conv => lhs; whnf) <;> rfl) (by rfl) ?_); clear I; intro g w I) | ((with_reducible refine galloc ?_); refine w_alloc I ?_; clear I; intro g w I) | ((with_reducible refine gload ?_); first | refine w_loadB I (by rfl) (by first | (with_reducible repeat (first | exact .here | apply At.there)); done | repeat (first | exact .here | apply At.there)) (by rfl) ?_ | refine w_loadBR I (by rfl) (by first | (with_reducible repeat (first | exact .here | apply At.there)); done | repeat (first | exact .here | apply At.there)) (by rfl) ?_ | refine w_load0 I (by rfl) (by assumption) ?_) | ((with_reducible refine gstore ?_); (first | refine w_storeB I (by rfl) (by (conv => lhs; whnf) <;> rfl) (by first | (with_reducible repeat (first | exact .here | apply Upd.there)); done | repeat (first | exact .here | apply Upd.there)) (by rfl) (by rfl) (by simp only [List.set_cons_zero, List.set_cons_succ] <;> rfl) ?_ | refine w_storeBR I (by rfl) (by rfl) (by first | (with_reducible repeat (first | exact .here | apply Upd.there)); done | repeat (first | exact .here | apply Upd.there)) (by rfl) (by rfl) (by rfl) ?_); clear I; intro w I)) | (go_at_call 75; go_must (refine (octets_NewReader _ F (by omega) _ _ _ I (I.slv .here encB_len)).mono ?_; rintro _ w1 ⟨gh, rfl, I1⟩; clear I; have I := I1; clear I1)))
            go_upto_region 22 with (first | (first | ((with_reducible refine gguard ?_); (first | refine w_guardT (by rfl) (fun hb => ?_) (fun hb => ?_) | refine w_guardF (by rfl) (fun hb => ?_) (fun hb => ?_)) <;> first | (cases hb; done) | cases hb | ((try rw [hb]) <;> (try simp at hb) <;> go_prune <;> (try (with_reducible replace hb := eqPair hb)))) | (((with_reducible refine gbox ?_); first | refine w_boxA I (by rfl) ?_ | refine w_box1 I (by (conv => lhs; whnf) <;> rfl) (by rfl) ?_); clear I; intro g w I) | ((with_reducible refine galloc ?_); refine w_alloc I ?_; clear I; intro g w I) | ((with_reducible refine gload ?_); first | refine w_loadB I (by rfl) (by first | (with_reducible repeat (first | exact .here | apply At.there)); done | repeat (first | exact .here | apply At.there)) (by rfl) ?_ | refine w_loadBR I (by rfl) (by first | (with_reducible repeat (first | exact .here | apply At.there)); done | repeat (first | exact .here | apply At.there)) (by rfl) ?_ | refine w_load0 I (by rfl) (by assumption) ?_) | ((with_reducible refine gstore ?_); (first | refine w_storeB I (by rfl) (by (conv => lhs; whnf) <;> rfl) (by first | (with_reducible repeat (first | exact .here | apply Upd.there)); done | repeat (first | exact .here | apply Upd.there)) (by rfl) (by rfl) (by simp only [List.set_cons_zero, List.set_cons_succ] <;> rfl) ?_ | refine w_storeBR I (by rfl) (by rfl) (by first | (with_reducible repeat (first | exact .here | apply Upd.there)); done | repeat (first | exact .here | apply Upd.there)) (by rfl) (by rfl) (by rfl) ?_); clear I; intro w I)) | (go_at_call 75; go_must (refine (octets_NewReader _ [] (by simp) _ _ _ I (SlV.nil _ _ _)).mono ?_; rintro _ w1 ⟨gn, rfl, I1⟩; clear I; have I := I1; clear I1)))
            replace I := I.take (A := OwnS 5 1 encB (.slice Ab F.length cb) F) (by first | (with_reducible repeat (first | exact .here | apply At.there)); done | repeat (first | exact .here | apply At.there))
            have HSh : Hid (∀ wx, Bytes wx (.slice Ab F.length cb) F → Bytes wx (.slice Ab (F.length - 1) cb) F.dropLast) := Lib.hid (fun wx h => by rw [List.dropLast_eq_take]; exact h.take _ (by omega))
            have hdl : F.dropLast.length ≤ F.length := by rw [List.length_dropLast]; omega
            go_upto_region 24 with (first | (first | ((with_reducible refine gguard ?_); (first | refine w_guardT (by rfl) (fun hb => ?_) (fun hb => ?_) | refine w_guardF (by rfl) (fun hb => ?_) (fun hb => ?_)) <;> first | (cases hb; done) | cases hb | ((try rw [hb]) <;> (try simp at hb) <;> go_prune <;> (try (with_reducible replace hb := eqPair hb)))) | (((with_reducible refine gbox ?_); first | refine w_boxA I (by rfl) ?_ | refine w_box1 I (by (conv => lhs; whnf) <;> rfl) (by rfl) ?_); clear I; intro g w I) | ((with_reducible refine galloc ?_); refine w_alloc I ?_; clear I; intro g w I) | ((with_reducible refine gload ?_); first | refine w_loadB I (by rfl) (by first | (with_reducible repeat (first | exact .here | apply At.there)); done | repeat (first | exact .here | apply At.there)) (by rfl) ?_ | refine w_loadBR I (by rfl) (by first | (with_reducible repeat (first | exact .here | apply At.there)); done | repeat (first | exact .here | apply At.there)) (by rfl) ?_ | refine w_load0 I (by rfl) (by assumption) ?_) | ((with_reducible refine gstore ?_); (first | refine w_storeB I (by rfl) (by (conv => lhs; whnf) <;> rfl) (by first | (with_reducible repeat (first | exact .here | apply Upd.there)); done | repeat (first | exact .here | apply Upd.there)) (by rfl) (by rfl) (by simp only [List.set_cons_zero, List.set_cons_succ] <;> rfl) ?_ | refine w_storeBR I (by rfl) (by rfl) (by first | (with_reducible repeat (first | exact .here | apply Upd.there)); done | repeat (first | exact .here | apply Upd.there)) (by rfl) (by rfl) (by rfl) ?_); clear I; intro w I)) | (go_at_call 75; go_must (refine (octets_NewReader _ F.dropLast (by omega) _ _ _ I (HSh.out _ (I.slv .here encB_len))).mono ?_; rintro _ w1 ⟨gs, rfl, I1⟩; clear I; have I := I1; clear I1)))
            replace I := ((I.drop (A := OwnS 5 1 encB (.slice Ab F.length cb) F) (by first | (with_reducible repeat (first | exact .here | apply At.there)); done | repeat (first | exact .here | apply At.there))).take (A := Re gh (F, 0)) (by first | (with_reducible repeat (first | exact .here | apply At.there)); done | repeat (first | exact .here | apply At.there))).take (A := Re gr (F ++ [7], 0)) (by first | (with_reducible repeat (first | exact .here | apply At.there)); done | repeat (first | exact .here | apply At.there))
            obtain ⟨M, I0⟩ : ∃ M, St w0 w1 (Re gr (F ++ [7], 0) :: Re gh (F, 0) :: Re gs (F.dropLast, 0) :: M) := ⟨_, I⟩
            clear I
            have HSt : Hid (Short F (F.dropLast, 0)) := Lib.hid ⟨fun _ => rfl, fun h => absurd h hF⟩
            go_wp2_with fail
            go_loopw [11] (fun i wr' => ∃ (k : Nat) (D : List UInt8) (s : List UInt8 × Int), i = .int .i64 k ∧ k ≤ l.length ∧ D = (l.drop k).flatMap piece ∧ D.length ≤ 20000 ∧ s.1.length ≤ 20000 ∧ Short D s ∧ St w0 wr' (Re gr (D ++ [7], 0) :: Re gh (D, 0) :: Re gs s :: M)) (fun i _ => l.length - (intOf i).toNat)
            case atStart => exact ⟨0, F, _, rfl, by omega, D0.out, by omega, by dsimp only; omega, HSt.out, I0⟩
            case round =>
              clear I0 HSt HSh hdl D0 hF
              obtain ⟨k, D, s, rfl, hk, hD, hDl, hsl, hsh, I⟩ := hrel
              by_cases hlt : k < l.length
              · obtain ⟨b, o, A', c', rfl, h0, h1, h2, h3, h4, h5⟩ := atT HS.out k hlt
                have hfx := Lib.hid (HFi.out l[k] (List.getElem_mem hlt))
                have HB := Lib.hid h4
                have HN := Lib.hid h5
                rw [flat_drop l k hlt] at hD
                have hkl : (k : Int) < (l.length : Int) := by omega
                generalize l[k] = x at *
                obtain ⟨D', hD'⟩ : ∃ D', D' = (l.drop (k + 1)).flatMap piece := ⟨_, rfl⟩
                rw [← hD'] at hD
                replace hD' := Lib.hid hD'
                subst hD
                have hDl' : D'.length ≤ 20000 := by rw [List.length_append] at hDl; omega
                have hsh' := Lib.hid (short_next x D' s hfx.out hsh)
                have hsl' := rd_left s x
                have hbd : s.1.length ≤ 1000000 := by omega
                have hb1 : (piece x ++ D' ++ [7]).length ≤ 1000000 := by rw [List.length_append]; simp only [List.length_cons, List.length_nil]; omega
                have hb2 : (piece x ++ D').length ≤ 1000000 := by omega
                have HI := Lib.hid I
                clear h4 h5 hsh I
                have h4 : (x.kind.toNat : Int) % 4 = 0 ∨ (x.kind.toNat : Int) % 4 = 1 ∨ (x.kind.toNat : Int) % 4 = 2 ∨ (x.kind.toNat : Int) % 4 = 3 := by omega
                rcases h4 with h4 | h4 | h4 | h4
                · have HA := octets_RNumA gr (piece x ++ D' ++ [7], 0) x.size hb1 w0
                  have HC := octets_RNumA gh (piece x ++ D', 0) x.size hb2 w0
                  have HE := octets_RNumA gs s x.size hbd w0
                  rw [← r_0 s x h4] at HE
                  rw [List.append_assoc] at HA
                  rw [rd_0 x _ hfx.out h4] at HA HC
                  have I := HI.out
                  rw [List.append_assoc] at I
                  replace HA := Lib.hid HA
                  replace HC := Lib.hid HC
                  replace HE := Lib.hid HE
                  generalize rd s x = s' at *
                  clear HI hb1 hb2 hDl
                  generalize piece x ++ (D' ++ [7]) = P1 at *
                  generalize piece x ++ D' = P2 at *
                  have f1 := fun w' (hf : Fr w0 w') => hf.cell h1
                  have f2 := fun w' (hf : Fr w0 w') => hf.cell h2
                  go_upto_region 34 with (first | ((with_reducible refine gguard ?_); (first | refine w_guardT (by rfl) (fun hb => ?_) (fun hb => ?_) | refine w_guardF (by rfl) (fun hb => ?_) (fun hb => ?_)) <;> first | (cases hb; done) | cases hb | ((try rw [hb]) <;> (try simp at hb) <;> go_prune <;> (try (with_reducible replace hb := eqPair hb)))) | (((with_reducible refine gbox ?_); first | refine w_boxA I (by rfl) ?_ | refine w_box1 I (by (conv => lhs; whnf) <;> rfl) (by rfl) ?_); clear I; intro g w I) | ((with_reducible refine galloc ?_); refine w_alloc I ?_; clear I; intro g w I) | ((with_reducible refine gload ?_); first | refine w_loadB I (by rfl) (by first | (with_reducible repeat (first | exact .here | apply At.there)); done | repeat (first | exact .here | apply At.there)) (by rfl) ?_ | refine w_loadBR I (by rfl) (by first | (with_reducible repeat (first | exact .here | apply At.there)); done | repeat (first | exact .here | apply At.there)) (by rfl) ?_ | refine w_load0 I (by rfl) (by assumption) ?_) | ((with_reducible refine gstore ?_); (first | refine w_storeB I (by rfl) (by (conv => lhs; whnf) <;> rfl) (by first | (with_reducible repeat (first | exact .here | apply Upd.there)); done | repeat (first | exact .here | apply Upd.there)) (by rfl) (by rfl) (by simp only [List.set_cons_zero, List.set_cons_succ] <;> rfl) ?_ | refine w_storeBR I (by rfl) (by rfl) (by first | (with_reducible repeat (first | exact .here | apply Upd.there)); done | repeat (first | exact .here | apply Upd.there)) (by rfl) (by rfl) (by rfl) ?_); clear I; intro w I))
                  go_region_held3 (fun w' => Fr w0 w') (first | assumption | exact I.fr.drew | exact St.fr (by assumption)) (first | (go_at_call 76; ((with_reducible refine (HA.out _ _ _ I.drew (by first | (with_reducible repeat (first | exact .here | apply At.there)); done | repeat (first | exact .here | apply At.there))).mono ?_); rintro _ w1 ⟨rfl, S1⟩)) | (go_at_call 76; ((with_reducible refine (HC.out _ _ _ S1 (by first | (with_reducible repeat (first | exact .here | apply At.there)); done | repeat (first | exact .here | apply At.there))).mono ?_); rintro _ w1 ⟨rfl, S2⟩)))
                  clear I f1 f2
                  have I := S2
                  go_upto_region 42 with (first | (first | ((with_reducible refine gguard ?_); (first | refine w_guardT (by rfl) (fun hb => ?_) (fun hb => ?_) | refine w_guardF (by rfl) (fun hb => ?_) (fun hb => ?_)) <;> first | (cases hb; done) | cases hb | ((try rw [hb]) <;> (try simp at hb) <;> go_prune <;> (try (with_reducible replace hb := eqPair hb)))) | (((with_reducible refine gbox ?_); first | refine w_boxA I (by rfl) ?_ | refine w_box1 I (by (conv => lhs; whnf) <;> rfl) (by rfl) ?_); clear I; intro g w I) | ((with_reducible refine galloc ?_); refine w_alloc I ?_; clear I; intro g w I) | ((with_reducible refine gload ?_); first | refine w_loadB I (by rfl) (by first | (with_reducible repeat (first | exact .here | apply At.there)); done | repeat (first | exact .here | apply At.there)) (by rfl) ?_ | refine w_loadBR I (by rfl) (by first | (with_reducible repeat (first | exact .here | apply At.there)); done | repeat (first | exact .here | apply At.there)) (by rfl) ?_ | refine w_load0 I (by rfl) (by assumption) ?_) | ((with_reducible refine gstore ?_); (first | refine w_storeB I (by rfl) (by (conv => lhs; whnf) <;> rfl) (by first | (with_reducible repeat (first | exact .here | apply Upd.there)); done | repeat (first | exact .here | apply Upd.there)) (by rfl) (by rfl) (by simp only [List.set_cons_zero, List.set_cons_succ] <;> rfl) ?_ | refine w_storeBR I (by rfl) (by rfl) (by first | (with_reducible repeat (first | exact .here | apply Upd.there)); done | repeat (first | exact .here | apply Upd.there)) (by rfl) (by rfl) (by rfl) ?_); clear I; intro w I)) | (go_at_call 76; ((with_reducible refine (HE.out _ _ _ I (by first | (with_reducible repeat (first | exact .here | apply At.there)); done | repeat (first | exact .here | apply At.there))).mono ?_); rintro _ w1 ⟨rfl, S3⟩)))
                  replace I := (S3.take (A := Re gh (D', 0)) (by first | (with_reducible repeat (first | exact .here | apply At.there)); done | repeat (first | exact .here | apply At.there))).take (A := Re gr (D' ++ [7], 0)) (by first | (with_reducible repeat (first | exact .here | apply At.there)); done | repeat (first | exact .here | apply At.there))
                  clear S1 S2 S3
                  go_wp2_with fail
                  go_roundw
                  case rel => exact ⟨k + 1, D', _, by go_num, by omega, hD'.out, by omega, by omega, hsh'.out, I⟩
                  case measure => simp [intOf]; omega
                · have HA := octets_RInt gr (piece x ++ D' ++ [7], 0) hb1 w0
                  have HC := octets_RInt gh (piece x ++ D', 0) hb2 w0
                  have HE := octets_RInt gs s hbd w0
                  rw [← r_1 s x h4] at HE
                  rw [List.append_assoc] at HA
                  rw [rd_1 x _ hfx.out h4] at HA HC
                  have I := HI.out
                  rw [List.append_assoc] at I
                  replace HA := Lib.hid HA
                  replace HC := Lib.hid HC
                  replace HE := Lib.hid HE
                  generalize rd s x = s' at *
                  clear HI hb1 hb2 hDl
                  generalize piece x ++ (D' ++ [7]) = P1 at *
                  generalize piece x ++ D' = P2 at *
                  have hq := i64_conv x.n HN.out
                  generalize Oct.i64 x.n = q at *
                  have f1 := fun w' (hf : Fr w0 w') => hf.cell h1
                  go_upto_region 37 with (first | ((with_reducible refine gguard ?_); (first | refine w_guardT (by rfl) (fun hb => ?_) (fun hb => ?_) | refine w_guardF (by rfl) (fun hb => ?_) (fun hb => ?_)) <;> first | (cases hb; done) | cases hb | ((try rw [hb]) <;> (try simp at hb) <;> go_prune <;> (try (with_reducible replace hb := eqPair hb)))) | (((with_reducible refine gbox ?_); first | refine w_boxA I (by rfl) ?_ | refine w_box1 I (by (conv => lhs; whnf) <;> rfl) (by rfl) ?_); clear I; intro g w I) | ((with_reducible refine galloc ?_); refine w_alloc I ?_; clear I; intro g w I) | ((with_reducible refine gload ?_); first | refine w_loadB I (by rfl) (by first | (with_reducible repeat (first | exact .here | apply At.there)); done | repeat (first | exact .here | apply At.there)) (by rfl) ?_ | refine w_loadBR I (by rfl) (by first | (with_reducible repeat (first | exact .here | apply At.there)); done | repeat (first | exact .here | apply At.there)) (by rfl) ?_ | refine w_load0 I (by rfl) (by assumption) ?_) | ((with_reducible refine gstore ?_); (first | refine w_storeB I (by rfl) (by (conv => lhs; whnf) <;> rfl) (by first | (with_reducible repeat (first | exact .here | apply Upd.there)); done | repeat (first | exact .here | apply Upd.there)) (by rfl) (by rfl) (by simp only [List.set_cons_zero, List.set_cons_succ] <;> rfl) ?_ | refine w_storeBR I (by rfl) (by rfl) (by first | (with_reducible repeat (first | exact .here | apply Upd.there)); done | repeat (first | exact .here | apply Upd.there)) (by rfl) (by rfl) (by rfl) ?_); clear I; intro w I))
                  go_region_held3 (fun w' => Fr w0 w') (first | assumption | exact I.fr.drew | exact St.fr (by assumption)) (first | (go_at_call 78; ((with_reducible refine (HA.out _ _ _ I.drew (by first | (with_reducible repeat (first | exact .here | apply At.there)); done | repeat (first | exact .here | apply At.there))).mono ?_); rintro _ w1 ⟨rfl, S1⟩)) | (go_at_call 78; ((with_reducible refine (HC.out _ _ _ S1 (by first | (with_reducible repeat (first | exact .here | apply At.there)); done | repeat (first | exact .here | apply At.there))).mono ?_); rintro _ w1 ⟨rfl, S2⟩)))
                  clear I f1
                  have I := S2
                  go_upto_region 42 with (first | (first | ((with_reducible refine gguard ?_); (first | refine w_guardT (by rfl) (fun hb => ?_) (fun hb => ?_) | refine w_guardF (by rfl) (fun hb => ?_) (fun hb => ?_)) <;> first | (cases hb; done) | cases hb | ((try rw [hb]) <;> (try simp at hb) <;> go_prune <;> (try (with_reducible replace hb := eqPair hb)))) | (((with_reducible refine gbox ?_); first | refine w_boxA I (by rfl) ?_ | refine w_box1 I (by (conv => lhs; whnf) <;> rfl) (by rfl) ?_); clear I; intro g w I) | ((with_reducible refine galloc ?_); refine w_alloc I ?_; clear I; intro g w I) | ((with_reducible refine gload ?_); first | refine w_loadB I (by rfl) (by first | (with_reducible repeat (first | exact .here | apply At.there)); done | repeat (first | exact .here | apply At.there)) (by rfl) ?_ | refine w_loadBR I (by rfl) (by first | (with_reducible repeat (first | exact .here | apply At.there)); done | repeat (first | exact .here | apply At.there)) (by rfl) ?_ | refine w_load0 I (by rfl) (by assumption) ?_) | ((with_reducible refine gstore ?_); (first | refine w_storeB I (by rfl) (by (conv => lhs; whnf) <;> rfl) (by first | (with_reducible repeat (first | exact .here | apply Upd.there)); done | repeat (first | exact .here | apply Upd.there)) (by rfl) (by rfl) (by simp only [List.set_cons_zero, List.set_cons_succ] <;> rfl) ?_ | refine w_storeBR I (by rfl) (by rfl) (by first | (with_reducible repeat (first | exact .here | apply Upd.there)); done | repeat (first | exact .here | apply Upd.there)) (by rfl) (by rfl) (by rfl) ?_); clear I; intro w I)) | (go_at_call 78; ((with_reducible refine (HE.out _ _ _ I (by first | (with_reducible repeat (first | exact .here | apply At.there)); done | repeat (first | exact .here | apply At.there))).mono ?_); rintro _ w1 ⟨rfl, S3⟩)))
                  replace I := (S3.take (A := Re gh (D', 0)) (by first | (with_reducible repeat (first | exact .here | apply At.there)); done | repeat (first | exact .here | apply At.there))).take (A := Re gr (D' ++ [7], 0)) (by first | (with_reducible repeat (first | exact .here | apply At.there)); done | repeat (first | exact .here | apply At.there))
                  clear S1 S2 S3
                  go_wp2_with fail
                  go_roundw
                  case rel => exact ⟨k + 1, D', _, by go_num, by omega, hD'.out, by omega, by omega, hsh'.out, I⟩
                  case measure => simp [intOf]; omega
                · have HA := octets_RBool gr (piece x ++ D' ++ [7], 0) hb1 w0
                  have HC := octets_RBool gh (piece x ++ D', 0) hb2 w0
                  have HE := octets_RBool gs s hbd w0
                  rw [← r_2 s x h4] at HE
                  rw [List.append_assoc] at HA
                  rw [rd_2 x _ h4] at HA HC
                  have I := HI.out
                  rw [List.append_assoc] at I
                  replace HE := Lib.hid HE
                  generalize rd s x = s' at *
                  clear HI hb1 hb2 hDl
                  generalize piece x ++ (D' ++ [7]) = P1 at *
                  generalize piece x ++ D' = P2 at *
                  have hpar : (x.n : Int) % 2 = 0 ∨ (x.n : Int) % 2 = 1 := by omega
                  rcases hpar with hp | hp
                  · have hpb : ((x.n : Int) % 2 == 1) = false := by rw [hp]; rfl
                    rw [hpb] at HA HC
                    have hpt : (x.n : Int).tmod 2 = 0 := by rw [Int.tmod_eq_emod_of_nonneg (by omega)]; exact hp
                    clear hp hpb
                    replace HA := Lib.hid HA
                    replace HC := Lib.hid HC
                    have f1 := fun w' (hf : Fr w0 w') => hf.cell h1
                    go_upto_region 40 with (first | ((with_reducible refine gguard ?_); (first | refine w_guardT (by rfl) (fun hb => ?_) (fun hb => ?_) | refine w_guardF (by rfl) (fun hb => ?_) (fun hb => ?_)) <;> first | (cases hb; done) | cases hb | ((try rw [hb]) <;> (try simp at hb) <;> go_prune <;> (try (with_reducible replace hb := eqPair hb)))) | (((with_reducible refine gbox ?_); first | refine w_boxA I (by rfl) ?_ | refine w_box1 I (by (conv => lhs; whnf) <;> rfl) (by rfl) ?_); clear I; intro g w I) | ((with_reducible refine galloc ?_); refine w_alloc I ?_; clear I; intro g w I) | ((with_reducible refine gload ?_); first | refine w_loadB I (by rfl) (by first | (with_reducible repeat (first | exact .here | apply At.there)); done | repeat (first | exact .here | apply At.there)) (by rfl) ?_ | refine w_loadBR I (by rfl) (by first | (with_reducible repeat (first | exact .here | apply At.there)); done | repeat (first | exact .here | apply At.there)) (by rfl) ?_ | refine w_load0 I (by rfl) (by assumption) ?_) | ((with_reducible refine gstore ?_); (first | refine w_storeB I (by rfl) (by (conv => lhs; whnf) <;> rfl) (by first | (with_reducible repeat (first | exact .here | apply Upd.there)); done | repeat (first | exact .here | apply Upd.there)) (by rfl) (by rfl) (by simp only [List.set_cons_zero, List.set_cons_succ] <;> rfl) ?_ | refine w_storeBR I (by rfl) (by rfl) (by first | (with_reducible repeat (first | exact .here | apply Upd.there)); done | repeat (first | exact .here | apply Upd.there)) (by rfl) (by rfl) (by rfl) ?_); clear I; intro w I))
                    go_region_held3 (fun w' => Fr w0 w') (first | assumption | exact I.fr.drew | exact St.fr (by assumption)) (first | (go_at_call 80; ((with_reducible refine (HA.out _ _ _ I.drew (by first | (with_reducible repeat (first | exact .here | apply At.there)); done | repeat (first | exact .here | apply At.there))).mono ?_); rintro _ w1 ⟨rfl, S1⟩)) | (go_at_call 80; ((with_reducible refine (HC.out _ _ _ S1 (by first | (with_reducible repeat (first | exact .here | apply At.there)); done | repeat (first | exact .here | apply At.there))).mono ?_); rintro _ w1 ⟨rfl, S2⟩)))
                    clear I f1
                    have I := S2
                    go_upto_region 42 with (first | (first | ((with_reducible refine gguard ?_); (first | refine w_guardT (by rfl) (fun hb => ?_) (fun hb => ?_) | refine w_guardF (by rfl) (fun hb => ?_) (fun hb => ?_)) <;> first | (cases hb; done) | cases hb | ((try rw [hb]) <;> (try simp at hb) <;> go_prune <;> (try (with_reducible replace hb := eqPair hb)))) | (((with_reducible refine gbox ?_); first | refine w_boxA I (by rfl) ?_ | refine w_box1 I (by (conv => lhs; whnf) <;> rfl) (by rfl) ?_); clear I; intro g w I) | ((with_reducible refine galloc ?_); refine w_alloc I ?_; clear I; intro g w I) | ((with_reducible refine gload ?_); first | refine w_loadB I (by rfl) (by first | (with_reducible repeat (first | exact .here | apply At.there)); done | repeat (first | exact .here | apply At.there)) (by rfl) ?_ | refine w_loadBR I (by rfl) (by first | (with_reducible repeat (first | exact .here | apply At.there)); done | repeat (first | exact .here | apply At.there)) (by rfl) ?_ | refine w_load0 I (by rfl) (by assumption) ?_) | ((with_reducible refine gstore ?_); (first | refine w_storeB I (by rfl) (by (conv => lhs; whnf) <;> rfl) (by first | (with_reducible repeat (first | exact .here | apply Upd.there)); done | repeat (first | exact .here | apply Upd.there)) (by rfl) (by rfl) (by simp only [List.set_cons_zero, List.set_cons_succ] <;> rfl) ?_ | refine w_storeBR I (by rfl) (by rfl) (by first | (with_reducible repeat (first | exact .here | apply Upd.there)); done | repeat (first | exact .here | apply Upd.there)) (by rfl) (by rfl) (by rfl) ?_); clear I; intro w I)) | (go_at_call 80; ((with_reducible refine (HE.out _ _ _ I (by first | (with_reducible repeat (first | exact .here | apply At.there)); done | repeat (first | exact .here | apply At.there))).mono ?_); rintro _ w1 ⟨rfl, S3⟩)))
                    replace I := (S3.take (A := Re gh (D', 0)) (by first | (with_reducible repeat (first | exact .here | apply At.there)); done | repeat (first | exact .here | apply At.there))).take (A := Re gr (D' ++ [7], 0)) (by first | (with_reducible repeat (first | exact .here | apply At.there)); done | repeat (first | exact .here | apply At.there))
                    clear S1 S2 S3
                    go_wp2_with fail
                    go_roundw
                    case rel => exact ⟨k + 1, D', _, by go_num, by omega, hD'.out, by omega, by omega, hsh'.out, I⟩
                    case measure => simp [intOf]; omega
                  · have hpb : ((x.n : Int) % 2 == 1) = true := by rw [hp]; rfl
                    rw [hpb] at HA HC
                    have hpt : (x.n : Int).tmod 2 = 1 := by rw [Int.tmod_eq_emod_of_nonneg (by omega)]; exact hp
                    clear hp hpb
                    replace HA := Lib.hid HA
                    replace HC := Lib.hid HC
                    have f1 := fun w' (hf : Fr w0 w') => hf.cell h1
                    go_upto_region 40 with (first | ((with_reducible refine gguard ?_); (first | refine w_guardT (by rfl) (fun hb => ?_) (fun hb => ?_) | refine w_guardF (by rfl) (fun hb => ?_) (fun hb => ?_)) <;> first | (cases hb; done) | cases hb | ((try rw [hb]) <;> (try simp at hb) <;> go_prune <;> (try (with_reducible replace hb := eqPair hb)))) | (((with_reducible refine gbox ?_); first | refine w_boxA I (by rfl) ?_ | refine w_box1 I (by (conv => lhs; whnf) <;> rfl) (by rfl) ?_); clear I; intro g w I) | ((with_reducible refine galloc ?_); refine w_alloc I ?_; clear I; intro g w I) | ((with_reducible refine gload ?_); first | refine w_loadB I (by rfl) (by first | (with_reducible repeat (first | exact .here | apply At.there)); done | repeat (first | exact .here | apply At.there)) (by rfl) ?_ | refine w_loadBR I (by rfl) (by first | (with_reducible repeat (first | exact .here | apply At.there)); done | repeat (first | exact .here | apply At.there)) (by rfl) ?_ | refine w_load0 I (by rfl) (by assumption) ?_) | ((with_reducible refine gstore ?_); (first | refine w_storeB I (by rfl) (by (conv => lhs; whnf) <;> rfl) (by first | (with_reducible repeat (first | exact .here | apply Upd.there)); done | repeat (first | exact .here | apply Upd.there)) (by rfl) (by rfl) (by simp only [List.set_cons_zero, List.set_cons_succ] <;> rfl) ?_ | refine w_storeBR I (by rfl) (by rfl) (by first | (with_reducible repeat (first | exact .here | apply Upd.there)); done | repeat (first | exact .here | apply Upd.there)) (by rfl) (by rfl) (by rfl) ?_); clear I; intro w I))
                    go_region_held3 (fun w' => Fr w0 w') (first | assumption | exact I.fr.drew | exact St.fr (by assumption)) (first | (go_at_call 80; ((with_reducible refine (HA.out _ _ _ I.drew (by first | (with_reducible repeat (first | exact .here | apply At.there)); done | repeat (first | exact .here | apply At.there))).mono ?_); rintro _ w1 ⟨rfl, S1⟩)) | (go_at_call 80; ((with_reducible refine (HC.out _ _ _ S1 (by first | (with_reducible repeat (first | exact .here | apply At.there)); done | repeat (first | exact .here | apply At.there))).mono ?_); rintro _ w1 ⟨rfl, S2⟩)))
                    clear I f1
                    have I := S2
                    go_upto_region 42 with (first | (first | ((with_reducible refine gguard ?_); (first | refine w_guardT (by rfl) (fun hb => ?_) (fun hb => ?_) | refine w_guardF (by rfl) (fun hb => ?_) (fun hb => ?_)) <;> first | (cases hb; done) | cases hb | ((try rw [hb]) <;> (try simp at hb) <;> go_prune <;> (try (with_reducible replace hb := eqPair hb)))) | (((with_reducible refine gbox ?_); first | refine w_boxA I (by rfl) ?_ | refine w_box1 I (by (conv => lhs; whnf) <;> rfl) (by rfl) ?_); clear I; intro g w I) | ((with_reducible refine galloc ?_); refine w_alloc I ?_; clear I; intro g w I) | ((with_reducible refine gload ?_); first | refine w_loadB I (by rfl) (by first | (with_reducible repeat (first | exact .here | apply At.there)); done | repeat (first | exact .here | apply At.there)) (by rfl) ?_ | refine w_loadBR I (by rfl) (by first | (with_reducible repeat (first | exact .here | apply At.there)); done | repeat (first | exact .here | apply At.there)) (by rfl) ?_ | refine w_load0 I (by rfl) (by assumption) ?_) | ((with_reducible refine gstore ?_); (first | refine w_storeB I (by rfl) (by (conv => lhs; whnf) <;> rfl) (by first | (with_reducible repeat (first | exact .here | apply Upd.there)); done | repeat (first | exact .here | apply Upd.there)) (by rfl) (by rfl) (by simp only [List.set_cons_zero, List.set_cons_succ] <;> rfl) ?_ | refine w_storeBR I (by rfl) (by rfl) (by first | (with_reducible repeat (first | exact .here | apply Upd.there)); done | repeat (first | exact .here | apply Upd.there)) (by rfl) (by rfl) (by rfl) ?_); clear I; intro w I)) | (go_at_call 80; ((with_reducible refine (HE.out _ _ _ I (by first | (with_reducible repeat (first | exact .here | apply At.there)); done | repeat (first | exact .here | apply At.there))).mono ?_); rintro _ w1 ⟨rfl, S3⟩)))
                    replace I := (S3.take (A := Re gh (D', 0)) (by first | (with_reducible repeat (first | exact .here | apply At.there)); done | repeat (first | exact .here | apply At.there))).take (A := Re gr (D' ++ [7], 0)) (by first | (with_reducible repeat (first | exact .here | apply At.there)); done | repeat (first | exact .here | apply At.there))
                    clear S1 S2 S3
                    go_wp2_with fail
                    go_roundw
                    case rel => exact ⟨k + 1, D', _, by go_num, by omega, hD'.out, by omega, by omega, hsh'.out, I⟩
                    case measure => simp [intOf]; omega
                · have HA := octets_RRun gr (piece x ++ D' ++ [7], 0) hb1 w0
                  have HC := octets_RRun gh (piece x ++ D', 0) hb2 w0
                  have HE := octets_RRun gs s hbd w0
                  rw [← r_3 s x h4] at HE
                  generalize (Oct.run s).1 = sr at HE
                  rw [List.append_assoc] at HA
                  rw [rd_3 x _ hfx.out h4] at HA HC
                  have I := HI.out
                  rw [List.append_assoc] at I
                  replace HA := Lib.hid HA
                  replace HC := Lib.hid HC
                  replace HE := Lib.hid HE
                  generalize rd s x = s' at *
                  clear HI hb1 hb2 hDl
                  generalize piece x ++ (D' ++ [7]) = P1 at *
                  generalize piece x ++ D' = P2 at *
                  go_upto_region 42 with (first | (first | ((with_reducible refine gguard ?_); (first | refine w_guardT (by rfl) (fun hb => ?_) (fun hb => ?_) | refine w_guardF (by rfl) (fun hb => ?_) (fun hb => ?_)) <;> first | (cases hb; done) | cases hb | ((try rw [hb]) <;> (try simp at hb) <;> go_prune <;> (try (with_reducible replace hb := eqPair hb)))) | (((with_reducible refine gbox ?_); first | refine w_boxA I (by rfl) ?_ | refine w_box1 I (by (conv => lhs; whnf) <;> rfl) (by rfl) ?_); clear I; intro g w I) | ((with_reducible refine galloc ?_); refine w_alloc I ?_; clear I; intro g w I) | ((with_reducible refine gload ?_); first | refine w_loadB I (by rfl) (by first | (with_reducible repeat (first | exact .here | apply At.there)); done | repeat (first | exact .here | apply At.there)) (by rfl) ?_ | refine w_loadBR I (by rfl) (by first | (with_reducible repeat (first | exact .here | apply At.there)); done | repeat (first | exact .here | apply At.there)) (by rfl) ?_ | refine w_load0 I (by rfl) (by assumption) ?_) | ((with_reducible refine gstore ?_); (first | refine w_storeB I (by rfl) (by (conv => lhs; whnf) <;> rfl) (by first | (with_reducible repeat (first | exact .here | apply Upd.there)); done | repeat (first | exact .here | apply Upd.there)) (by rfl) (by rfl) (by simp only [List.set_cons_zero, List.set_cons_succ] <;> rfl) ?_ | refine w_storeBR I (by rfl) (by rfl) (by first | (with_reducible repeat (first | exact .here | apply Upd.there)); done | repeat (first | exact .here | apply Upd.there)) (by rfl) (by rfl) (by rfl) ?_); clear I; intro w I)) | (go_at_call 82; ((with_reducible refine (HA.out _ _ _ I (by first | (with_reducible repeat (first | exact .here | apply At.there)); done | repeat (first | exact .here | apply At.there))).mono ?_); rintro _ w1 ⟨A1, m1, c1, rfl, S1⟩)) | (go_at_call 82; ((with_reducible refine (HC.out _ _ _ S1 (by first | (with_reducible repeat (first | exact .here | apply At.there)); done | repeat (first | exact .here | apply At.there))).mono ?_); rintro _ w1 ⟨A2, m2, c2, rfl, S2⟩)) | (go_at_call 82; ((with_reducible refine (HE.out _ _ _ S2 (by first | (with_reducible repeat (first | exact .here | apply At.there)); done | repeat (first | exact .here | apply At.there))).mono ?_); rintro _ w1 ⟨A3, m3, c3, rfl, S3⟩; clear I; have I := S3)) | (go_at_call 26; ((with_reducible refine (ref03_Same _ _ x.run x.run _ (I.slv (v := .slice A1 m1 c1) (by first | (with_reducible repeat (first | exact .here | apply At.there)); done | repeat (first | exact .here | apply At.there)) encB_len) (HB.out.frF I.fr)).mono ?_); rintro _ w1 ⟨rfl, hf⟩; simp only [beq_self_eq_true]; replace I := I.still hf.fr; clear hf)) | (go_at_call 26; ((with_reducible refine (ref03_Same _ _ x.run x.run _ (I.slv (v := .slice A2 m2 c2) (by first | (with_reducible repeat (first | exact .here | apply At.there)); done | repeat (first | exact .here | apply At.there)) encB_len) (HB.out.frF I.fr)).mono ?_); rintro _ w1 ⟨rfl, hf⟩; simp only [beq_self_eq_true]; replace I := I.still hf.fr; clear hf)))
                  replace I := ((((I.drop (A := OwnS 5 1 encB (.slice A1 m1 c1) x.run) (by first | (with_reducible repeat (first | exact .here | apply At.there)); done | repeat (first | exact .here | apply At.there))).drop (A := OwnS 5 1 encB (.slice A2 m2 c2) x.run) (by first | (with_reducible repeat (first | exact .here | apply At.there)); done | repeat (first | exact .here | apply At.there))).drop (A := OwnS 5 1 encB (.slice A3 m3 c3) sr) (by first | (with_reducible repeat (first | exact .here | apply At.there)); done | repeat (first | exact .here | apply At.there))))
                  replace I := ((((I.take (A := Re gs s') (by first | (with_reducible repeat (first | exact .here | apply At.there)); done | repeat (first | exact .here | apply At.there))).take (A := Re gh (D', 0)) (by first | (with_reducible repeat (first | exact .here | apply At.there)); done | repeat (first | exact .here | apply At.there))).take (A := Re gr (D' ++ [7], 0)) (by first | (with_reducible repeat (first | exact .here | apply At.there)); done | repeat (first | exact .here | apply At.there))))
                  clear S1 S2 S3
                  go_wp2_with fail
                  go_roundw
                  case rel => exact ⟨k + 1, D', _, by go_num, by omega, hD'.out, by omega, by omega, hsh'.out, I⟩
                  case measure => simp [intOf]; omega
              · obtain rfl : k = l.length := by omega
                have hkk : ¬ (l.length : Int) < (l.length : Int) := by omega
                rw [List.drop_length] at hD
                replace hD : D = [] := hD
                subst hD
                have e1 : Hid (Oct.left ([] ++ [7], 0) = 1) := Lib.hid rfl
                have e2 : Hid (Oct.done ([] ++ [7], 0) = 2) := Lib.hid rfl
                have e3 : Hid (Oct.left ([], 0) = 0) := Lib.hid rfl
                have e4 : Hid (Oct.done ([], 0) = 0) := Lib.hid rfl
                have e5 : Hid (Oct.done s = 2) := Lib.hid (by
                  have h2 := hsh.2 rfl
                  unfold Oct.done Oct.left
                  simp [h2])
                clear hsh
                go_wp2_with (first | (first | ((with_reducible refine gguard ?_); (first | refine w_guardT (by rfl) (fun hb => ?_) (fun hb => ?_) | refine w_guardF (by rfl) (fun hb => ?_) (fun hb => ?_)) <;> first | (cases hb; done) | cases hb | ((try rw [hb]) <;> (try simp at hb) <;> go_prune <;> (try (with_reducible replace hb := eqPair hb)))) | (((with_reducible refine gbox ?_); first | refine w_boxA I (by rfl) ?_ | refine w_box1 I (by (conv => lhs; whnf) <;> rfl) (by rfl) ?_); clear I; intro g w I) | ((with_reducible refine galloc ?_); refine w_alloc I ?_; clear I; intro g w I) | ((with_reducible refine gload ?_); first | refine w_loadB I (by rfl) (by first | (with_reducible repeat (first | exact .here | apply At.there)); done | repeat (first | exact .here | apply At.there)) (by rfl) ?_ | refine w_loadBR I (by rfl) (by first | (with_reducible repeat (first | exact .here | apply At.there)); done | repeat (first | exact .here | apply At.there)) (by rfl) ?_ | refine w_load0 I (by rfl) (by assumption) ?_) | ((with_reducible refine gstore ?_); (first | refine w_storeB I (by rfl) (by (conv => lhs; whnf) <;> rfl) (by first | (with_reducible repeat (first | exact .here | apply Upd.there)); done | repeat (first | exact .here | apply Upd.there)) (by rfl) (by rfl) (by simp only [List.set_cons_zero, List.set_cons_succ] <;> rfl) ?_ | refine w_storeBR I (by rfl) (by rfl) (by first | (with_reducible repeat (first | exact .here | apply Upd.there)); done | repeat (first | exact .here | apply Upd.there)) (by rfl) (by rfl) (by rfl) ?_); clear I; intro w I)) | (go_at_call 64; go_must (refine (law04_alive _).mono ?_; rintro _ w1 ⟨rfl, hf⟩; replace I := I.still hf; clear hf)) | (go_at_call 84; ((with_reducible refine (octets_RLeft gr _ w0 _ _ _ I .here).mono ?_); rintro _ w1 ⟨rfl, rfl⟩; rw [e1.out])) | (go_at_call 86; ((with_reducible refine (octets_RDone gr _ w0 _ _ _ I .here).mono ?_); rintro _ w1 ⟨rfl, rfl⟩; rw [e2.out])) | (go_at_call 84; ((with_reducible refine (octets_RLeft gh _ w0 _ _ _ I (.there .here)).mono ?_); rintro _ w1 ⟨rfl, rfl⟩; rw [e3.out])) | (go_at_call 86; ((with_reducible refine (octets_RDone gh _ w0 _ _ _ I (.there .here)).mono ?_); rintro _ w1 ⟨rfl, rfl⟩; rw [e4.out])) | (go_at_call 86; ((with_reducible refine (octets_RDone gs _ w0 _ _ _ I (.there (.there .here))).mono ?_); rintro _ w1 ⟨rfl, rfl⟩; rw [e5.out])))
                all_goals (go_ret; exact ⟨rfl, I.fr⟩)
        · rw [if_neg he] at I
          have hb : (s.2 != 0) = true := by simpa using he
          clear he hse
          obtain ⟨A2, c2, hv, _⟩ := (I.own .here).reads encB_len
          injection hv with v1 v2 v3
          subst v1 v2 v3
          go_wp2_with (first | (first | ((with_reducible refine gguard ?_); (first | refine w_guardT (by rfl) (fun hb => ?_) (fun hb => ?_) | refine w_guardF (by rfl) (fun hb => ?_) (fun hb => ?_)) <;> first | (cases hb; done) | cases hb | ((try rw [hb]) <;> (try simp at hb) <;> go_prune <;> (try (with_reducible replace hb := eqPair hb)))) | (((with_reducible refine gbox ?_); first | refine w_boxA I (by rfl) ?_ | refine w_box1 I (by (conv => lhs; whnf) <;> rfl) (by rfl) ?_); clear I; intro g w I) | ((with_reducible refine galloc ?_); refine w_alloc I ?_; clear I; intro g w I) | ((with_reducible refine gload ?_); first | refine w_loadB I (by rfl) (by first | (with_reducible repeat (first | exact .here | apply At.there)); done | repeat (first | exact .here | apply At.there)) (by rfl) ?_ | refine w_loadBR I (by rfl) (by first | (with_reducible repeat (first | exact .here | apply At.there)); done | repeat (first | exact .here | apply At.there)) (by rfl) ?_ | refine w_load0 I (by rfl) (by assumption) ?_) | ((with_reducible refine gstore ?_); (first | refine w_storeB I (by rfl) (by (conv => lhs; whnf) <;> rfl) (by first | (with_reducible repeat (first | exact .here | apply Upd.there)); done | repeat (first | exact .here | apply Upd.there)) (by rfl) (by rfl) (by simp only [List.set_cons_zero, List.set_cons_succ] <;> rfl) ?_ | refine w_storeBR I (by rfl) (by rfl) (by first | (with_reducible repeat (first | exact .here | apply Upd.there)); done | repeat (first | exact .here | apply Upd.there)) (by rfl) (by rfl) (by rfl) ?_); clear I; intro w I)) | (go_at_call 64; go_must (refine (law04_alive _).mono ?_; rintro _ w1 ⟨rfl, hf⟩; replace I := I.still hf; clear hf)))
          go_ret
          exact ⟨rfl, I.fr⟩

set_option maxRecDepth 100000 in
theorem walk {H : Type} {enc : TypeId × Value → H} (W : World) (base : Nat) (args : Array Value) (ds : List (DataW H)) (ps : List MemPlace) (hval : ∀ (j : Nat) t v, Try.f14.params[j]? = some t → args[j]? = some v → Value.okWide Try.prog W .any base t v)
    (hA : DataW.TrodAll enc Try.prog W 0 (fun _ => true) true Try.f14.params.toList args.toList ds ps) : Calls Try.prog 14 args W fun e W' => e = .returned (.bool true) ∧ Fr W W' := by
  rw [Try.params14] at hA
  obtain ⟨v0, vs0, d0, ds0, p0, q0, hargs, rfl, rfl, h0, r0⟩ := trodAll_cons hA
  obtain ⟨rfl, rfl, rfl⟩ := trodAll_nil r0
  obtain rfl : args = #[v0] := by cases args; simp_all
  rw [Try.params14] at hval
  obtain ⟨l, h⟩ := open_slv_arg Try.underlying87 (hval 0 _ v0 rfl rfl) h0 opens_things
  exact law v0 l W h

theorem own : ownKnob Try.prog.godebug = none := by kernel_rfl

set_option maxRecDepth 100000 in
theorem lifted (os : Os) (started : os.Started) (H : Type) (enc : TypeId × Value → H) :
    ReturnsInHanded {} Try.checked os 14 .any (Rows.octetsBackSpec.pre6 enc Try.prog Try.f14 Rows.octetsBackRow.domain false) (Rows.octetsBackSpec.post enc Try.prog Try.f14 false true false false) :=
  Hf.law_lifted (C := Try.checked) own started (by kernel_rfl) Try.func14
    (ChangeSpec.witness6 (enc := enc) (C := Try.checked) false ⟨#[], #[.slice none 0 0], []⟩ 8 (by kernel_rfl) (by kernel_rfl) (by kernel_rfl) (by kernel_rfl))
    rfl (by kernel_rfl) Try.underlying4 (by kernel_rfl) (by kernel_rfl)
    (by intro ds h; rw [Try.params14] at h; match ds, h with | [_], _ => rfl) walk

theorem over : Rows.octetsBackRow.holds Try.pinned (OpenSpec.ofChange Rows.octetsBackSpec) :=
  OpenClaim.holds_of_wide 14 Try.f14 rfl rfl rfl rfl rfl rfl rfl ⟨rfl, rfl, rfl, rfl, rfl⟩ rfl rfl rfl rfl rfl (by kernel_rfl) Try.func14 (by kernel_rfl)
    (of_decide_eq_true (by kernel_rfl)) (by unfold Func.isWrapper; first | (rw [if_pos (by decide +kernel)]; kernel_rfl) | (rw [if_neg (by decide +kernel)]; exact ⟨rfl, rfl⟩))
    (fun os started H enc _ => lifted os started H enc)

/-- The statement. -/
theorem proved : Rows.OctetsBackSaid := over
#print axioms proved
end Go.Proofs.Ythgmnlkblomcaaa.octetsBack
