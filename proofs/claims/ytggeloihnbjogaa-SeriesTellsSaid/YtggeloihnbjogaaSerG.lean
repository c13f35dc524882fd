
/- Readings (layer 6): the reference's At and Next. -/
import Derived.Test.YtggeloihnbjogaaSerZ
import Derived.Deep.RegionLaw
namespace Go.Proofs.Ytggeloihnbjogaa
open Go.RowKit Go.Hf
namespace Ser
def rns (m n : Int) (x : Rd) : Int := if m < x.m ∧ (n < 0 ∨ x.m < n) then x.m else n
def rn (l : List Rd) (m : Int) : Int := l.foldl (rns m) (-1)
theorem rn_snoc (l : List Rd) (m : Int) (x : Rd) : rn (l ++ [x]) m = rns m (rn l m) x := by unfold rn; rw [List.foldl_append]; rfl
def RnIs (l : List Rd) (m n : Int) : Prop := (n = -1 ∧ ∀ x ∈ l, x.m ≤ m) ∨ ∃ x ∈ l, n = x.m ∧ m < x.m ∧ ∀ y ∈ l, m < y.m → x.m ≤ y.m
theorem rn_is (m : Int) : ∀ (l M : List Rd) (n : Int), (∀ x ∈ M ++ l, 0 ≤ x.m) → RnIs M m n → RnIs (M ++ l) m (l.foldl (rns m) n)
  | [], M, n, _, h => by rw [List.append_nil]; exact h
  | x :: l, M, n, hp, h => by
    have h2 : RnIs (M ++ [x]) m (rns m n x) := by
      unfold rns
      rcases h with ⟨rfl, h⟩ | ⟨y, hy, rfl, hmy, hmin⟩
      · by_cases c : m < x.m
        · rw [if_pos ⟨c, .inl (by decide)⟩]
          refine .inr ⟨x, List.mem_append_right _ (List.mem_singleton.2 rfl), rfl, c, fun z hz hmz => ?_⟩
          rcases List.mem_append.1 hz with hz | hz
          · have := h z hz; omega
          · rw [List.mem_singleton.1 hz]; omega
        · rw [if_neg (fun e => c e.1)]
          refine .inl ⟨rfl, fun z hz => ?_⟩
          rcases List.mem_append.1 hz with hz | hz
          · exact h z hz
          · rw [List.mem_singleton.1 hz]; omega
      · have hy0 := hp y (List.mem_append_left _ hy)
        by_cases c : m < x.m ∧ x.m < y.m
        · rw [if_pos ⟨c.1, .inr c.2⟩]
          refine .inr ⟨x, List.mem_append_right _ (List.mem_singleton.2 rfl), rfl, c.1, fun z hz hmz => ?_⟩
          rcases List.mem_append.1 hz with hz | hz
          · have := hmin z hz hmz; omega
          · rw [List.mem_singleton.1 hz]; omega
        · rw [if_neg (by omega)]
          refine .inr ⟨y, List.mem_append_left _ hy, rfl, hmy, fun z hz hmz => ?_⟩
          rcases List.mem_append.1 hz with hz | hz
          · exact hmin z hz hmz
          · rw [List.mem_singleton.1 hz] at hmz ⊢; omega
    have := rn_is m l (M ++ [x]) (rns m n x) (by rw [List.append_assoc]; exact hp) h2
    rw [List.append_assoc] at this
    exact this
theorem rn_n0 {l s : List Rd} (hs : Sorted s) (hm : ∀ x, x ∈ l ↔ x ∈ s) (m : Int) (hp : ∀ x ∈ l, 0 ≤ x.m) : n0 s m = rn l m := by
  have h := rn_is m l [] (-1) (by simpa using hp) (.inl ⟨rfl, fun x hx => by cases hx⟩)
  rw [List.nil_append] at h
  change RnIs l m (rn l m) at h
  rcases h with ⟨h1, h2⟩ | ⟨x, hx, h1, h2, h3⟩
  · rw [h1]; exact n0_ref_none hs hm m h2
  · rw [h1]; exact n0_ref_some hs hm m x hx h2 h3
end Ser
set_option maxRecDepth 100000 in
set_option maxHeartbeats 1000000 in
theorem ref06_At (gr : Nat) (a b : Int) (l s : List Rd) (m : Int) (hsr : Ser.Sorted s) (hmem : ∀ x, x ∈ l ↔ x ∈ s) (hsm : ∀ y ∈ l, Ser.small y) (hm : -9223372036854775808 ≤ m ∧ m ≤ 9223372036854775807) (hl : l.length ≤ 10000) (w0 : World) (hs : SerIs w0 gr a b l) :
    Calls Try.prog 21 #[.pointer (some ⟨gr, 0, none⟩), .int .i64 m] w0 fun e w' => e = .returned (.int .i64 (Ser.air s a b m)) ∧ Fr w0 w' := by
  have HLa := Lib.hid (ref06_last gr a b l s m hsr hmem hsm hm hl)
  have HSI := Lib.hid hs
  obtain ⟨A, c, h0, h1, h2, hv⟩ := hs
  have I := St.refl w0
  have HE : Hid (Ser.air s a b m = match Ser.last s b m with | none => a | some x => x.t) := Lib.hid rfl
  generalize Ser.last s b m = q at *
  clear hv hsr hsm hmem
  cases q with
  | none =>
    dsimp only [Option.getD_none, Option.isSome_none] at HLa
    go_enter Try.func21, Try.ntmps21
    try dsimp only [List.append]
    go_wp2_with (first | (first | ((with_reducible refine gguard ?_); (first | refine w_guardT (by rfl) (fun hb => ?_) (fun hb => ?_) | refine w_guardF (by rfl) (fun hb => ?_) (fun hb => ?_)) <;> first | (cases hb; done) | cases hb | ((try rw [hb]) <;> (try simp at hb) <;> go_prune <;> (try (with_reducible replace hb := eqPair hb)))) | (((with_reducible refine gbox ?_); first | refine w_boxA I (by rfl) ?_ | refine w_box1 I (by (conv => lhs; whnf) <;> rfl) (by rfl) ?_); clear I; intro g w I) | ((with_reducible refine galloc ?_); refine w_alloc I ?_; clear I; intro g w I) | ((with_reducible refine gload ?_); first | refine w_loadB I (by rfl) (by first | (with_reducible repeat (first | exact .here | apply At.there)); done | repeat (first | exact .here | apply At.there)) (by rfl) ?_ | refine w_loadBR I (by rfl) (by first | (with_reducible repeat (first | exact .here | apply At.there)); done | repeat (first | exact .here | apply At.there)) (by rfl) ?_ | refine w_load0 I (by rfl) (by assumption) ?_) | ((with_reducible refine gstore ?_); (first | refine w_storeB I (by rfl) (by (conv => lhs; whnf) <;> rfl) (by first | (with_reducible repeat (first | exact .here | apply Upd.there)); done | repeat (first | exact .here | apply Upd.there)) (by rfl) (by rfl) (by simp only [List.set_cons_zero, List.set_cons_succ] <;> rfl) ?_ | refine w_storeBR I (by rfl) (by rfl) (by first | (with_reducible repeat (first | exact .here | apply Upd.there)); done | repeat (first | exact .here | apply Upd.there)) (by rfl) (by rfl) (by rfl) ?_); clear I; intro w I)) | (go_at_call 58; go_must (refine (HLa.out _ (HSI.out.fr I.fr)).mono ?_; rintro _ w1 ⟨rfl, hf⟩; replace I := I.still hf; clear hf)))
    go_ret
    exact ⟨by rw [HE.out]; rfl, I.fr⟩
  | some x =>
    dsimp only [Option.getD_some, Option.isSome_some] at HLa
    go_enter Try.func21, Try.ntmps21
    try dsimp only [List.append]
    go_wp2_with (first | (first | ((with_reducible refine gguard ?_); (first | refine w_guardT (by rfl) (fun hb => ?_) (fun hb => ?_) | refine w_guardF (by rfl) (fun hb => ?_) (fun hb => ?_)) <;> first | (cases hb; done) | cases hb | ((try rw [hb]) <;> (try simp at hb) <;> go_prune <;> (try (with_reducible replace hb := eqPair hb)))) | (((with_reducible refine gbox ?_); first | refine w_boxA I (by rfl) ?_ | refine w_box1 I (by (conv => lhs; whnf) <;> rfl) (by rfl) ?_); clear I; intro g w I) | ((with_reducible refine galloc ?_); refine w_alloc I ?_; clear I; intro g w I) | ((with_reducible refine gload ?_); first | refine w_loadB I (by rfl) (by first | (with_reducible repeat (first | exact .here | apply At.there)); done | repeat (first | exact .here | apply At.there)) (by rfl) ?_ | refine w_loadBR I (by rfl) (by first | (with_reducible repeat (first | exact .here | apply At.there)); done | repeat (first | exact .here | apply At.there)) (by rfl) ?_ | refine w_load0 I (by rfl) (by assumption) ?_) | ((with_reducible refine gstore ?_); (first | refine w_storeB I (by rfl) (by (conv => lhs; whnf) <;> rfl) (by first | (with_reducible repeat (first | exact .here | apply Upd.there)); done | repeat (first | exact .here | apply Upd.there)) (by rfl) (by rfl) (by simp only [List.set_cons_zero, List.set_cons_succ] <;> rfl) ?_ | refine w_storeBR I (by rfl) (by rfl) (by first | (with_reducible repeat (first | exact .here | apply Upd.there)); done | repeat (first | exact .here | apply Upd.there)) (by rfl) (by rfl) (by rfl) ?_); clear I; intro w I)) | (go_at_call 58; go_must (refine (HLa.out _ (HSI.out.fr I.fr)).mono ?_; rintro _ w1 ⟨rfl, hf⟩; replace I := I.still hf; clear hf)))
    go_ret
    exact ⟨by rw [HE.out]; rfl, I.fr⟩
set_option maxRecDepth 100000 in
set_option maxHeartbeats 4000000 in
theorem ref06_Next (gr : Nat) (a b : Int) (l s : List Rd) (m : Int) (hsr : Ser.Sorted s) (hmem : ∀ x, x ∈ l ↔ x ∈ s) (hsm : ∀ y ∈ l, Ser.small y) (hb : 0 ≤ b ∧ b < 1048576) (hm : -9223372036854775808 ≤ m ∧ m ≤ 9223372036854775807) (hl : l.length ≤ 10000) (w0 : World) (hs : SerIs w0 gr a b l) :
    Calls Try.prog 23 #[.pointer (some ⟨gr, 0, none⟩), .int .i64 m] w0 fun e w' => e = .returned (.int .i64 (Ser.next s b m)) ∧ Fr w0 w' := by
  have HLa := Lib.hid (ref06_last gr a b l s m hsr hmem hsm hm hl)
  have HSI := Lib.hid hs
  obtain ⟨A, c, h0, h1, h2, hv⟩ := hs
  have hxs : ∀ x, Ser.last s b m = some x → Ser.small x := fun x hx => by
    cases h : Ser.upto s m with
    | zero => rw [Ser.last_no h] at hx; cases hx
    | succ j =>
      obtain ⟨hj, _⟩ := Ser.last_in hsr h
      rw [Ser.last_eq h hj] at hx
      split at hx
      · cases hx
      · injection hx with hx; rw [← hx]; exact hsm _ ((hmem _).2 (List.getElem_mem _))
  have HE : Hid (Ser.next s b m = match Ser.last s b m with | none => Ser.rn l m | some x => if Ser.rn l m < 0 ∨ x.m + b + 1 < Ser.rn l m then x.m + b + 1 else Ser.rn l m) := Lib.hid (by
    rw [← Ser.rn_n0 hsr hmem m (fun x hx => (hsm x hx).1)]; rfl)
  generalize Ser.last s b m = q at *
  have hll := hv.len_le
  unfold maxLen at hll
  obtain ⟨A', _, c', e1, -, -, -, -, hsl⟩ := hv
  injection e1 with e1 e2 e3
  subst e1
  clear e2 e3 hsr hmem hsm
  have HXS := Lib.hid hxs
  have HS := Lib.hid hsl
  clear hsl hxs
  have I := St.refl w0
  go_enter Try.func23, Try.ntmps23
  try dsimp only [List.append]
  go_upto_region 3 with (first | ((with_reducible refine gguard ?_); (first | refine w_guardT (by rfl) (fun hb => ?_) (fun hb => ?_) | refine w_guardF (by rfl) (fun hb => ?_) (fun hb => ?_)) <;> first | (cases hb; done) | cases hb | ((try rw [hb]) <;> (try simp at hb) <;> go_prune <;> (try (with_reducible replace hb := eqPair hb)))) | (((with_reducible refine gbox ?_); first | refine w_boxA I (by rfl) ?_ | refine w_box1 I (by (conv => lhs; whnf) <;> rfl) (by rfl) ?_); clear I; intro g w I) | ((with_reducible refine galloc ?_); refine w_alloc I ?_; clear I; intro g w I) | ((with_reducible refine gload ?_); first | refine w_loadB I (by rfl) (by first | (with_reducible repeat (first | exact .here | apply At.there)); done | repeat (first | exact .here | apply At.there)) (by rfl) ?_ | refine w_loadBR I (by rfl) (by first | (with_reducible repeat (first | exact .here | apply At.there)); done | repeat (first | exact .here | apply At.there)) (by rfl) ?_ | refine w_load0 I (by rfl) (by assumption) ?_) | ((with_reducible refine gstore ?_); (first | refine w_storeB I (by rfl) (by (conv => lhs; whnf) <;> rfl) (by first | (with_reducible repeat (first | exact .here | apply Upd.there)); done | repeat (first | exact .here | apply Upd.there)) (by rfl) (by rfl) (by simp only [List.set_cons_zero, List.set_cons_succ] <;> rfl) ?_ | refine w_storeBR I (by rfl) (by rfl) (by first | (with_reducible repeat (first | exact .here | apply Upd.there)); done | repeat (first | exact .here | apply Upd.there)) (by rfl) (by rfl) (by rfl) ?_); clear I; intro w I))
  go_loopw [5, 6] (fun z i wr => ∃ (k : Nat) (n : Int), i = .int .i64 k ∧ k ≤ l.length ∧ z = .int .i64 n ∧ Hid (Ser.rn (l.take k) m = n) ∧ St w0 wr []) (fun _ i _ => l.length - (intOf i).toNat)
  case atStart => exact ⟨0, -1, rfl, by omega, rfl, Lib.hid rfl, I⟩
  case round =>
    clear I
    obtain ⟨k, n, rfl, hk, rfl, HO, I⟩ := hrel
    rename World => wr
    by_cases hlt : k < l.length
    · obtain ⟨ab, ao, rfl, hc0, -, -⟩ := atR HS.out k hlt
      have hlt2 : (k : Int) < (l.length : Int) := by omega
      have HO2 : Hid (Ser.rn (l.take (k + 1)) m = Ser.rns m n l[k]) := Lib.hid (by rw [List.take_succ_eq_append_getElem hlt, Ser.rn_snoc, HO.out])
      generalize l[k] = x at hc0 HO2
      clear HO
      by_cases c1 : m < x.m
      · have d1 : decide (m < x.m) = true := decide_eq_true c1
        by_cases c2 : n < 0
        · have d2 : decide (n < 0) = true := decide_eq_true c2
          have HO3 : Hid (Ser.rn (l.take (k + 1)) m = x.m) := Lib.hid (HO2.out.trans (if_pos ⟨c1, .inl c2⟩))
          clear HO2 c1 c2
          go_wp2_with (first | ((with_reducible refine gguard ?_); (first | refine w_guardT (by rfl) (fun hb => ?_) (fun hb => ?_) | refine w_guardF (by rfl) (fun hb => ?_) (fun hb => ?_)) <;> first | (cases hb; done) | cases hb | ((try rw [hb]) <;> (try simp at hb) <;> go_prune <;> (try (with_reducible replace hb := eqPair hb)))) | (((with_reducible refine gbox ?_); first | refine w_boxA I (by rfl) ?_ | refine w_box1 I (by (conv => lhs; whnf) <;> rfl) (by rfl) ?_); clear I; intro g w I) | ((with_reducible refine galloc ?_); refine w_alloc I ?_; clear I; intro g w I) | ((with_reducible refine gload ?_); first | refine w_loadB I (by rfl) (by first | (with_reducible repeat (first | exact .here | apply At.there)); done | repeat (first | exact .here | apply At.there)) (by rfl) ?_ | refine w_loadBR I (by rfl) (by first | (with_reducible repeat (first | exact .here | apply At.there)); done | repeat (first | exact .here | apply At.there)) (by rfl) ?_ | refine w_load0 I (by rfl) (by assumption) ?_) | ((with_reducible refine gstore ?_); (first | refine w_storeB I (by rfl) (by (conv => lhs; whnf) <;> rfl) (by first | (with_reducible repeat (first | exact .here | apply Upd.there)); done | repeat (first | exact .here | apply Upd.there)) (by rfl) (by rfl) (by simp only [List.set_cons_zero, List.set_cons_succ] <;> rfl) ?_ | refine w_storeBR I (by rfl) (by rfl) (by first | (with_reducible repeat (first | exact .here | apply Upd.there)); done | repeat (first | exact .here | apply Upd.there)) (by rfl) (by rfl) (by rfl) ?_); clear I; intro w I))
          all_goals try omega
          go_roundw
          case rel => exact ⟨k + 1, x.m, by go_num, by omega, rfl, HO3, I⟩
          case measure => simp [intOf]; omega
        · have d2 : decide (n < 0) = false := decide_eq_false c2
          by_cases c3 : x.m < n
          · have d3 : decide (x.m < n) = true := decide_eq_true c3
            have HO3 : Hid (Ser.rn (l.take (k + 1)) m = x.m) := Lib.hid (HO2.out.trans (if_pos ⟨c1, .inr c3⟩))
            clear HO2 c1 c2 c3
            go_wp2_with (first | ((with_reducible refine gguard ?_); (first | refine w_guardT (by rfl) (fun hb => ?_) (fun hb => ?_) | refine w_guardF (by rfl) (fun hb => ?_) (fun hb => ?_)) <;> first | (cases hb; done) | cases hb | ((try rw [hb]) <;> (try simp at hb) <;> go_prune <;> (try (with_reducible replace hb := eqPair hb)))) | (((with_reducible refine gbox ?_); first | refine w_boxA I (by rfl) ?_ | refine w_box1 I (by (conv => lhs; whnf) <;> rfl) (by rfl) ?_); clear I; intro g w I) | ((with_reducible refine galloc ?_); refine w_alloc I ?_; clear I; intro g w I) | ((with_reducible refine gload ?_); first | refine w_loadB I (by rfl) (by first | (with_reducible repeat (first | exact .here | apply At.there)); done | repeat (first | exact .here | apply At.there)) (by rfl) ?_ | refine w_loadBR I (by rfl) (by first | (with_reducible repeat (first | exact .here | apply At.there)); done | repeat (first | exact .here | apply At.there)) (by rfl) ?_ | refine w_load0 I (by rfl) (by assumption) ?_) | ((with_reducible refine gstore ?_); (first | refine w_storeB I (by rfl) (by (conv => lhs; whnf) <;> rfl) (by first | (with_reducible repeat (first | exact .here | apply Upd.there)); done | repeat (first | exact .here | apply Upd.there)) (by rfl) (by rfl) (by simp only [List.set_cons_zero, List.set_cons_succ] <;> rfl) ?_ | refine w_storeBR I (by rfl) (by rfl) (by first | (with_reducible repeat (first | exact .here | apply Upd.there)); done | repeat (first | exact .here | apply Upd.there)) (by rfl) (by rfl) (by rfl) ?_); clear I; intro w I))
            all_goals try omega
            go_roundw
            case rel => exact ⟨k + 1, x.m, by go_num, by omega, rfl, HO3, I⟩
            case measure => simp [intOf]; omega
          · have d3 : decide (x.m < n) = false := decide_eq_false c3
            have HO3 : Hid (Ser.rn (l.take (k + 1)) m = n) := Lib.hid (HO2.out.trans (if_neg (by omega)))
            clear HO2 c1 c2 c3
            go_wp2_with (first | ((with_reducible refine gguard ?_); (first | refine w_guardT (by rfl) (fun hb => ?_) (fun hb => ?_) | refine w_guardF (by rfl) (fun hb => ?_) (fun hb => ?_)) <;> first | (cases hb; done) | cases hb | ((try rw [hb]) <;> (try simp at hb) <;> go_prune <;> (try (with_reducible replace hb := eqPair hb)))) | (((with_reducible refine gbox ?_); first | refine w_boxA I (by rfl) ?_ | refine w_box1 I (by (conv => lhs; whnf) <;> rfl) (by rfl) ?_); clear I; intro g w I) | ((with_reducible refine galloc ?_); refine w_alloc I ?_; clear I; intro g w I) | ((with_reducible refine gload ?_); first | refine w_loadB I (by rfl) (by first | (with_reducible repeat (first | exact .here | apply At.there)); done | repeat (first | exact .here | apply At.there)) (by rfl) ?_ | refine w_loadBR I (by rfl) (by first | (with_reducible repeat (first | exact .here | apply At.there)); done | repeat (first | exact .here | apply At.there)) (by rfl) ?_ | refine w_load0 I (by rfl) (by assumption) ?_) | ((with_reducible refine gstore ?_); (first | refine w_storeB I (by rfl) (by (conv => lhs; whnf) <;> rfl) (by first | (with_reducible repeat (first | exact .here | apply Upd.there)); done | repeat (first | exact .here | apply Upd.there)) (by rfl) (by rfl) (by simp only [List.set_cons_zero, List.set_cons_succ] <;> rfl) ?_ | refine w_storeBR I (by rfl) (by rfl) (by first | (with_reducible repeat (first | exact .here | apply Upd.there)); done | repeat (first | exact .here | apply Upd.there)) (by rfl) (by rfl) (by rfl) ?_); clear I; intro w I))
            all_goals try omega
            go_roundw
            case rel => exact ⟨k + 1, n, by go_num, by omega, rfl, HO3, I⟩
            case measure => simp [intOf]; omega
      · have d1 : decide (m < x.m) = false := decide_eq_false c1
        have HO3 : Hid (Ser.rn (l.take (k + 1)) m = n) := Lib.hid (HO2.out.trans (if_neg (by omega)))
        clear HO2 c1
        go_wp2_with (first | ((with_reducible refine gguard ?_); (first | refine w_guardT (by rfl) (fun hb => ?_) (fun hb => ?_) | refine w_guardF (by rfl) (fun hb => ?_) (fun hb => ?_)) <;> first | (cases hb; done) | cases hb | ((try rw [hb]) <;> (try simp at hb) <;> go_prune <;> (try (with_reducible replace hb := eqPair hb)))) | (((with_reducible refine gbox ?_); first | refine w_boxA I (by rfl) ?_ | refine w_box1 I (by (conv => lhs; whnf) <;> rfl) (by rfl) ?_); clear I; intro g w I) | ((with_reducible refine galloc ?_); refine w_alloc I ?_; clear I; intro g w I) | ((with_reducible refine gload ?_); first | refine w_loadB I (by rfl) (by first | (with_reducible repeat (first | exact .here | apply At.there)); done | repeat (first | exact .here | apply At.there)) (by rfl) ?_ | refine w_loadBR I (by rfl) (by first | (with_reducible repeat (first | exact .here | apply At.there)); done | repeat (first | exact .here | apply At.there)) (by rfl) ?_ | refine w_load0 I (by rfl) (by assumption) ?_) | ((with_reducible refine gstore ?_); (first | refine w_storeB I (by rfl) (by (conv => lhs; whnf) <;> rfl) (by first | (with_reducible repeat (first | exact .here | apply Upd.there)); done | repeat (first | exact .here | apply Upd.there)) (by rfl) (by rfl) (by simp only [List.set_cons_zero, List.set_cons_succ] <;> rfl) ?_ | refine w_storeBR I (by rfl) (by rfl) (by first | (with_reducible repeat (first | exact .here | apply Upd.there)); done | repeat (first | exact .here | apply Upd.there)) (by rfl) (by rfl) (by rfl) ?_); clear I; intro w I))
        all_goals try omega
        go_roundw
        case rel => exact ⟨k + 1, n, by go_num, by omega, rfl, HO3, I⟩
        case measure => simp [intOf]; omega
    · obtain rfl : k = l.length := by omega
      rw [List.take_length] at HO
      rw [HO.out] at HE
      have hlt2 : ¬ (l.length : Int) < (l.length : Int) := by omega
      cases q with
      | none =>
        dsimp only [Option.getD_none, Option.isSome_none] at HLa
        go_upto_region 8 with (first | (first | ((with_reducible refine gguard ?_); (first | refine w_guardT (by rfl) (fun hb => ?_) (fun hb => ?_) | refine w_guardF (by rfl) (fun hb => ?_) (fun hb => ?_)) <;> first | (cases hb; done) | cases hb | ((try rw [hb]) <;> (try simp at hb) <;> go_prune <;> (try (with_reducible replace hb := eqPair hb)))) | (((with_reducible refine gbox ?_); first | refine w_boxA I (by rfl) ?_ | refine w_box1 I (by (conv => lhs; whnf) <;> rfl) (by rfl) ?_); clear I; intro g w I) | ((with_reducible refine galloc ?_); refine w_alloc I ?_; clear I; intro g w I) | ((with_reducible refine gload ?_); first | refine w_loadB I (by rfl) (by first | (with_reducible repeat (first | exact .here | apply At.there)); done | repeat (first | exact .here | apply At.there)) (by rfl) ?_ | refine w_loadBR I (by rfl) (by first | (with_reducible repeat (first | exact .here | apply At.there)); done | repeat (first | exact .here | apply At.there)) (by rfl) ?_ | refine w_load0 I (by rfl) (by assumption) ?_) | ((with_reducible refine gstore ?_); (first | refine w_storeB I (by rfl) (by (conv => lhs; whnf) <;> rfl) (by first | (with_reducible repeat (first | exact .here | apply Upd.there)); done | repeat (first | exact .here | apply Upd.there)) (by rfl) (by rfl) (by simp only [List.set_cons_zero, List.set_cons_succ] <;> rfl) ?_ | refine w_storeBR I (by rfl) (by rfl) (by first | (with_reducible repeat (first | exact .here | apply Upd.there)); done | repeat (first | exact .here | apply Upd.there)) (by rfl) (by rfl) (by rfl) ?_); clear I; intro w I)) | (go_at_call 58; go_must (refine (HLa.out _ (HSI.out.fr I.fr)).mono ?_; rintro _ w1 ⟨rfl, hf⟩; replace I := I.still hf; clear hf)))
        all_goals try omega
        go_quiet (fail)
        replace I := I.drewN nq
        go_wp2_with (first | ((with_reducible refine gguard ?_); (first | refine w_guardT (by rfl) (fun hb => ?_) (fun hb => ?_) | refine w_guardF (by rfl) (fun hb => ?_) (fun hb => ?_)) <;> first | (cases hb; done) | cases hb | ((try rw [hb]) <;> (try simp at hb) <;> go_prune <;> (try (with_reducible replace hb := eqPair hb)))) | (((with_reducible refine gbox ?_); first | refine w_boxA I (by rfl) ?_ | refine w_box1 I (by (conv => lhs; whnf) <;> rfl) (by rfl) ?_); clear I; intro g w I) | ((with_reducible refine galloc ?_); refine w_alloc I ?_; clear I; intro g w I) | ((with_reducible refine gload ?_); first | refine w_loadB I (by rfl) (by first | (with_reducible repeat (first | exact .here | apply At.there)); done | repeat (first | exact .here | apply At.there)) (by rfl) ?_ | refine w_loadBR I (by rfl) (by first | (with_reducible repeat (first | exact .here | apply At.there)); done | repeat (first | exact .here | apply At.there)) (by rfl) ?_ | refine w_load0 I (by rfl) (by assumption) ?_) | ((with_reducible refine gstore ?_); (first | refine w_storeB I (by rfl) (by (conv => lhs; whnf) <;> rfl) (by first | (with_reducible repeat (first | exact .here | apply Upd.there)); done | repeat (first | exact .here | apply Upd.there)) (by rfl) (by rfl) (by simp only [List.set_cons_zero, List.set_cons_succ] <;> rfl) ?_ | refine w_storeBR I (by rfl) (by rfl) (by first | (with_reducible repeat (first | exact .here | apply Upd.there)); done | repeat (first | exact .here | apply Upd.there)) (by rfl) (by rfl) (by rfl) ?_); clear I; intro w I))
        go_ret
        exact ⟨by rw [HE.out]; rfl, I.fr⟩
      | some x =>
        dsimp only [Option.getD_some, Option.isSome_some] at HLa
        obtain ⟨x1, x2, _, _⟩ := HXS.out x rfl
        obtain ⟨b1, b2⟩ := hb
        obtain ⟨en, hen⟩ : ∃ en : Int, x.m + b + 1 = en := ⟨_, rfl⟩
        have hw1 : IntKind.i64.wrap (x.m + b) = x.m + b := by rw [IntKind.wrap_i64]; omega
        have hw2 : IntKind.i64.wrap (x.m + b + 1) = en := by rw [IntKind.wrap_i64]; omega
        have HN := Lib.hid hen
        clear hen
        by_cases hn : n < 0
        · have d1 : decide (n < 0) = true := decide_eq_true hn
          have HF : Hid (Ser.next s b m = en) := Lib.hid (by rw [HE.out]; dsimp only; rw [HN.out, if_pos (.inl hn)])
          clear hn
          go_upto_region 8 with (first | (first | ((with_reducible refine gguard ?_); (first | refine w_guardT (by rfl) (fun hb => ?_) (fun hb => ?_) | refine w_guardF (by rfl) (fun hb => ?_) (fun hb => ?_)) <;> first | (cases hb; done) | cases hb | ((try rw [hb]) <;> (try simp at hb) <;> go_prune <;> (try (with_reducible replace hb := eqPair hb)))) | (((with_reducible refine gbox ?_); first | refine w_boxA I (by rfl) ?_ | refine w_box1 I (by (conv => lhs; whnf) <;> rfl) (by rfl) ?_); clear I; intro g w I) | ((with_reducible refine galloc ?_); refine w_alloc I ?_; clear I; intro g w I) | ((with_reducible refine gload ?_); first | refine w_loadB I (by rfl) (by first | (with_reducible repeat (first | exact .here | apply At.there)); done | repeat (first | exact .here | apply At.there)) (by rfl) ?_ | refine w_loadBR I (by rfl) (by first | (with_reducible repeat (first | exact .here | apply At.there)); done | repeat (first | exact .here | apply At.there)) (by rfl) ?_ | refine w_load0 I (by rfl) (by assumption) ?_) | ((with_reducible refine gstore ?_); (first | refine w_storeB I (by rfl) (by (conv => lhs; whnf) <;> rfl) (by first | (with_reducible repeat (first | exact .here | apply Upd.there)); done | repeat (first | exact .here | apply Upd.there)) (by rfl) (by rfl) (by simp only [List.set_cons_zero, List.set_cons_succ] <;> rfl) ?_ | refine w_storeBR I (by rfl) (by rfl) (by first | (with_reducible repeat (first | exact .here | apply Upd.there)); done | repeat (first | exact .here | apply Upd.there)) (by rfl) (by rfl) (by rfl) ?_); clear I; intro w I)) | (go_at_call 58; go_must (refine (HLa.out _ (HSI.out.fr I.fr)).mono ?_; rintro _ w1 ⟨rfl, hf⟩; replace I := I.still hf; clear hf)))
          all_goals try omega
          have q1 := I.fr.cell h1
          have F := I.facts
          dsimp only [AllF, Asr.facts, Blk, OwnS] at F
          go_quiet (fail)
          go_upto_region 9 with fail
          have I1 := Lib.hid (fun j => (I.drewN nq).drewN j)
          go_quiet (fail)
          replace I := I1.out nq
          clear F q1
          go_wp2_with (first | ((with_reducible refine gguard ?_); (first | refine w_guardT (by rfl) (fun hb => ?_) (fun hb => ?_) | refine w_guardF (by rfl) (fun hb => ?_) (fun hb => ?_)) <;> first | (cases hb; done) | cases hb | ((try rw [hb]) <;> (try simp at hb) <;> go_prune <;> (try (with_reducible replace hb := eqPair hb)))) | (((with_reducible refine gbox ?_); first | refine w_boxA I (by rfl) ?_ | refine w_box1 I (by (conv => lhs; whnf) <;> rfl) (by rfl) ?_); clear I; intro g w I) | ((with_reducible refine galloc ?_); refine w_alloc I ?_; clear I; intro g w I) | ((with_reducible refine gload ?_); first | refine w_loadB I (by rfl) (by first | (with_reducible repeat (first | exact .here | apply At.there)); done | repeat (first | exact .here | apply At.there)) (by rfl) ?_ | refine w_loadBR I (by rfl) (by first | (with_reducible repeat (first | exact .here | apply At.there)); done | repeat (first | exact .here | apply At.there)) (by rfl) ?_ | refine w_load0 I (by rfl) (by assumption) ?_) | ((with_reducible refine gstore ?_); (first | refine w_storeB I (by rfl) (by (conv => lhs; whnf) <;> rfl) (by first | (with_reducible repeat (first | exact .here | apply Upd.there)); done | repeat (first | exact .here | apply Upd.there)) (by rfl) (by rfl) (by simp only [List.set_cons_zero, List.set_cons_succ] <;> rfl) ?_ | refine w_storeBR I (by rfl) (by rfl) (by first | (with_reducible repeat (first | exact .here | apply Upd.there)); done | repeat (first | exact .here | apply Upd.there)) (by rfl) (by rfl) (by rfl) ?_); clear I; intro w I))
          go_ret
          exact ⟨by rw [HF.out]; rfl, I.fr⟩
        · have d1 : decide (n < 0) = false := decide_eq_false hn
          by_cases he : en < n
          · have d2 : decide (en < n) = true := decide_eq_true he
            have HF : Hid (Ser.next s b m = en) := Lib.hid (by rw [HE.out]; dsimp only; rw [HN.out, if_pos (.inr he)])
            clear hn he
            go_upto_region 8 with (first | (first | ((with_reducible refine gguard ?_); (first | refine w_guardT (by rfl) (fun hb => ?_) (fun hb => ?_) | refine w_guardF (by rfl) (fun hb => ?_) (fun hb => ?_)) <;> first | (cases hb; done) | cases hb | ((try rw [hb]) <;> (try simp at hb) <;> go_prune <;> (try (with_reducible replace hb := eqPair hb)))) | (((with_reducible refine gbox ?_); first | refine w_boxA I (by rfl) ?_ | refine w_box1 I (by (conv => lhs; whnf) <;> rfl) (by rfl) ?_); clear I; intro g w I) | ((with_reducible refine galloc ?_); refine w_alloc I ?_; clear I; intro g w I) | ((with_reducible refine gload ?_); first | refine w_loadB I (by rfl) (by first | (with_reducible repeat (first | exact .here | apply At.there)); done | repeat (first | exact .here | apply At.there)) (by rfl) ?_ | refine w_loadBR I (by rfl) (by first | (with_reducible repeat (first | exact .here | apply At.there)); done | repeat (first | exact .here | apply At.there)) (by rfl) ?_ | refine w_load0 I (by rfl) (by assumption) ?_) | ((with_reducible refine gstore ?_); (first | refine w_storeB I (by rfl) (by (conv => lhs; whnf) <;> rfl) (by first | (with_reducible repeat (first | exact .here | apply Upd.there)); done | repeat (first | exact .here | apply Upd.there)) (by rfl) (by rfl) (by simp only [List.set_cons_zero, List.set_cons_succ] <;> rfl) ?_ | refine w_storeBR I (by rfl) (by rfl) (by first | (with_reducible repeat (first | exact .here | apply Upd.there)); done | repeat (first | exact .here | apply Upd.there)) (by rfl) (by rfl) (by rfl) ?_); clear I; intro w I)) | (go_at_call 58; go_must (refine (HLa.out _ (HSI.out.fr I.fr)).mono ?_; rintro _ w1 ⟨rfl, hf⟩; replace I := I.still hf; clear hf)))
            all_goals try omega
            have q1 := I.fr.cell h1
            have F := I.facts
            dsimp only [AllF, Asr.facts, Blk, OwnS] at F
            go_quiet (fail)
            go_upto_region 9 with fail
            have I1 := Lib.hid (fun j => (I.drewN nq).drewN j)
            go_quiet (fail)
            replace I := I1.out nq
            clear F q1
            go_wp2_with (first | ((with_reducible refine gguard ?_); (first | refine w_guardT (by rfl) (fun hb => ?_) (fun hb => ?_) | refine w_guardF (by rfl) (fun hb => ?_) (fun hb => ?_)) <;> first | (cases hb; done) | cases hb | ((try rw [hb]) <;> (try simp at hb) <;> go_prune <;> (try (with_reducible replace hb := eqPair hb)))) | (((with_reducible refine gbox ?_); first | refine w_boxA I (by rfl) ?_ | refine w_box1 I (by (conv => lhs; whnf) <;> rfl) (by rfl) ?_); clear I; intro g w I) | ((with_reducible refine galloc ?_); refine w_alloc I ?_; clear I; intro g w I) | ((with_reducible refine gload ?_); first | refine w_loadB I (by rfl) (by first | (with_reducible repeat (first | exact .here | apply At.there)); done | repeat (first | exact .here | apply At.there)) (by rfl) ?_ | refine w_loadBR I (by rfl) (by first | (with_reducible repeat (first | exact .here | apply At.there)); done | repeat (first | exact .here | apply At.there)) (by rfl) ?_ | refine w_load0 I (by rfl) (by assumption) ?_) | ((with_reducible refine gstore ?_); (first | refine w_storeB I (by rfl) (by (conv => lhs; whnf) <;> rfl) (by first | (with_reducible repeat (first | exact .here | apply Upd.there)); done | repeat (first | exact .here | apply Upd.there)) (by rfl) (by rfl) (by simp only [List.set_cons_zero, List.set_cons_succ] <;> rfl) ?_ | refine w_storeBR I (by rfl) (by rfl) (by first | (with_reducible repeat (first | exact .here | apply Upd.there)); done | repeat (first | exact .here | apply Upd.there)) (by rfl) (by rfl) (by rfl) ?_); clear I; intro w I))
            go_ret
            exact ⟨by rw [HF.out]; rfl, I.fr⟩
          · have d2 : decide (en < n) = false := decide_eq_false he
            have HF : Hid (Ser.next s b m = n) := Lib.hid (by rw [HE.out]; dsimp only; rw [HN.out, if_neg (by omega)])
            clear hn he
            go_upto_region 8 with (first | (first | ((with_reducible refine gguard ?_); (first | refine w_guardT (by rfl) (fun hb => ?_) (fun hb => ?_) | refine w_guardF (by rfl) (fun hb => ?_) (fun hb => ?_)) <;> first | (cases hb; done) | cases hb | ((try rw [hb]) <;> (try simp at hb) <;> go_prune <;> (try (with_reducible replace hb := eqPair hb)))) | (((with_reducible refine gbox ?_); first | refine w_boxA I (by rfl) ?_ | refine w_box1 I (by (conv => lhs; whnf) <;> rfl) (by rfl) ?_); clear I; intro g w I) | ((with_reducible refine galloc ?_); refine w_alloc I ?_; clear I; intro g w I) | ((with_reducible refine gload ?_); first | refine w_loadB I (by rfl) (by first | (with_reducible repeat (first | exact .here | apply At.there)); done | repeat (first | exact .here | apply At.there)) (by rfl) ?_ | refine w_loadBR I (by rfl) (by first | (with_reducible repeat (first | exact .here | apply At.there)); done | repeat (first | exact .here | apply At.there)) (by rfl) ?_ | refine w_load0 I (by rfl) (by assumption) ?_) | ((with_reducible refine gstore ?_); (first | refine w_storeB I (by rfl) (by (conv => lhs; whnf) <;> rfl) (by first | (with_reducible repeat (first | exact .here | apply Upd.there)); done | repeat (first | exact .here | apply Upd.there)) (by rfl) (by rfl) (by simp only [List.set_cons_zero, List.set_cons_succ] <;> rfl) ?_ | refine w_storeBR I (by rfl) (by rfl) (by first | (with_reducible repeat (first | exact .here | apply Upd.there)); done | repeat (first | exact .here | apply Upd.there)) (by rfl) (by rfl) (by rfl) ?_); clear I; intro w I)) | (go_at_call 58; go_must (refine (HLa.out _ (HSI.out.fr I.fr)).mono ?_; rintro _ w1 ⟨rfl, hf⟩; replace I := I.still hf; clear hf)))
            all_goals try omega
            have q1 := I.fr.cell h1
            have F := I.facts
            dsimp only [AllF, Asr.facts, Blk, OwnS] at F
            go_quiet (fail)
            replace I := I.drewN nq
            clear F q1
            go_wp2_with (first | ((with_reducible refine gguard ?_); (first | refine w_guardT (by rfl) (fun hb => ?_) (fun hb => ?_) | refine w_guardF (by rfl) (fun hb => ?_) (fun hb => ?_)) <;> first | (cases hb; done) | cases hb | ((try rw [hb]) <;> (try simp at hb) <;> go_prune <;> (try (with_reducible replace hb := eqPair hb)))) | (((with_reducible refine gbox ?_); first | refine w_boxA I (by rfl) ?_ | refine w_box1 I (by (conv => lhs; whnf) <;> rfl) (by rfl) ?_); clear I; intro g w I) | ((with_reducible refine galloc ?_); refine w_alloc I ?_; clear I; intro g w I) | ((with_reducible refine gload ?_); first | refine w_loadB I (by rfl) (by first | (with_reducible repeat (first | exact .here | apply At.there)); done | repeat (first | exact .here | apply At.there)) (by rfl) ?_ | refine w_loadBR I (by rfl) (by first | (with_reducible repeat (first | exact .here | apply At.there)); done | repeat (first | exact .here | apply At.there)) (by rfl) ?_ | refine w_load0 I (by rfl) (by assumption) ?_) | ((with_reducible refine gstore ?_); (first | refine w_storeB I (by rfl) (by (conv => lhs; whnf) <;> rfl) (by first | (with_reducible repeat (first | exact .here | apply Upd.there)); done | repeat (first | exact .here | apply Upd.there)) (by rfl) (by rfl) (by simp only [List.set_cons_zero, List.set_cons_succ] <;> rfl) ?_ | refine w_storeBR I (by rfl) (by rfl) (by first | (with_reducible repeat (first | exact .here | apply Upd.there)); done | repeat (first | exact .here | apply Upd.there)) (by rfl) (by rfl) (by rfl) ?_); clear I; intro w I))
            go_ret
            exact ⟨by rw [HF.out]; rfl, I.fr⟩
end Go.Proofs.Ytggeloihnbjogaa
