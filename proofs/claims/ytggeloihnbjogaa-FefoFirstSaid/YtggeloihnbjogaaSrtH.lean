
/- Lots (layer 15): what comes in as an argument; sorted. -/
import Derived.Test.YtggeloihnbjogaaSrtG
import Derived.Test.YtggeloihnbjogaaOpen
namespace Go.Proofs.Ytggeloihnbjogaa
open Go.ChangeShapes Go.WideShapes Go.ChangeAt Go.RowKit Go.Hf
set_option maxRecDepth 100000 in
theorem opens_astay : Opens Try.prog 191 (α := Unit) (fun _ cs _ => Flat [.int .i64, .int .i64, .int .i64] cs) := opens_flat (by kernel_rfl)
set_option maxRecDepth 100000 in
theorem opens_lot : Opens Try.prog 59 (flat encT) := fun enc w fuel cs x h => by
  obtain ⟨hl, hf⟩ := field_opens Try.underlying59 h
  obtain ⟨a0, h0⟩ := hf 0 _ rfl (opens_i64 Try.underlying3)
  obtain ⟨a1, h1⟩ := hf 1 _ rfl (opens_i64 Try.underlying3)
  obtain ⟨a2, h2⟩ := hf 2 _ rfl (opens_i64 Try.underlying3)
  obtain ⟨a3, h3⟩ := hf 3 _ rfl (opens_i64 Try.underlying3)
  obtain ⟨a4, h4⟩ := hf 4 _ rfl (opens_i64 Try.underlying3)
  obtain ⟨a5, h5⟩ := hf 5 _ rfl (opens_i64 Try.underlying3)
  obtain ⟨a6, h6⟩ := hf 6 _ rfl (opens_i64 Try.underlying56)
  obtain ⟨a7, h7⟩ := hf 7 _ rfl (opens_slice (n := 3) Try.underlying57 (by kernel_rfl) (by omega) opens_astay)
  have e0 : Try.prog.cellsOf 59 = 8 := by kernel_rfl
  have e2 : Try.prog.cellsOf 3 = 1 := by kernel_rfl
  have e3 : Try.prog.cellsOf 56 = 1 := by kernel_rfl
  have e4 : Try.prog.cellsOf 57 = 1 := by kernel_rfl
  rw [e0] at hl
  match cs, hl with
  | [c0, c1, c2, c3, c4, c5, c6, c7], _ =>
    replace h0 : ([c0, c1, c2, c3, c4, c5, c6, c7].drop 0).take (Try.prog.cellsOf 3) = encI a0 := h0
    replace h1 : ([c0, c1, c2, c3, c4, c5, c6, c7].drop 1).take (Try.prog.cellsOf 3) = encI a1 := h1
    replace h2 : ([c0, c1, c2, c3, c4, c5, c6, c7].drop 2).take (Try.prog.cellsOf 3) = encI a2 := h2
    replace h3 : ([c0, c1, c2, c3, c4, c5, c6, c7].drop 3).take (Try.prog.cellsOf 3) = encI a3 := h3
    replace h4 : ([c0, c1, c2, c3, c4, c5, c6, c7].drop 4).take (Try.prog.cellsOf 3) = encI a4 := h4
    replace h5 : ([c0, c1, c2, c3, c4, c5, c6, c7].drop 5).take (Try.prog.cellsOf 3) = encI a5 := h5
    replace h6 : ([c0, c1, c2, c3, c4, c5, c6, c7].drop 6).take (Try.prog.cellsOf 56) = encI a6 := h6
    obtain ⟨A, c, h7, _⟩ := h7
    replace h7 : ([c0, c1, c2, c3, c4, c5, c6, c7].drop 7).take (Try.prog.cellsOf 57) = [.slice A a7.length c] := h7
    rw [e2] at h0 h1 h2 h3 h4 h5
    rw [e3] at h6
    rw [e4] at h7
    simp [encI] at h0 h1 h2 h3 h4 h5 h6 h7
    subst h0 h1 h2 h3 h4 h5 h6 h7
    exact ⟨⟨a0, a1, a2, a3, a4, a5, a6, A, a7.length, c, 0⟩, rfl⟩
set_option maxRecDepth 100000 in
theorem opens_lots : Opens Try.prog 42 (slR 8 (flat encT)) := opens_slice Try.underlying42 (by kernel_rfl) (by omega) opens_lot
namespace Fef
/-- Each lot bears its place. -/
def Tagged (l : List Lt) : Prop := ∀ i (h : i < l.length), l[i].tag = i
def retag (l : List Lt) : List Lt := l.mapIdx fun i x => { x with tag := i }
theorem retag_tagged (l : List Lt) : Tagged (retag l) := by
  intro i h
  have hi : i < l.length := by unfold retag at h; rw [List.length_mapIdx] at h; exact h
  have e : (retag l)[i]? = some { l[i] with tag := i } := by unfold retag; rw [List.getElem?_mapIdx, List.getElem?_eq_getElem hi]; rfl
  rw [List.getElem?_eq_getElem h] at e
  rw [Option.some.inj e]
theorem Tagged.pairwise {l : List Lt} (h : Tagged l) : l.Pairwise fun x y => x.tag < y.tag := by
  rw [List.pairwise_iff_getElem]
  intro i j hi hj hij
  rw [h i hi, h j hj]
  exact hij
theorem Tagged.inj {l : List Lt} (h : Tagged l) {x y : Lt} (hx : x ∈ l) (hy : y ∈ l) (ht : x.tag = y.tag) : x = y := by
  obtain ⟨i, hi, rfl⟩ := List.mem_iff_getElem.1 hx
  obtain ⟨j, hj, rfl⟩ := List.mem_iff_getElem.1 hy
  rw [h i hi, h j hj] at ht
  subst ht
  rfl
theorem lt_asymm {x y : Lt} (h1 : lt x y) (h2 : lt y x) : False := by unfold lt at *; omega
/-- There is one way to sort. -/
theorem sort_uniq : ∀ {M M' : List Lt}, M.Perm M' → M.Pairwise lt → M'.Pairwise lt → M = M'
  | [], M', hp, _, _ => (List.Perm.nil_eq hp)
  | x :: M, [], hp, _, _ => (List.Perm.eq_nil hp)
  | x :: M, y :: M', hp, h1, h2 => by
    rw [List.pairwise_cons] at h1 h2
    have hxy : x = y := by
      rcases List.mem_cons.1 (hp.mem_iff.1 (List.mem_cons_self ..)) with e | e
      · exact e
      · rcases List.mem_cons.1 (hp.mem_iff.2 (List.mem_cons_self ..)) with e' | e'
        · exact e'.symm
        · exact (lt_asymm (h2.1 x e) (h1.1 y e')).elim
    subst hxy
    rw [sort_uniq ((List.perm_cons x).1 hp) h1.2 h2.2]
end Fef
abbrev Lots (w : World) (v : Value) (l : List Lt) : Prop := SlV 8 (flat encT) w v l
theorem Lots.retag {w : World} {v : Value} {l : List Lt} (h : Lots w v l) : Lots w v (Fef.retag l) := by
  obtain ⟨A, m, c, h1, h2, h3, h4, h5, h6, h7⟩ := h
  refine ⟨A, m, c, h1, by unfold Fef.retag; rw [List.length_mapIdx]; exact h2, h3, h4, h5, fun e => by rw [h6 e]; rfl, fun a ha => ⟨fun hne => (h7 a ha).1 (fun e => hne (by rw [e]; rfl)), fun i x hx => ?_⟩⟩
  unfold Fef.retag at hx
  rw [List.getElem?_mapIdx] at hx
  cases hy : l[i]? with
  | none => rw [hy] at hx; cases hx
  | some y =>
    rw [hy] at hx
    obtain rfl := Option.some.inj hx
    obtain ⟨cs, g1, g2, g3⟩ := (h7 a ha).2 i y hy
    exact ⟨cs, g1, g2, g3⟩

set_option maxRecDepth 100000 in
set_option maxHeartbeats 400000 in
theorem clone_lots (v : Value) (l : List Lt) (w : World) (h : SlV 8 (flat encT) w v l) (hm : l.length * 80 ≤ 140737488355328) :
    Calls Try.prog 99 #[v] w fun e w' => ∃ v', e = .returned v' ∧ Own w.heap.size 59 8 encT w' v' l ∧ Fr w w' ∧ (v' = .slice none 0 0 ↔ v = .slice none 0 0) := by
  obtain ⟨A, _, c, rfl, rfl, hl, _, hA, h⟩ := h
  have HS := Lib.hid h
  have HC := Lib.hid hl
  have HAc := Lib.hid hA
  have HM := Lib.hid hm
  clear h hl hA hm
  cases A with
  | none =>
    obtain rfl : l = [] := HS.out.1 rfl
    obtain rfl : c = 0 := HAc.out rfl
    have hq := fun wx => Lib.run_eql_slice_nil (P := Try.prog) wx 42 59 none 0 0 0 0 Try.underlying42
    go_enter Try.func99, Try.ntmps99
    go_wp2
    go_ret
    exact ⟨_, rfl, Own.nil _ _ _ _ _, Fr.refl _, by simp⟩
  | some a =>
    have hq := fun wx => Lib.run_eql_slice_nil (P := Try.prog) wx 42 59 (some a) l.length c 0 0 Try.underlying42
    go_enter Try.func99, Try.ntmps99
    go_wp2_with ((with_reducible refine gate (.call { callee := .builtin .append, args := #[.tmp 5, .tmp 6], argTypes := #[42, 42] }) rfl ?_); refine wpList_app rfl (.tmp 5) (.tmp 6) 42 rfl w.heap.size 59 (.agg #[.int .i64 0, .int .i64 0, .int .i64 0, .int .i64 0, .int .i64 0, .int .i64 0, .int .i64 0, .slice none 0 0]) 8 80 Try.underlying42 (by kernel_rfl) rfl (by decide) encT_len encT_one (l := []) rfl (Own.lit _ _ _ _ w #[] [] (Nat.le_refl _) (Nat.zero_le _) encT_len rfl) rfl HC.out ((HS.out.fr (flat_stays _) ((Fr.refl w).alloc _)).raw encT_len (by decide)) (fun h => (by cases h)) ?_ ?_ ?_ ?_)
    · have := HM.out; simp; omega
    · have := HM.out; simp [maxLen]; omega
    · simp
    · intro v' w1 h1 h2 h3 _
      have H3 := Lib.hid h3
      clear h3
      go_wp2
      go_ret
      refine ⟨_, rfl, h1, Fr.grown ((Fr.refl w).alloc _) h2 (fun k hk => ?_), ?_⟩
      · simp [Value.ownBlock] at hk; omega
      · simpa using H3.out
theorem insertion_none (A : Option Addr) (c : Nat) (w : World) : Calls Try.prog 130 #[.slice A 0 c, .int .i64 0, .int .i64 0, sortF] w fun e w' => e = .returned (.tuple #[]) ∧ w = w' := by
  go_enter Try.func130, Try.ntmps130
  go_wp2_with fail
  go_loop [8] (fun i => i = .int .i64 1) (fun i => 1)
  case atStart => rfl
  case round =>
    subst hrel
    go_wp2_with fail
    exact end_0 rfl rfl ⟨rfl, rfl⟩
theorem stable_none (A : Option Addr) (c : Nat) (w : World) : Calls Try.prog 122 #[.slice A 0 c, .int .i64 0, sortF] w fun e w' => e = .returned (.tuple #[]) ∧ w = w' := by
  go_enter Try.func122, Try.ntmps122
  go_wp2_with fail
  go_loop [7, 8] (fun a b => a = .int .i64 0 ∧ b = .int .i64 20) (fun _ _ => 1)
  case atStart => exact ⟨rfl, rfl⟩
  case round =>
    obtain ⟨rfl, rfl⟩ := hrel
    go_wp2_with (first | (go_at_call 130; go_must (refine (insertion_none _ _ _).mono ?_; rintro _ w1 ⟨rfl, rfl⟩)))
    go_loop [6] (fun a => a = .int .i64 20) (fun _ => 1)
    case atStart => rfl
    case round =>
      subst hrel
      go_wp2_with fail
      exact end_0 rfl rfl ⟨rfl, rfl⟩
theorem sortstable_none (A : Option Addr) (c : Nat) (w : World) : Calls Try.prog 100 #[.slice A 0 c, sortF] w fun e w' => e = .returned (.tuple #[]) ∧ w = w' := by
  go_enter Try.func100, Try.ntmps100
  go_wp2_with (first | (go_at_call 122; go_must (refine (stable_none _ _ _).mono ?_; rintro _ w1 ⟨rfl, rfl⟩)))
  exact end_0 rfl rfl ⟨rfl, rfl⟩
theorem sortstable_lots (D : List Lt) (g c q : Nat) (hq6 : q ≤ 1000000) (hD : D.length = q) (ht : D.Pairwise fun x y => x.tag < y.tag) (w0 w : World) (L R : List Asr) (I : St w0 w L) (hA : At (OwnT (.slice (some ⟨g, 0, none⟩) q c) D) L R) :
    Calls Try.prog 100 #[.slice (some ⟨g, 0, none⟩) q c, sortF] w fun e w' => e = .returned (.tuple #[]) ∧ ∃ M, M.Perm D ∧ M.Pairwise Fef.lt ∧ St w0 w' (OwnT (.slice (some ⟨g, 0, none⟩) q c) M :: R) := by
  have HS := Lib.hid (stable_lots D g c q hq6 hD ht w0 w L R I hA)
  clear I hA
  go_enter Try.func100, Try.ntmps100
  go_wp2_with (first | (go_at_call 122; go_must (refine (HS.out).mono ?_; rintro _ w1 ⟨rfl, M, h1, h2, S⟩; replace h1 := Lib.hid (And.intro h1 h2); clear h2)))
  exact end_0 rfl rfl ⟨rfl, M, h1.out.1, h1.out.2, S⟩
set_option maxRecDepth 100000 in
theorem fefo_sorted (v : Value) (l : List Lt) (hl : l.length ≤ 1000) (ht : Fef.Tagged l) (w : World) (h : Lots w v l) :
    Calls Try.prog 60 #[v] w fun e w' => ∃ v' M, e = .returned v' ∧ Hid (M.Perm l ∧ M.Pairwise Fef.lt) ∧ St w w' [OwnT v' M] := by
  have HV := Lib.hid h
  have HT := Lib.hid ht.pairwise
  clear h ht
  have I := St.refl w
  by_cases hne : l = []
  · subst hne
    go_enter Try.func60, Try.ntmps60
    try dsimp only [List.append]
    go_upto_region 2 with (first | (first | ((with_reducible refine gguard ?_); (first | refine w_guardT (by rfl) (fun hb => ?_) (fun hb => ?_) | refine w_guardF (by rfl) (fun hb => ?_) (fun hb => ?_)) <;> first | (cases hb; done) | cases hb | ((try rw [hb]) <;> (try simp at hb) <;> go_prune <;> (try (with_reducible replace hb := eqPair hb)))) | (((with_reducible refine gbox ?_); first | refine w_boxA I (by rfl) ?_ | refine w_box1 I (by (conv => lhs; whnf) <;> rfl) (by rfl) ?_); clear I; intro g w I) | ((with_reducible refine galloc ?_); refine w_alloc I ?_; clear I; intro g w I) | ((with_reducible refine gload ?_); first | refine w_loadB I (by rfl) (by first | (with_reducible repeat (first | exact .here | apply At.there)); done | repeat (first | exact .here | apply At.there)) (by rfl) ?_ | refine w_loadBR I (by rfl) (by first | (with_reducible repeat (first | exact .here | apply At.there)); done | repeat (first | exact .here | apply At.there)) (by rfl) ?_ | refine w_load0 I (by rfl) (by assumption) ?_) | ((with_reducible refine gstore ?_); (first | refine w_storeB I (by rfl) (by (conv => lhs; whnf) <;> rfl) (by first | (with_reducible repeat (first | exact .here | apply Upd.there)); done | repeat (first | exact .here | apply Upd.there)) (by rfl) (by rfl) (by simp only [List.set_cons_zero, List.set_cons_succ] <;> rfl) ?_ | refine w_storeBR I (by rfl) (by rfl) (by first | (with_reducible repeat (first | exact .here | apply Upd.there)); done | repeat (first | exact .here | apply Upd.there)) (by rfl) (by rfl) (by rfl) ?_); clear I; intro w I)) | (go_at_call 99; go_must (refine (clone_lots _ _ _ (HV.out.frF I.fr) (by omega)).mono ?_; rintro _ w1 ⟨v', rfl, ho, hf, _⟩; have I2 := I.mkOwn hf ho; clear I ho hf)))
    obtain ⟨A, c, rfl, -, -, -⟩ := (I2.own .here).reads encT_len
    dsimp only [List.length_nil] at *
    go_wp2_with (first | (go_at_call 100; go_must (refine (sortstable_none _ _ _).mono ?_; rintro _ w1 ⟨rfl, rfl⟩)))
    go_ret
    exact ⟨_, [], rfl, Lib.hid ⟨List.Perm.refl _, List.Pairwise.nil⟩, I2⟩
  · go_enter Try.func60, Try.ntmps60
    try dsimp only [List.append]
    go_upto_region 2 with (first | (first | ((with_reducible refine gguard ?_); (first | refine w_guardT (by rfl) (fun hb => ?_) (fun hb => ?_) | refine w_guardF (by rfl) (fun hb => ?_) (fun hb => ?_)) <;> first | (cases hb; done) | cases hb | ((try rw [hb]) <;> (try simp at hb) <;> go_prune <;> (try (with_reducible replace hb := eqPair hb)))) | (((with_reducible refine gbox ?_); first | refine w_boxA I (by rfl) ?_ | refine w_box1 I (by (conv => lhs; whnf) <;> rfl) (by rfl) ?_); clear I; intro g w I) | ((with_reducible refine galloc ?_); refine w_alloc I ?_; clear I; intro g w I) | ((with_reducible refine gload ?_); first | refine w_loadB I (by rfl) (by first | (with_reducible repeat (first | exact .here | apply At.there)); done | repeat (first | exact .here | apply At.there)) (by rfl) ?_ | refine w_loadBR I (by rfl) (by first | (with_reducible repeat (first | exact .here | apply At.there)); done | repeat (first | exact .here | apply At.there)) (by rfl) ?_ | refine w_load0 I (by rfl) (by assumption) ?_) | ((with_reducible refine gstore ?_); (first | refine w_storeB I (by rfl) (by (conv => lhs; whnf) <;> rfl) (by first | (with_reducible repeat (first | exact .here | apply Upd.there)); done | repeat (first | exact .here | apply Upd.there)) (by rfl) (by rfl) (by simp only [List.set_cons_zero, List.set_cons_succ] <;> rfl) ?_ | refine w_storeBR I (by rfl) (by rfl) (by first | (with_reducible repeat (first | exact .here | apply Upd.there)); done | repeat (first | exact .here | apply Upd.there)) (by rfl) (by rfl) (by rfl) ?_); clear I; intro w I)) | (go_at_call 99; go_must (refine (clone_lots _ _ _ (HV.out.frF I.fr) (by omega)).mono ?_; rintro _ w1 ⟨v', rfl, ho, hf, _⟩; have I2 := I.mkOwn hf ho; clear I ho hf)))
    obtain ⟨g, c, rfl, -, -, -⟩ := (I2.own .here).base_of hne
    have HS := Lib.hid (sortstable_lots l g c l.length (by omega) rfl HT.out w _ _ _ I2 .here)
    clear I2 hne
    go_wp2_with (first | (go_at_call 100; go_must (refine (HS.out).mono ?_; rintro _ w1 ⟨rfl, M, h1, h2, S⟩; replace h1 := Lib.hid (And.intro h1 h2); clear h2)))
    go_ret
    exact ⟨_, M, rfl, h1, S⟩
end Go.Proofs.Ytggeloihnbjogaa
