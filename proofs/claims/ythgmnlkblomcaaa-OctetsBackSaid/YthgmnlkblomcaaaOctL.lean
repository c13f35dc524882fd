/- Octets (layer 4): the live question; things, and whether they fit. -/
import Derived.Test.YthgmnlkblomcaaaOctS
import Derived.Test.YthgmnlkblomcaaaOpen
namespace Go.Proofs.Ythgmnlkblomcaaa
open Go.ChangeShapes Go.WideShapes Go.ChangeAt Go.RowKit Go.Hf

theorem octets_NumZ (g : Nat) (s : List UInt8 × Int) (n : Int) (q : Nat) (hnq : n = q) (size : Int) (hn : q < 18446744073709551616) (hl : s.1.length ≤ 1000000) (w0 w : World) (L R : List Asr) (I : St w0 w L) (hA : At (Wr g s) L R) :
    Calls Try.prog 66 #[.pointer (some ⟨g, 0, none⟩), .int .u64 n, .int .i64 size] w fun en w' => en = .returned (.tuple #[]) ∧ St w0 w' (Wr g (Oct.put s q size) :: R) := by
  subst hnq; exact octets_Num g s q size hn hl w0 w L R I hA
theorem octets_DoneQ (g : Nat) (s : List UInt8 × Int) (q : List UInt8) (e : Int) (he : s.2 = e) (hq : (if s.2 = 0 then s.1 else []) = q) (hl : s.1.length ≤ 1000000) (w0 w : World) (L R : List Asr) (I : St w0 w L) (hA : At (Wr g s) L R) :
    Calls Try.prog 74 #[.pointer (some ⟨g, 0, none⟩)] w fun en w' => ∃ A m c, en = .returned (.tuple #[.slice A m c, .int .i64 e]) ∧ St w0 w' (OwnS 5 1 encB (.slice A m c) q :: L) := by
  subst he hq; exact octets_Done g s hl w0 w L R I hA
set_option maxRecDepth 100000 in
set_option maxHeartbeats 2000000 in
theorem law04_alive (w0 : World) : Calls Try.prog 64 #[] w0 fun e w' => e = .returned (.bool true) ∧ Fr w0 w' := by
  have E1 : Hid (Oct.put ([], 0) 258 3 = ([0, 1, 2], 0)) := Lib.hid (by kernel_rfl)
  have E2 : Hid (Oct.putInt ([0, 1, 2], 0) (-2) = ([0, 1, 2, 255, 255, 255, 255, 255, 255, 255, 254], 0)) := Lib.hid (by kernel_rfl)
  have E3 : Hid (Oct.putBool ([0, 1, 2, 255, 255, 255, 255, 255, 255, 255, 254], 0) true = ([0, 1, 2, 255, 255, 255, 255, 255, 255, 255, 254, 1], 0)) := Lib.hid (by kernel_rfl)
  have E4 : Hid (Oct.putRun ([0, 1, 2, 255, 255, 255, 255, 255, 255, 255, 254, 1], 0) [9] = ([0, 1, 2, 255, 255, 255, 255, 255, 255, 255, 254, 1, 0, 0, 0, 1, 9], 0)) := Lib.hid (by kernel_rfl)
  have E5 : Hid (Oct.num ([0, 1, 2, 255, 255, 255, 255, 255, 255, 255, 254, 1, 0, 0, 0, 1, 9], 0) 3 = (258, ([255, 255, 255, 255, 255, 255, 255, 254, 1, 0, 0, 0, 1, 9], 0))) := Lib.hid (by kernel_rfl)
  have E6 : Hid (Oct.int ([255, 255, 255, 255, 255, 255, 255, 254, 1, 0, 0, 0, 1, 9], 0) = (-2, ([1, 0, 0, 0, 1, 9], 0))) := Lib.hid (by kernel_rfl)
  have E7 : Hid (Oct.bool ([1, 0, 0, 0, 1, 9], 0) = (true, ([0, 0, 0, 1, 9], 0))) := Lib.hid (by kernel_rfl)
  have E8 : Hid (Oct.run ([0, 0, 0, 1, 9], 0) = ([9], ([], 0))) := Lib.hid (by kernel_rfl)
  have E9 : Hid (Oct.put ([], 0) 256 1 = ([], 1)) := Lib.hid (by kernel_rfl)
  have E10 : Hid (Oct.bool ([2], 0) = (false, ([], 2))) := Lib.hid (by kernel_rfl)
  have E11 : Hid (Oct.done ([], 0) = 0) := Lib.hid (by kernel_rfl)
  have E12 : Hid (Oct.done ([], 2) = 2) := Lib.hid (by kernel_rfl)
  have I := St.refl w0
  go_enter Try.func64, Try.ntmps64
  try dsimp only [List.append]
  go_upto_region 12 with (first | (first | ((with_reducible refine gguard ?_); (first | refine w_guardT (by rfl) (fun hb => ?_) (fun hb => ?_) | refine w_guardF (by rfl) (fun hb => ?_) (fun hb => ?_)) <;> first | (cases hb; done) | cases hb | ((try rw [hb]) <;> (try simp at hb) <;> go_prune <;> (try (with_reducible replace hb := eqPair hb)))) | (((with_reducible refine gbox ?_); first | refine w_boxA I (by rfl) ?_ | refine w_box1 I (by (conv => lhs; whnf) <;> rfl) (by rfl) ?_); clear I; intro g w I) | ((with_reducible refine galloc ?_); refine w_alloc I ?_; clear I; intro g w I) | ((with_reducible refine gload ?_); first | refine w_loadB I (by rfl) (by first | (with_reducible repeat (first | exact .here | apply At.there)); done | repeat (first | exact .here | apply At.there)) (by rfl) ?_ | refine w_loadBR I (by rfl) (by first | (with_reducible repeat (first | exact .here | apply At.there)); done | repeat (first | exact .here | apply At.there)) (by rfl) ?_ | refine w_load0 I (by rfl) (by assumption) ?_) | ((with_reducible refine gstore ?_); (first | refine w_storeB I (by rfl) (by (conv => lhs; whnf) <;> rfl) (by first | (with_reducible repeat (first | exact .here | apply Upd.there)); done | repeat (first | exact .here | apply Upd.there)) (by rfl) (by rfl) (by simp only [List.set_cons_zero, List.set_cons_succ] <;> rfl) ?_ | refine w_storeBR I (by rfl) (by rfl) (by first | (with_reducible repeat (first | exact .here | apply Upd.there)); done | repeat (first | exact .here | apply Upd.there)) (by rfl) (by rfl) (by rfl) ?_); clear I; intro w I)) | (((with_reducible refine gbs ?_); refine w_bs1 (enc := encB) (b := (9 : UInt8)) encB_len I (by rfl) (by rfl) (by rfl) ?_); clear I; intro g w I) | (go_at_call 65; go_must (refine (octets_NewWriter _ _ _ I).mono ?_; rintro _ w1 ⟨g1, rfl, I1⟩; clear I; have I := I1; clear I1)) | (go_at_call 66; ((with_reducible refine (octets_NumZ _ ([], 0) 258 258 rfl 3 (by decide) (by simp) _ _ _ _ I (by first | (with_reducible repeat (first | exact .here | apply At.there)); done | repeat (first | exact .here | apply At.there))).mono ?_); rintro _ w1 ⟨rfl, I1⟩; rw [E1.out] at I1; clear I; have I := I1; clear I1)) | (go_at_call 68; go_must (refine (octets_Int _ ([0, 1, 2], 0) (-2) (by simp) _ _ _ _ I (by first | (with_reducible repeat (first | exact .here | apply At.there)); done | repeat (first | exact .here | apply At.there))).mono ?_; rintro _ w1 ⟨rfl, I1⟩; rw [E2.out] at I1; clear I; have I := I1; clear I1)) | (go_at_call 70; go_must (refine (octets_Bool _ ([0, 1, 2, 255, 255, 255, 255, 255, 255, 255, 254], 0) true (by simp) _ _ _ _ I (by first | (with_reducible repeat (first | exact .here | apply At.there)); done | repeat (first | exact .here | apply At.there))).mono ?_; rintro _ w1 ⟨rfl, I1⟩; rw [E3.out] at I1; clear I; have I := I1; clear I1)) | (go_at_call 72; go_must (refine (octets_RunO _ ([0, 1, 2, 255, 255, 255, 255, 255, 255, 255, 254, 1], 0) [9] _ (by simp) (by simp) _ _ _ _ _ I (by first | (with_reducible repeat (first | exact .here | apply At.there)); done | repeat (first | exact .here | apply At.there)) (by first | (with_reducible repeat (first | exact .here | apply At.there)); done | repeat (first | exact .here | apply At.there))).mono ?_; rintro _ w1 ⟨rfl, I1⟩; rw [E4.out] at I1; clear I; have I := I1; clear I1)) | (go_at_call 74; ((with_reducible refine (octets_DoneQ _ ([0, 1, 2, 255, 255, 255, 255, 255, 255, 255, 254, 1, 0, 0, 0, 1, 9], 0) [0, 1, 2, 255, 255, 255, 255, 255, 255, 255, 254, 1, 0, 0, 0, 1, 9] 0 rfl rfl (by simp) _ _ _ _ I (by first | (with_reducible repeat (first | exact .here | apply At.there)); done | repeat (first | exact .here | apply At.there))).mono ?_); rintro _ w1 ⟨Ab, mb, cb, rfl, I1⟩; clear I; have I := I1; clear I1; obtain ⟨gb, cb2, hv, _⟩ := (I.own .here).base_of (by simp); injection hv with v1 v2 v3; subst v1 v2 v3; simp only [List.length_cons, List.length_nil, Nat.reduceAdd] at I)) | (go_at_call 75; ((with_reducible refine (octets_NewReader _ [0, 1, 2, 255, 255, 255, 255, 255, 255, 255, 254, 1, 0, 0, 0, 1, 9] (by simp) _ _ _ I (I.slv (by first | (with_reducible repeat (first | exact .here | apply At.there)); done | repeat (first | exact .here | apply At.there)) encB_len)).mono ?_); rintro _ w1 ⟨gr, rfl, I1⟩; clear I; have I := I1; clear I1)) | (go_at_call 76; go_must (refine (octets_RNumA _ ([0, 1, 2, 255, 255, 255, 255, 255, 255, 255, 254, 1, 0, 0, 0, 1, 9], 0) 3 (by simp) _ _ _ _ I (by first | (with_reducible repeat (first | exact .here | apply At.there)); done | repeat (first | exact .here | apply At.there))).mono ?_; rintro _ w1 ⟨rfl, I1⟩; rw [E5.out] at I1 ⊢; clear I; have I := I1; clear I1)) | (go_at_call 78; go_must (refine (octets_RInt _ ([255, 255, 255, 255, 255, 255, 255, 254, 1, 0, 0, 0, 1, 9], 0) (by simp) _ _ _ _ I (by first | (with_reducible repeat (first | exact .here | apply At.there)); done | repeat (first | exact .here | apply At.there))).mono ?_; rintro _ w1 ⟨rfl, I1⟩; rw [E6.out] at I1 ⊢; clear I; have I := I1; clear I1)) | (go_at_call 80; ((with_reducible refine (octets_RBool _ ([1, 0, 0, 0, 1, 9], 0) (by simp) _ _ _ _ I (by first | (with_reducible repeat (first | exact .here | apply At.there)); done | repeat (first | exact .here | apply At.there))).mono ?_); rintro _ w1 ⟨rfl, I1⟩; rw [E7.out] at I1 ⊢; clear I; have I := I1; clear I1)) | (go_at_call 82; go_must (refine (octets_RRun _ ([0, 0, 0, 1, 9], 0) (by simp) _ _ _ _ I (by first | (with_reducible repeat (first | exact .here | apply At.there)); done | repeat (first | exact .here | apply At.there))).mono ?_; rintro _ w1 ⟨Au, mu, cu, rfl, I1⟩; rw [E8.out] at I1; clear I; have I := I1; clear I1; obtain ⟨gu, cu2, hv, _⟩ := (I.own .here).base_of (by simp); injection hv with v1 v2 v3; subst v1 v2 v3; simp only [List.length_cons, List.length_nil, Nat.reduceAdd] at I)))
  go_upto_region 17 with (first | (first | ((with_reducible refine gguard ?_); (first | refine w_guardT (by rfl) (fun hb => ?_) (fun hb => ?_) | refine w_guardF (by rfl) (fun hb => ?_) (fun hb => ?_)) <;> first | (cases hb; done) | cases hb | ((try rw [hb]) <;> (try simp at hb) <;> go_prune <;> (try (with_reducible replace hb := eqPair hb)))) | (((with_reducible refine gbox ?_); first | refine w_boxA I (by rfl) ?_ | refine w_box1 I (by (conv => lhs; whnf) <;> rfl) (by rfl) ?_); clear I; intro g w I) | ((with_reducible refine galloc ?_); refine w_alloc I ?_; clear I; intro g w I) | ((with_reducible refine gload ?_); first | refine w_loadB I (by rfl) (by first | (with_reducible repeat (first | exact .here | apply At.there)); done | repeat (first | exact .here | apply At.there)) (by rfl) ?_ | refine w_loadBR I (by rfl) (by first | (with_reducible repeat (first | exact .here | apply At.there)); done | repeat (first | exact .here | apply At.there)) (by rfl) ?_ | refine w_load0 I (by rfl) (by assumption) ?_) | ((with_reducible refine gstore ?_); (first | refine w_storeB I (by rfl) (by (conv => lhs; whnf) <;> rfl) (by first | (with_reducible repeat (first | exact .here | apply Upd.there)); done | repeat (first | exact .here | apply Upd.there)) (by rfl) (by rfl) (by simp only [List.set_cons_zero, List.set_cons_succ] <;> rfl) ?_ | refine w_storeBR I (by rfl) (by rfl) (by first | (with_reducible repeat (first | exact .here | apply Upd.there)); done | repeat (first | exact .here | apply Upd.there)) (by rfl) (by rfl) (by rfl) ?_); clear I; intro w I)) | (((with_reducible refine gbs ?_); refine w_bs1 (enc := encB) (b := (2 : UInt8)) encB_len I (by rfl) (by rfl) (by rfl) ?_); clear I; intro g w I) | (go_at_call 65; go_must (refine (octets_NewWriter _ _ _ I).mono ?_; rintro _ w1 ⟨g1, rfl, I1⟩; clear I; have I := I1; clear I1)) | (go_at_call 66; ((with_reducible refine (octets_NumZ _ ([], 0) 256 256 rfl 1 (by decide) (by simp) _ _ _ _ I (by first | (with_reducible repeat (first | exact .here | apply At.there)); done | repeat (first | exact .here | apply At.there))).mono ?_); rintro _ w1 ⟨rfl, I1⟩; rw [E9.out] at I1; clear I; have I := I1; clear I1)) | (go_at_call 74; ((with_reducible refine (octets_DoneQ _ ([], 1) [] 1 rfl rfl (by simp) _ _ _ _ I (by first | (with_reducible repeat (first | exact .here | apply At.there)); done | repeat (first | exact .here | apply At.there))).mono ?_); rintro _ w1 ⟨Ad, md, cd, rfl, I1⟩; clear I; have I := I1; clear I1)) | (go_at_call 75; ((with_reducible refine (octets_NewReader _ [2] (by simp) _ _ _ I (I.slv (by first | (with_reducible repeat (first | exact .here | apply At.there)); done | repeat (first | exact .here | apply At.there)) encB_len)).mono ?_); rintro _ w1 ⟨gs, rfl, I1⟩; clear I; have I := I1; clear I1)) | (go_at_call 80; ((with_reducible refine (octets_RBool _ ([2], 0) (by simp) _ _ _ _ I (by first | (with_reducible repeat (first | exact .here | apply At.there)); done | repeat (first | exact .here | apply At.there))).mono ?_); rintro _ w1 ⟨rfl, I1⟩; rw [E10.out] at I1 ⊢; clear I; have I := I1; clear I1)))
  have b1 : w1.cell? ⟨gb, 1, none⟩ = some (.int .u8 1) := (I.own (v := .slice (some ⟨gb, 0, none⟩) 17 cb) (l := [0, 1, 2, 255, 255, 255, 255, 255, 255, 255, 254, 1, 0, 0, 0, 1, 9]) (enc := encB) (by first | (with_reducible repeat (first | exact .here | apply At.there)); done | repeat (first | exact .here | apply At.there))).cellB 1 (by decide)
  have b10 : w1.cell? ⟨gb, 10, none⟩ = some (.int .u8 254) := (I.own (v := .slice (some ⟨gb, 0, none⟩) 17 cb) (l := [0, 1, 2, 255, 255, 255, 255, 255, 255, 255, 254, 1, 0, 0, 0, 1, 9]) (enc := encB) (by first | (with_reducible repeat (first | exact .here | apply At.there)); done | repeat (first | exact .here | apply At.there))).cellB 10 (by decide)
  have u0 : w1.cell? ⟨gu, 0, none⟩ = some (.int .u8 9) := (I.own (v := .slice (some ⟨gu, 0, none⟩) 1 cu) (l := [9]) (enc := encB) (by first | (with_reducible repeat (first | exact .here | apply At.there)); done | repeat (first | exact .here | apply At.there))).cellB 0 (by decide)
  go_wp2_with (first | (go_at_call 86; ((with_reducible refine (octets_RDone gr ([], 0) _ _ _ _ I (by first | (with_reducible repeat (first | exact .here | apply At.there)); done | repeat (first | exact .here | apply At.there))).mono ?_); rintro _ w1 ⟨rfl, rfl⟩; rw [E11.out])) | (go_at_call 86; ((with_reducible refine (octets_RDone gs ([], 2) _ _ _ _ I (by first | (with_reducible repeat (first | exact .here | apply At.there)); done | repeat (first | exact .here | apply At.there))).mono ?_); rintro _ w1 ⟨rfl, rfl⟩; rw [E12.out])))
  go_ret
  exact ⟨rfl, I.fr⟩

/-- A thing that is written, or read. -/
structure Thing where
  kind : UInt8
  n : Nat
  size : Int
  run : List UInt8
def thingR : Rdr Thing := fun w cs x => ∃ v, cs = [.int .u8 (x.kind.toNat : Int), .int .u64 x.n, .int .i64 x.size, v] ∧ Bytes w v x.run ∧ x.n < 18446744073709551616
abbrev Things (w : World) (v : Value) (l : List Thing) : Prop := SlV 4 thingR w v l
theorem thingR_stays : Stays thingR := fun _ _ _ _ hf ⟨v, h1, h2, h3⟩ => ⟨v, h1, h2.frF hf, h3⟩
theorem atT {w : World} {A : Option Addr} {l : List Thing} (h : SlA 4 thingR w A l) (i : Nat) (hi : i < l.length) : ∃ b o A' c', A = some ⟨b, o, none⟩ ∧ w.cell? ⟨b, o + i * 4, none⟩ = some (.int .u8 (l[i].kind.toNat : Int)) ∧ w.cell? ⟨b, o + i * 4 + 1, none⟩ = some (.int .u64 l[i].n) ∧ w.cell? ⟨b, o + i * 4 + 2, none⟩ = some (.int .i64 l[i].size) ∧ w.cell? ⟨b, o + i * 4 + 3, none⟩ = some (.slice A' l[i].run.length c') ∧ Bytes w (.slice A' l[i].run.length c') l[i].run ∧ l[i].n < 18446744073709551616 := by
  obtain ⟨b, o, rfl, cs, _, ⟨v, rfl, h1, h2⟩, h3⟩ := h.at_ i hi
  have h1' := h1
  obtain ⟨A', _, c', rfl, rfl, _⟩ := h1'
  exact ⟨b, o, A', c', rfl, by simpa using h3 0 _ rfl, by simpa using h3 1 _ rfl, by simpa using h3 2 _ rfl, by simpa using h3 3 _ rfl, h1, h2⟩
def runs (l : List Thing) : Nat := (l.map fun x => x.run.length).sum
theorem runs_take (l : List Thing) (k : Nat) (h : k < l.length) : runs (l.take (k + 1)) = runs (l.take k) + l[k].run.length := by
  unfold runs
  rw [List.take_succ_eq_append_getElem h, List.map_append, List.sum_append]
  simp
theorem runs_le (l : List Thing) (k : Nat) : runs (l.take k) ≤ runs l := by
  unfold runs
  conv => rhs; rw [← List.take_append_drop k l, List.map_append, List.sum_append]
  omega
theorem run_le (l : List Thing) (k : Nat) (h : k < l.length) : l[k].run.length ≤ runs l := by
  have h1 := runs_take l k h
  have h2 := runs_le l (k + 1)
  omega
def FitsPost (l : List Thing) (w : World) (en : Ending) (w' : World) : Prop := ∃ b, en = .returned (.bool b) ∧ (b = true → l.length ≤ 100 ∧ runs l ≤ 1000) ∧ w = w'
set_option maxHeartbeats 1000000 in
theorem law04_Fits (v : Value) (l : List Thing) (w : World) (h : Things w v l) : Calls Try.prog 63 #[v] w (FitsPost l w) := by
  obtain ⟨A, _, c, rfl, rfl, hmc, hcm, hA0, hs⟩ := h
  unfold maxLen at hcm
  have HS := Lib.hid hs
  clear hs
  by_cases hl : 100 < l.length
  · go_enter Try.func63, Try.ntmps63
    go_wp2_with fail
    go_ret
    exact ⟨false, rfl, by simp, rfl⟩
  · go_enter Try.func63, Try.ntmps63
    go_wp2_with fail
    go_loop [3, 4] (fun n i => ∃ k : Nat, i = .int .i64 k ∧ k ≤ l.length ∧ n = .int .i64 (runs (l.take k)) ∧ runs (l.take k) ≤ 1000) (fun _ i => l.length - (intOf i).toNat)
    case atStart => exact ⟨0, rfl, by omega, rfl, by simp [runs]⟩
    case round =>
      obtain ⟨k, rfl, hk, rfl, hr⟩ := hrel
      by_cases hlt : k < l.length
      · obtain ⟨b, o, A', c', rfl, h0, h1, h2, h3, h4, h5⟩ := atT HS.out k hlt
        have hlm := h4.len_le
        unfold maxLen at hlm
        have HN := Lib.hid (runs_take l k hlt)
        have HB := Lib.hid h4
        clear h0 h1 h2 h4 h5
        generalize l[k] = x at *
        generalize runs (l.take k) = u at *
        have hkl : (k : Int) < (l.length : Int) := by omega
        have hc4 : ∀ j, (c' : Int) = j → True := fun _ _ => trivial
        clear hc4
        go_wp2_with fail
        all_goals first
          | (go_ret; exact ⟨false, rfl, by simp, rfl⟩)
          | (go_round
             case rel => exact ⟨k + 1, by go_num, by omega, by rw [HN.out]; go_num, by rw [HN.out]; omega⟩
             case measure => simp [intOf]; omega)
      · obtain rfl : k = l.length := by omega
        rw [List.take_length] at hr
        go_wp2_with fail
        go_ret
        exact ⟨true, rfl, fun _ => ⟨by omega, hr⟩, rfl⟩
end Go.Proofs.Ythgmnlkblomcaaa
