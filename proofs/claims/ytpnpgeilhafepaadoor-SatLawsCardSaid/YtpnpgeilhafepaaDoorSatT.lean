
/- Numbers that stop at the most (layer 2): texts. -/
import Derived.Test.YtpnpgeilhafepaaDoorSatM
import Derived.Test.YtpnpgeilhafepaaDoorShI
import Derived.Test.YtpnpgeilhafepaaDoorRows
import Derived.Test.YtpnpgeilhafepaaDoorFrameL
import Derived.Lib.LaidTab
import Derived.Stop.LaidErr
import Derived.Laws.IdiomStrings
namespace Go.Proofs.YtpnpgeilhafepaaDoor
open Go.RowKit Go.Hf

abbrev laid3 : List (String × DataW Unit) := [("math/bits.deBruijn32tab", Rows.laid_math_bits_deBruijn32tab), ("math/bits.deBruijn64tab", Rows.laid_math_bits_deBruijn64tab), ("internal/strconv.uint64pow10", Rows.laid_internal_strconv_uint64pow10)]
abbrev Pow (w : World) : Prop := Go.Lib.TabIs Tryd.prog w "internal/strconv.uint64pow10" .u64 Go.Lib.pow10Tab
theorem Pow.fr {w w' : World} (h : Pow w) (hf : Fr w w') : Pow w' := by
  unfold Pow Go.Lib.TabIs World.var? at *
  cases hg : Tryd.prog.globalNamed "internal/strconv.uint64pow10" with
  | none => rw [hg] at h; cases h
  | some g =>
    rw [hg] at h
    simp only [Option.bind_some] at h ⊢
    cases hb : w.heap[g]? with
    | none => rw [hb] at h; cases h
    | some o =>
      rw [hf.block (Array.getElem?_eq_some_iff.1 hb).1, hb]
      rw [hb] at h
      exact h
theorem pow_of_laid {W : World} (h : laidMetH Tryd.prog laid3 W) : Pow W := by
  rw [MakeChecks.laidMetH_plain _ _ _ (by kernel_rfl)] at h
  exact Go.Lib.tabIs_of_head (P := Tryd.prog) (W := W) (name := "internal/strconv.uint64pow10") (k := .u64) (zs := Go.Lib.pow10Tab) (rest := []) (g := 1) (n := 20) (by kernel_rfl) (by kernel_rfl) Tryd.underlying90 Tryd.underlying49 (by kernel_rfl) (by kernel_rfl) h.tail.tail
theorem door_met3 (os : Os) (args : Array Value) : laidMetH Tryd.prog laid3 ((World.doorLaid Tryd.prog 400 os).forCall (fun _ _ => 0) ⟨#[], args, []⟩).memory :=
  laidMetH_of_parts3 (fuel := 8) (laidMet_of_run' 8 (by kernel_rfl) (by kernel_rfl)) (by kernel_rfl) (by kernel_rfl)
theorem fr_grow (w : World) (k : Nat) (os : Array Obj) : Fr w (Go.Sort.grow (w.drewN k) os) :=
  Fr.trans ((Fr.refl w).drewN k) ⟨rfl, rfl, rfl, by rw [Go.Sort.size_grow]; exact Nat.le_add_right _ _, fun j hj => Go.Sort.heap_grow_old _ _ hj⟩
theorem strconv_Itoa (n : Int) (h0 : 0 ≤ n) (h1 : n ≤ 4611686018427387904) (w : World) (hT : Pow w) : Calls Tryd.prog 50 #[.int .i64 n] w fun e w' => e = .returned (.string ⟨(Go.Lib.decDigits n.toNat).toArray⟩) ∧ Fr w w' := by
  refine (Tryd.strconv_Itoa n (by omega) (by omega) w hT).mono ?_
  rintro e w' ⟨rfl, k, os, rfl⟩
  refine ⟨?_, fr_grow w k os⟩
  unfold Go.Lib.itoa
  rw [if_neg (by omega)]
theorem sat_Text (n : Int) (w : World) (hT : Pow w) : Calls Tryd.prog 28 #[.int .i64 n] w fun e w' => e = .returned (.string ⟨(Sat.text n).toArray⟩) ∧ Fr w w' := by
  have HI := Lib.hid (strconv_Itoa (Sat.fit n) (Sat.fit_ge n) (Sat.fit_le n) w hT)
  unfold Sat.text
  go_enter Tryd.func28, Tryd.ntmps28
  go_wp2_with (first | (go_at_call 20; go_must (refine (sat_Fit _ _).mono ?_; rintro _ w1 ⟨rfl, rfl⟩)) | (go_at_call 50; go_must (refine (HI.out).mono ?_; rintro _ w1 ⟨rfl, hf⟩)))
  go_ret
  exact ⟨rfl, hf⟩
section
variable {P : Program} {ops : Array Oper} {Q : Exit → Act → World → Prop} {rest : List Oper} {a : Act} {w : World} {dst : Option Tmp} {tt t1 t2 : TypeId} {pos : String} {after : Array Edge} {x : Operand}
theorem gconv (h : wpList P ops Q (⟨dst, .convert t1 t2 x, tt, pos, after, none⟩ :: rest) a w) : wpList P ops Q (⟨dst, .convert t1 t2 x, tt, pos, after, none⟩ :: rest) a w := h
theorem w_conv {u v : Value} (hx : a.eval x = v) (hr : (convert t1 t2 v).run P w = .ok u w) (k : wpList P ops Q rest (a.put dst u) w) : wpList P ops Q (⟨dst, .convert t1 t2 x, tt, pos, after, none⟩ :: rest) a w :=
  wpList_plain rfl fun K hK => by
    unfold Oper.wp execOp
    simp only [hx, hr, Sem.run_bind, Sem.run_pure, Result.andThen_ok]
    exact hK _ _ k
end
theorem dec_len : ∀ (N u : Nat), u ≤ N → (Go.Lib.decDigits u).length ≤ u + 1 := by
  intro N
  induction N using Nat.strongRecOn with
  | _ N ih =>
    intro u hu
    rw [Go.Lib.decDigits]
    split
    · simp
    · have := ih (u / 10) (by omega) (u / 10) (Nat.le_refl _)
      rw [List.length_append, List.length_singleton]
      omega
theorem ba_app (l r : List UInt8) : ((⟨l.toArray⟩ : ByteArray) ++ (⟨r.toArray⟩ : ByteArray)) = ⟨(l ++ r).toArray⟩ := by
  apply ByteArray.ext
  simp
theorem byte_of (x : Int) (h0 : 0 ≤ x) (h1 : x < 10) : ∃ d : UInt8, (48 + x : Int) = (d.toNat : Int) ∧ d = UInt8.ofNat (48 + x.toNat) := by
  refine ⟨UInt8.ofNat (48 + x.toNat), ?_, rfl⟩
  rw [UInt8.toNat_ofNat']
  omega
theorem own_conv {w0 w : World} {L R : List Asr} {g c : Nat} {d : UInt8} (I : St w0 w L) (m : At (OwnS 5 1 encB (.slice (some ⟨g, 0, none⟩) 1 c) [d]) L R) : (convert 23 9 (.slice (some ⟨g, 0, none⟩) 1 c)).run Tryd.prog w = .ok (.string ⟨[d].toArray⟩) w := by
  have h := run_convert_bytes_back (P := Tryd.prog) w 23 9 5 ⟨g, 0, none⟩ c [d] Tryd.underlying23 Tryd.underlying5 Tryd.underlying9 (fun j hj => by
    rw [addr_add, Nat.zero_add]
    exact (I.own m).cellB j hj)
  exact h
set_option maxRecDepth 100000 in
set_option maxHeartbeats 2000000 in
theorem ref02_Text : ∀ (N : Nat) (n : Int), (Sat.fit n).toNat ≤ N → ∀ w : World, Calls Tryd.prog 29 #[.int .i64 n] w fun e w' => e = .returned (.string ⟨(Sat.text n).toArray⟩) ∧ Fr w w' := by
  intro N
  induction N using Nat.strongRecOn with
  | _ N ih =>
    intro n hn w0
    have I := St.refl w0
    have a0 := Sat.fit_ge n
    have a1 := Sat.fit_le n
    have HF := Lib.hid (fun w => ref02_Fit n w)
    have HE : Hid (Sat.text n = Go.Lib.decDigits (Sat.fit n).toNat) := Lib.hid rfl
    generalize Sat.fit n = x at *
    have IH := Lib.hid ih
    clear ih
    by_cases hx : 10 ≤ x
    · have hm0 : x.tmod 10 = x % 10 := Int.tmod_eq_emod_of_nonneg a0
      have hdv : x.tdiv 10 = x / 10 := Int.tdiv_eq_ediv_of_nonneg a0
      obtain ⟨d, hd, hdd⟩ := byte_of (x % 10) (by omega) (by omega)
      have HR := Lib.hid (IH.out (x / 10).toNat (by omega) (x / 10) (by rw [Sat.fit_id _ (by omega) (by omega)]; exact Nat.le_refl _))
      have HT : Hid (Sat.text n = Sat.text (x / 10) ++ [d]) := Lib.hid (by
        rw [HE.out, Go.Lib.decDigits, dif_neg (by omega)]
        unfold Sat.text
        rw [Sat.fit_id _ (by omega) (by omega), hdd]
        have e1 : x.toNat / 10 = (x / 10).toNat := by omega
        have e2 : x.toNat % 10 = (x % 10).toNat := by omega
        rw [e1, e2])
      have htl : (Sat.text (x / 10)).length ≤ 9000000000000000000 := by
        have := dec_len _ (Sat.fit (x / 10)).toNat (Nat.le_refl _)
        have h2 := Sat.fit_le (x / 10)
        unfold Sat.text
        omega
      have hr0 : 0 ≤ x % 10 ∧ x % 10 < 10 := by omega
      obtain ⟨hr0, hr1⟩ := hr0
      have hdl := d.toNat_lt
      clear hdd
      generalize Sat.text (x / 10) = tx at *
      have htl2 : ¬ 9223372036854775807 < tx.length + 1 := by omega
      go_enter Tryd.func29, Tryd.ntmps29
      go_wp2_with (first | (((with_reducible refine gbs ?_); refine w_bs1 (enc := encB) (b := d) encB_len I (by rfl) (by rfl) (by rfl) ?_); clear I; intro g w I) | ((with_reducible refine gconv ?_); refine w_conv (by rfl) (own_conv I (by first | (with_reducible repeat (first | exact .here | apply At.there)); done | repeat (first | exact .here | apply At.there))) ?_) | (first | ((with_reducible refine gguard ?_); (first | refine w_guardT (by rfl) (fun hb => ?_) (fun hb => ?_) | refine w_guardF (by rfl) (fun hb => ?_) (fun hb => ?_)) <;> first | (cases hb; done) | cases hb | ((try rw [hb]) <;> (try simp at hb) <;> go_prune <;> (try (with_reducible replace hb := eqPair hb)))) | (((with_reducible refine gbox ?_); first | refine w_boxA I (by rfl) ?_ | refine w_box1 I (by (conv => lhs; whnf) <;> rfl) (by rfl) ?_); clear I; intro g w I) | ((with_reducible refine galloc ?_); refine w_alloc I ?_; clear I; intro g w I) | ((with_reducible refine gload ?_); first | refine w_loadB I (by rfl) (by first | (with_reducible repeat (first | exact .here | apply At.there)); done | repeat (first | exact .here | apply At.there)) (by rfl) ?_ | refine w_loadBR I (by rfl) (by first | (with_reducible repeat (first | exact .here | apply At.there)); done | repeat (first | exact .here | apply At.there)) (by rfl) ?_ | refine w_load0 I (by rfl) (by assumption) ?_) | ((with_reducible refine gstore ?_); (first | refine w_storeB I (by rfl) (by (conv => lhs; whnf) <;> rfl) (by first | (with_reducible repeat (first | exact .here | apply Upd.there)); done | repeat (first | exact .here | apply Upd.there)) (by rfl) (by rfl) (by simp only [List.set_cons_zero, List.set_cons_succ] <;> rfl) ?_ | refine w_storeBR I (by rfl) (by rfl) (by first | (with_reducible repeat (first | exact .here | apply Upd.there)); done | repeat (first | exact .here | apply Upd.there)) (by rfl) (by rfl) (by rfl) ?_); clear I; intro w I)) | (go_at_call 21; go_must (refine (HF.out _).mono ?_; rintro _ w1 ⟨rfl, rfl⟩)) | (go_at_call 29; go_must (refine (HR.out _).mono ?_; rintro _ w1 ⟨rfl, hf⟩; replace I := I.still hf; clear hf)))
      all_goals first | (go_ret; exact ⟨by rw [HT.out, ← ba_app]; rfl, I.fr⟩) | omega
    · obtain ⟨d, hd, hdd⟩ := byte_of x a0 (by omega)
      have HT : Hid (Sat.text n = [d]) := Lib.hid (by rw [HE.out, Go.Lib.decDigits, dif_pos (by omega), hdd])
      have hm : x.tmod 10 = x := by rw [Int.tmod_eq_emod_of_nonneg a0]; omega
      have hm2 : x % 10 = x := by omega
      have hdl := d.toNat_lt
      clear hdd
      go_enter Tryd.func29, Tryd.ntmps29
      go_wp2_with (first | (((with_reducible refine gbs ?_); refine w_bs1 (enc := encB) (b := d) encB_len I (by rfl) (by rfl) (by rfl) ?_); clear I; intro g w I) | ((with_reducible refine gconv ?_); refine w_conv (by rfl) (own_conv I (by first | (with_reducible repeat (first | exact .here | apply At.there)); done | repeat (first | exact .here | apply At.there))) ?_) | (first | ((with_reducible refine gguard ?_); (first | refine w_guardT (by rfl) (fun hb => ?_) (fun hb => ?_) | refine w_guardF (by rfl) (fun hb => ?_) (fun hb => ?_)) <;> first | (cases hb; done) | cases hb | ((try rw [hb]) <;> (try simp at hb) <;> go_prune <;> (try (with_reducible replace hb := eqPair hb)))) | (((with_reducible refine gbox ?_); first | refine w_boxA I (by rfl) ?_ | refine w_box1 I (by (conv => lhs; whnf) <;> rfl) (by rfl) ?_); clear I; intro g w I) | ((with_reducible refine galloc ?_); refine w_alloc I ?_; clear I; intro g w I) | ((with_reducible refine gload ?_); first | refine w_loadB I (by rfl) (by first | (with_reducible repeat (first | exact .here | apply At.there)); done | repeat (first | exact .here | apply At.there)) (by rfl) ?_ | refine w_loadBR I (by rfl) (by first | (with_reducible repeat (first | exact .here | apply At.there)); done | repeat (first | exact .here | apply At.there)) (by rfl) ?_ | refine w_load0 I (by rfl) (by assumption) ?_) | ((with_reducible refine gstore ?_); (first | refine w_storeB I (by rfl) (by (conv => lhs; whnf) <;> rfl) (by first | (with_reducible repeat (first | exact .here | apply Upd.there)); done | repeat (first | exact .here | apply Upd.there)) (by rfl) (by rfl) (by simp only [List.set_cons_zero, List.set_cons_succ] <;> rfl) ?_ | refine w_storeBR I (by rfl) (by rfl) (by first | (with_reducible repeat (first | exact .here | apply Upd.there)); done | repeat (first | exact .here | apply Upd.there)) (by rfl) (by rfl) (by rfl) ?_); clear I; intro w I)) | (go_at_call 21; go_must (refine (HF.out _).mono ?_; rintro _ w1 ⟨rfl, rfl⟩)))
      all_goals try omega
      go_ret
      exact ⟨by rw [HT.out]; rfl, I.fr⟩
end Go.Proofs.YtpnpgeilhafepaaDoor
