
/- Certificates (layer 17): contracts of books. -/
import Derived.Test.YtpnpgeilhafepaaCrtR
import Derived.Deep.RegionLaw
import Derived.Laws.StructEq
import Derived.Deep.CutBlock
namespace Go.Proofs.Ytpnpgeilhafepaa
open Go.RowKit Go.Hf

set_option maxRecDepth 100000 in
set_option maxHeartbeats 400000 in
theorem clone_certs (v : Value) (l : List Cert) (w : World) (h : SlV 8 (flat encC) w v l) (hm : l.length * 64 ≤ 140737488355328) :
    Calls Try.prog 71 #[v] w fun e w' => ∃ v', e = .returned v' ∧ Own w.heap.size 38 8 encC w' v' l ∧ Fr w w' ∧ (v' = .slice none 0 0 ↔ v = .slice none 0 0) := by
  obtain ⟨A, _, c, rfl, rfl, hl, _, hA, h⟩ := h
  have HS := Lib.hid h
  have HC := Lib.hid hl
  have HAc := Lib.hid hA
  have HM := Lib.hid hm
  clear h hl hA hm
  cases A with
  | none =>
    obtain rfl : l = [] := HS.out.1 rfl
    obtain rfl : c = 0 := HAc.out rfl
    have hq := fun wx => Lib.run_eql_slice_nil (P := Try.prog) wx 47 38 none 0 0 0 0 Try.underlying47
    go_enter Try.func71, Try.ntmps71
    go_wp2
    go_ret
    exact ⟨_, rfl, Own.nil _ _ _ _ _, Fr.refl _, by simp⟩
  | some a =>
    have hq := fun wx => Lib.run_eql_slice_nil (P := Try.prog) wx 47 38 (some a) l.length c 0 0 Try.underlying47
    go_enter Try.func71, Try.ntmps71
    go_wp2_with ((with_reducible refine gate (.call { callee := .builtin .append, args := #[.tmp 5, .tmp 6], argTypes := #[47, 47] }) rfl ?_); refine wpList_app rfl (.tmp 5) (.tmp 6) 47 rfl w.heap.size 38 (.agg #[.int .i64 0, .int .i64 0, .int .i64 0, .int .i64 0, .int .i64 0, .int .i64 0, .int .i64 0, .int .i64 0]) 8 64 Try.underlying47 (by kernel_rfl) rfl (by decide) encC_len encC_one (l := []) rfl (Own.lit _ _ _ _ w #[] [] (Nat.le_refl _) (Nat.zero_le _) encC_len rfl) rfl HC.out ((HS.out.fr (flat_stays _) ((Fr.refl w).alloc _)).raw encC_len (by decide)) (fun h => (by cases h)) ?_ ?_ ?_ ?_)
    · have := HM.out; simp; omega
    · have := HM.out; simp [maxLen]; omega
    · simp
    · intro v' w1 h1 h2 h3 _
      have H3 := Lib.hid h3
      clear h3
      go_wp2
      go_ret
      refine ⟨_, rfl, h1, Fr.grown ((Fr.refl w).alloc _) h2 (fun k hk => ?_), ?_⟩
      · simp [Value.ownBlock] at hk; omega
      · simpa using H3.out

theorem eq_cert (x y : Cert) (wx : World) : (Op.equalIn 10000 38 (aggC x) (aggC y)).run Try.prog wx = .ok (decide (x = y)) wx := by
  have hu := Try.underlying38
  have h3 := Try.underlying3
  go_simp
  clear hu h3
  rcases x with ⟨a, b, c, d, e, f, g, h⟩
  rcases y with ⟨a', b', c', d', e', f', g', h'⟩
  (repeat' split) <;> simp_all
theorem atC {w : World} {A : Option Addr} {l : List Cert} (h : SlA 8 (flat encC) w A l) (i : Nat) (hi : i < l.length) : ∃ b o, A = some ⟨b, o, none⟩ ∧ w.cell? ⟨b, o + i * 8, none⟩ = some (.int .i64 l[i].id) ∧ w.cell? ⟨b, o + i * 8 + 1, none⟩ = some (.int .i64 l[i].order) ∧ w.cell? ⟨b, o + i * 8 + 2, none⟩ = some (.int .i64 l[i].lot) ∧ w.cell? ⟨b, o + i * 8 + 3, none⟩ = some (.int .i64 l[i].product) ∧ w.cell? ⟨b, o + i * 8 + 4, none⟩ = some (.int .i64 l[i].units) ∧ w.cell? ⟨b, o + i * 8 + 5, none⟩ = some (.int .i64 l[i].minute) ∧ w.cell? ⟨b, o + i * 8 + 6, none⟩ = some (.int .i64 l[i].exposure) ∧ w.cell? ⟨b, o + i * 8 + 7, none⟩ = some (.int .i64 l[i].allowance) := by
  obtain ⟨b, o, rfl, cs, _, rfl, h3⟩ := h.at_ i hi
  exact ⟨b, o, rfl, by simpa using h3 0 _ rfl, by simpa using h3 1 _ rfl, by simpa using h3 2 _ rfl, by simpa using h3 3 _ rfl, by simpa using h3 4 _ rfl, by simpa using h3 5 _ rfl, by simpa using h3 6 _ rfl, by simpa using h3 7 _ rfl⟩
abbrev Certs (w : World) (v : Value) (l : List Cert) : Prop := SlV 8 (flat encC) w v l

namespace Crt
def issue (l : List Cert) (c : Cert) : List Cert × Int × Int := if right c = true then (l ++ [{ c with id := (l.length : Int) + 1 }], (l.length : Int) + 1, 0) else (l, 0, 1)
def get (l : List Cert) (id : Int) : Cert × Int := if id < 1 ∨ (l.length : Int) < id then (zero, 5) else (l.getD (id.toNat - 1) zero, 0)
def flags (now : List Int) (l : List Cert) : Nat → List Int
  | 0 => []
  | k + 1 => flags now l k ++ (if k < now.length ∧ (l.getD k zero).allowance < now.getD k 0 then [(l.getD k zero).id] else [])
theorem flags_len (now : List Int) (l : List Cert) (k : Nat) : (flags now l k).length ≤ k := by
  induction k with
  | zero => exact Nat.le_refl _
  | succ k ih => unfold flags; rw [List.length_append]; split <;> simp <;> omega
end Crt

/-- A book. -/
def BkC (g : Nat) (l : List Cert) : Asr := ExS fun v : Value => AllS [Blk g [v] 121, OwnS 38 8 encC v l]
theorem BkC.open {g : Nat} {l : List Cert} {w0 w : World} {L R : List Asr} (I : St w0 w L) (hA : At (BkC g l) L R) : ∃ A c, l.length ≤ c ∧ c ≤ maxLen ∧ St w0 w (Blk g [.slice A l.length c] 121 :: OwnS 38 8 encC (.slice A l.length c) l :: R) := by
  obtain ⟨v, I⟩ := (I.take hA).ex
  have I := I.all
  obtain ⟨A, c, rfl, hc, hm, _⟩ := (I.own (.there .here)).reads encC_len
  exact ⟨A, c, hc, hm, I⟩
theorem BkC.mk {g : Nat} {l : List Cert} {v : Value} {w0 w : World} {L R1 R : List Asr} (I : St w0 w L) (h1 : At (OwnS 38 8 encC v l) L R1) (h2 : At (Blk g [v] 121) R1 R) : St w0 w (BkC g l :: R) :=
  St.mkEx v (St.mkAll (M := [_, _]) ((I.take h1).take (.there h2)))
theorem cert_New (w0 w : World) (L : List Asr) (I : St w0 w L) : Calls Try.prog 25 #[] w fun en w' => ∃ g, en = .returned (.pointer (some ⟨g, 0, none⟩)) ∧ St w0 w' (BkC g [] :: L) := by
  go_enter Try.func25, Try.ntmps25
  go_wp2_with (first | ((with_reducible refine gbox (ty := 121) ?_); (first | refine w_boxA I (by rfl) ?_ | refine w_box1 I (by (conv => lhs; whnf) <;> rfl) (by rfl) ?_); clear I; intro gb w I) | (first | ((with_reducible refine gguard ?_); (first | refine w_guardT (by rfl) (fun hb => ?_) (fun hb => ?_) | refine w_guardF (by rfl) (fun hb => ?_) (fun hb => ?_)) <;> first | (cases hb; done) | cases hb | ((try rw [hb]) <;> (try simp at hb) <;> go_prune <;> (try (with_reducible replace hb := eqPair hb)))) | (((with_reducible refine gbox ?_); first | refine w_boxA I (by rfl) ?_ | refine w_box1 I (by (conv => lhs; whnf) <;> rfl) (by rfl) ?_); clear I; intro g w I) | ((with_reducible refine galloc ?_); refine w_alloc I ?_; clear I; intro g w I) | ((with_reducible refine gload ?_); first | refine w_loadB I (by rfl) (by first | (with_reducible repeat (first | exact .here | apply At.there)); done | repeat (first | exact .here | apply At.there)) (by rfl) ?_ | refine w_loadBR I (by rfl) (by first | (with_reducible repeat (first | exact .here | apply At.there)); done | repeat (first | exact .here | apply At.there)) (by rfl) ?_ | refine w_load0 I (by rfl) (by assumption) ?_) | ((with_reducible refine gstore ?_); (first | refine w_storeB I (by rfl) (by (conv => lhs; whnf) <;> rfl) (by first | (with_reducible repeat (first | exact .here | apply Upd.there)); done | repeat (first | exact .here | apply Upd.there)) (by rfl) (by rfl) (by simp only [List.set_cons_zero, List.set_cons_succ] <;> rfl) ?_ | refine w_storeBR I (by rfl) (by rfl) (by first | (with_reducible repeat (first | exact .here | apply Upd.there)); done | repeat (first | exact .here | apply Upd.there)) (by rfl) (by rfl) (by rfl) ?_); clear I; intro w I)))
  go_ret
  exact ⟨gb, rfl, BkC.mk (I.nilOwn 38 8 encC) .here .here⟩

set_option maxRecDepth 100000 in
set_option maxHeartbeats 2000000 in
theorem cert_Issue (g : Nat) (l : List Cert) (c : Cert) (hl : l.length ≤ 1000) (w0 w : World) (L R : List Asr) (I : St w0 w L) (hA : At (BkC g l) L R) :
    Calls Try.prog 26 #[.pointer (some ⟨g, 0, none⟩), aggC c] w fun en w' => en = .returned (.tuple #[.int .i64 (Crt.issue l c).2.1, .int .i64 (Crt.issue l c).2.2]) ∧ St w0 w' (BkC g (Crt.issue l c).1 :: R) := by
  obtain ⟨A, cp, hcp, hcm, I⟩ := BkC.open I hA
  clear hA
  unfold Crt.issue
  cases hr : Crt.right c with
  | false =>
    have HR := Lib.hid hr
    clear hr
    rw [if_neg (by simp)]
    go_enter Try.func26, Try.ntmps26
    go_wp2_with (first | (first | ((with_reducible refine gguard ?_); (first | refine w_guardT (by rfl) (fun hb => ?_) (fun hb => ?_) | refine w_guardF (by rfl) (fun hb => ?_) (fun hb => ?_)) <;> first | (cases hb; done) | cases hb | ((try rw [hb]) <;> (try simp at hb) <;> go_prune <;> (try (with_reducible replace hb := eqPair hb)))) | (((with_reducible refine gbox ?_); first | refine w_boxA I (by rfl) ?_ | refine w_box1 I (by (conv => lhs; whnf) <;> rfl) (by rfl) ?_); clear I; intro g w I) | ((with_reducible refine galloc ?_); refine w_alloc I ?_; clear I; intro g w I) | ((with_reducible refine gload ?_); first | refine w_loadB I (by rfl) (by first | (with_reducible repeat (first | exact .here | apply At.there)); done | repeat (first | exact .here | apply At.there)) (by rfl) ?_ | refine w_loadBR I (by rfl) (by first | (with_reducible repeat (first | exact .here | apply At.there)); done | repeat (first | exact .here | apply At.there)) (by rfl) ?_ | refine w_load0 I (by rfl) (by assumption) ?_) | ((with_reducible refine gstore ?_); (first | refine w_storeB I (by rfl) (by (conv => lhs; whnf) <;> rfl) (by first | (with_reducible repeat (first | exact .here | apply Upd.there)); done | repeat (first | exact .here | apply Upd.there)) (by rfl) (by rfl) (by simp only [List.set_cons_zero, List.set_cons_succ] <;> rfl) ?_ | refine w_storeBR I (by rfl) (by rfl) (by first | (with_reducible repeat (first | exact .here | apply Upd.there)); done | repeat (first | exact .here | apply Upd.there)) (by rfl) (by rfl) (by rfl) ?_); clear I; intro w I)) | (go_at_call 24; go_must (refine (cert_Right c _).mono ?_; rintro _ w1 ⟨rfl, hf⟩; rw [HR.out]; replace I := I.still hf; clear hf)))
    exact ret_2 rfl (by first | (exact ResV.t _ (by rfl)) | (exact ResV.row I (by rfl) (by first | (with_reducible repeat (first | exact .here | apply At.there)); done | repeat (first | exact .here | apply At.there)) (by rfl)) | (exact ResV.one I (by rfl) (by first | (with_reducible repeat (first | exact .here | apply At.there)); done | repeat (first | exact .here | apply At.there)))) (by first | (exact ResV.t _ (by rfl)) | (exact ResV.row I (by rfl) (by first | (with_reducible repeat (first | exact .here | apply At.there)); done | repeat (first | exact .here | apply At.there)) (by rfl)) | (exact ResV.one I (by rfl) (by first | (with_reducible repeat (first | exact .here | apply At.there)); done | repeat (first | exact .here | apply At.there)))) rfl ⟨rfl, BkC.mk I.drop1 (.there .here) .here⟩
  | true =>
    have HR := Lib.hid hr
    clear hr
    rw [if_pos rfl]
    unfold maxLen at hcm
    have q1 := IntWalk.i64_in ((l.length : Int) + 1) (by omega)
    go_enter Try.func26, Try.ntmps26
    go_upto_region 4 with (first | ((with_reducible refine gbox (ty := 38) ?_); (first | refine w_boxA I (by rfl) ?_ | refine w_box1 I (by (conv => lhs; whnf) <;> rfl) (by rfl) ?_); clear I; intro gb w I) | (first | ((with_reducible refine gguard ?_); (first | refine w_guardT (by rfl) (fun hb => ?_) (fun hb => ?_) | refine w_guardF (by rfl) (fun hb => ?_) (fun hb => ?_)) <;> first | (cases hb; done) | cases hb | ((try rw [hb]) <;> (try simp at hb) <;> go_prune <;> (try (with_reducible replace hb := eqPair hb)))) | (((with_reducible refine gbox ?_); first | refine w_boxA I (by rfl) ?_ | refine w_box1 I (by (conv => lhs; whnf) <;> rfl) (by rfl) ?_); clear I; intro g w I) | ((with_reducible refine galloc ?_); refine w_alloc I ?_; clear I; intro g w I) | ((with_reducible refine gload ?_); first | refine w_loadB I (by rfl) (by first | (with_reducible repeat (first | exact .here | apply At.there)); done | repeat (first | exact .here | apply At.there)) (by rfl) ?_ | refine w_loadBR I (by rfl) (by first | (with_reducible repeat (first | exact .here | apply At.there)); done | repeat (first | exact .here | apply At.there)) (by rfl) ?_ | refine w_load0 I (by rfl) (by assumption) ?_) | ((with_reducible refine gstore ?_); (first | refine w_storeB I (by rfl) (by (conv => lhs; whnf) <;> rfl) (by first | (with_reducible repeat (first | exact .here | apply Upd.there)); done | repeat (first | exact .here | apply Upd.there)) (by rfl) (by rfl) (by simp only [List.set_cons_zero, List.set_cons_succ] <;> rfl) ?_ | refine w_storeBR I (by rfl) (by rfl) (by first | (with_reducible repeat (first | exact .here | apply Upd.there)); done | repeat (first | exact .here | apply Upd.there)) (by rfl) (by rfl) (by rfl) ?_); clear I; intro w I)) | (go_at_call 24; go_must (refine (cert_Right c _).mono ?_; rintro _ w1 ⟨rfl, hf⟩; rw [HR.out]; replace I := I.still hf; clear hf)))
    have J := I.drew
    have F := J.facts
    dsimp only [AllF, Asr.facts, Blk, OwnS] at F
    have FA := fun o => (I.still ((Fr.refl _).alloc o)).facts
    dsimp only [AllF, Asr.facts, Blk, OwnS] at FA
    go_region_law ((refine step_append encC_len encC_one (by decide) (I.alloc _ _).drew (by rfl) (by first | (with_reducible repeat (first | exact .here | apply At.there)); done | repeat (first | exact .here | apply At.there)) (by rfl) ((I.alloc _ _).drew.slvB (l2 := [{ c with id := (l.length : Int) + 1 }]) (by first | (with_reducible repeat (first | exact .here | apply At.there)); done | repeat (first | exact .here | apply At.there)) (by simp [encC]) rfl (by simp [maxLen]) encC_len) (by simp; omega) (by simp [maxLen]; omega) ?_; intro A2 m2 c2 w2 I2; have F2 := I2.facts; dsimp only [AllF, Asr.facts, Blk, OwnS] at F2))
    all_goals
      have I3 := I2.set (g := g) (i := 0) (v := .slice A2 m2 c2) (by first | (with_reducible repeat (first | exact .here | apply Upd.there)); done | repeat (first | exact .here | apply Upd.there)) rfl
      clear F FA F2 J I2 I
      have I := I3
      clear I3
      go_wp2_with (first | ((with_reducible refine gguard ?_); (first | refine w_guardT (by rfl) (fun hb => ?_) (fun hb => ?_) | refine w_guardF (by rfl) (fun hb => ?_) (fun hb => ?_)) <;> first | (cases hb; done) | cases hb | ((try rw [hb]) <;> (try simp at hb) <;> go_prune <;> (try (with_reducible replace hb := eqPair hb)))) | (((with_reducible refine gbox ?_); first | refine w_boxA I (by rfl) ?_ | refine w_box1 I (by (conv => lhs; whnf) <;> rfl) (by rfl) ?_); clear I; intro g w I) | ((with_reducible refine galloc ?_); refine w_alloc I ?_; clear I; intro g w I) | ((with_reducible refine gload ?_); first | refine w_loadB I (by rfl) (by first | (with_reducible repeat (first | exact .here | apply At.there)); done | repeat (first | exact .here | apply At.there)) (by rfl) ?_ | refine w_loadBR I (by rfl) (by first | (with_reducible repeat (first | exact .here | apply At.there)); done | repeat (first | exact .here | apply At.there)) (by rfl) ?_ | refine w_load0 I (by rfl) (by assumption) ?_) | ((with_reducible refine gstore ?_); (first | refine w_storeB I (by rfl) (by (conv => lhs; whnf) <;> rfl) (by first | (with_reducible repeat (first | exact .here | apply Upd.there)); done | repeat (first | exact .here | apply Upd.there)) (by rfl) (by rfl) (by simp only [List.set_cons_zero, List.set_cons_succ] <;> rfl) ?_ | refine w_storeBR I (by rfl) (by rfl) (by first | (with_reducible repeat (first | exact .here | apply Upd.there)); done | repeat (first | exact .here | apply Upd.there)) (by rfl) (by rfl) (by rfl) ?_); clear I; intro w I))
      exact ret_2 rfl (by first | (exact ResV.t _ (by rfl)) | (exact ResV.row I (by rfl) (by first | (with_reducible repeat (first | exact .here | apply At.there)); done | repeat (first | exact .here | apply At.there)) (by rfl)) | (exact ResV.one I (by rfl) (by first | (with_reducible repeat (first | exact .here | apply At.there)); done | repeat (first | exact .here | apply At.there)))) (by first | (exact ResV.t _ (by rfl)) | (exact ResV.row I (by rfl) (by first | (with_reducible repeat (first | exact .here | apply At.there)); done | repeat (first | exact .here | apply At.there)) (by rfl)) | (exact ResV.one I (by rfl) (by first | (with_reducible repeat (first | exact .here | apply At.there)); done | repeat (first | exact .here | apply At.there)))) rfl ⟨rfl, BkC.mk ((I.drop (.there .here)).drop (.there .here)) .here .here⟩
theorem cert_Issue_nil (c : Cert) (w0 : World) : Calls Try.prog 26 #[.pointer none, aggC c] w0 fun en w' => en = .returned (.tuple #[.int .i64 0, .int .i64 1]) ∧ Fr w0 w' := by
  have I := St.refl w0
  go_enter Try.func26, Try.ntmps26
  go_wp2_with (first | ((with_reducible refine gguard ?_); (first | refine w_guardT (by rfl) (fun hb => ?_) (fun hb => ?_) | refine w_guardF (by rfl) (fun hb => ?_) (fun hb => ?_)) <;> first | (cases hb; done) | cases hb | ((try rw [hb]) <;> (try simp at hb) <;> go_prune <;> (try (with_reducible replace hb := eqPair hb)))) | (((with_reducible refine gbox ?_); first | refine w_boxA I (by rfl) ?_ | refine w_box1 I (by (conv => lhs; whnf) <;> rfl) (by rfl) ?_); clear I; intro g w I) | ((with_reducible refine galloc ?_); refine w_alloc I ?_; clear I; intro g w I) | ((with_reducible refine gload ?_); first | refine w_loadB I (by rfl) (by first | (with_reducible repeat (first | exact .here | apply At.there)); done | repeat (first | exact .here | apply At.there)) (by rfl) ?_ | refine w_loadBR I (by rfl) (by first | (with_reducible repeat (first | exact .here | apply At.there)); done | repeat (first | exact .here | apply At.there)) (by rfl) ?_ | refine w_load0 I (by rfl) (by assumption) ?_) | ((with_reducible refine gstore ?_); (first | refine w_storeB I (by rfl) (by (conv => lhs; whnf) <;> rfl) (by first | (with_reducible repeat (first | exact .here | apply Upd.there)); done | repeat (first | exact .here | apply Upd.there)) (by rfl) (by rfl) (by simp only [List.set_cons_zero, List.set_cons_succ] <;> rfl) ?_ | refine w_storeBR I (by rfl) (by rfl) (by first | (with_reducible repeat (first | exact .here | apply Upd.there)); done | repeat (first | exact .here | apply Upd.there)) (by rfl) (by rfl) (by rfl) ?_); clear I; intro w I))
  exact ret_2 rfl (by first | (exact ResV.t _ (by rfl)) | (exact ResV.row I (by rfl) (by first | (with_reducible repeat (first | exact .here | apply At.there)); done | repeat (first | exact .here | apply At.there)) (by rfl)) | (exact ResV.one I (by rfl) (by first | (with_reducible repeat (first | exact .here | apply At.there)); done | repeat (first | exact .here | apply At.there)))) (by first | (exact ResV.t _ (by rfl)) | (exact ResV.row I (by rfl) (by first | (with_reducible repeat (first | exact .here | apply At.there)); done | repeat (first | exact .here | apply At.there)) (by rfl)) | (exact ResV.one I (by rfl) (by first | (with_reducible repeat (first | exact .here | apply At.there)); done | repeat (first | exact .here | apply At.there)))) rfl ⟨rfl, I.fr⟩
set_option maxRecDepth 100000 in
set_option maxHeartbeats 2000000 in
theorem cert_Cert (g : Nat) (l : List Cert) (id : Int) (w0 w : World) (L R : List Asr) (I : St w0 w L) (hA : At (BkC g l) L R) :
    Calls Try.prog 28 #[.pointer (some ⟨g, 0, none⟩), .int .i64 id] w fun en w' => en = .returned (.tuple #[aggC (Crt.get l id).1, .int .i64 (Crt.get l id).2]) ∧ Fr w w' := by
  obtain ⟨A, cp, hcp, hcm, J⟩ := BkC.open I hA
  clear hA
  have HC0 := J.cell (g := g) (i := 0) .here rfl
  have HO := (J.slv (.there .here) encC_len).sla
  clear J I
  have I := St.refl w
  unfold maxLen at hcm
  unfold Crt.get
  by_cases hid : id < 1 ∨ (l.length : Int) < id
  · rw [if_pos hid]
    rcases hid with hid | hid
    · go_enter Try.func28, Try.ntmps28
      go_wp2_with (first | ((with_reducible refine gguard ?_); (first | refine w_guardT (by rfl) (fun hb => ?_) (fun hb => ?_) | refine w_guardF (by rfl) (fun hb => ?_) (fun hb => ?_)) <;> first | (cases hb; done) | cases hb | ((try rw [hb]) <;> (try simp at hb) <;> go_prune <;> (try (with_reducible replace hb := eqPair hb)))) | (((with_reducible refine gbox ?_); first | refine w_boxA I (by rfl) ?_ | refine w_box1 I (by (conv => lhs; whnf) <;> rfl) (by rfl) ?_); clear I; intro g w I) | ((with_reducible refine galloc ?_); refine w_alloc I ?_; clear I; intro g w I) | ((with_reducible refine gload ?_); first | refine w_loadB I (by rfl) (by first | (with_reducible repeat (first | exact .here | apply At.there)); done | repeat (first | exact .here | apply At.there)) (by rfl) ?_ | refine w_loadBR I (by rfl) (by first | (with_reducible repeat (first | exact .here | apply At.there)); done | repeat (first | exact .here | apply At.there)) (by rfl) ?_ | refine w_load0 I (by rfl) (by assumption) ?_) | ((with_reducible refine gstore ?_); (first | refine w_storeB I (by rfl) (by (conv => lhs; whnf) <;> rfl) (by first | (with_reducible repeat (first | exact .here | apply Upd.there)); done | repeat (first | exact .here | apply Upd.there)) (by rfl) (by rfl) (by simp only [List.set_cons_zero, List.set_cons_succ] <;> rfl) ?_ | refine w_storeBR I (by rfl) (by rfl) (by first | (with_reducible repeat (first | exact .here | apply Upd.there)); done | repeat (first | exact .here | apply Upd.there)) (by rfl) (by rfl) (by rfl) ?_); clear I; intro w I))
      all_goals first | exact ret_2 rfl (by first | (exact ResV.t _ (by rfl)) | (exact ResV.row I (by rfl) (by first | (with_reducible repeat (first | exact .here | apply At.there)); done | repeat (first | exact .here | apply At.there)) (by rfl)) | (exact ResV.one I (by rfl) (by first | (with_reducible repeat (first | exact .here | apply At.there)); done | repeat (first | exact .here | apply At.there)))) (by first | (exact ResV.t _ (by rfl)) | (exact ResV.row I (by rfl) (by first | (with_reducible repeat (first | exact .here | apply At.there)); done | repeat (first | exact .here | apply At.there)) (by rfl)) | (exact ResV.one I (by rfl) (by first | (with_reducible repeat (first | exact .here | apply At.there)); done | repeat (first | exact .here | apply At.there)))) rfl ⟨rfl, I.fr⟩ | omega
    · go_enter Try.func28, Try.ntmps28
      go_wp2_with (first | ((with_reducible refine gguard ?_); (first | refine w_guardT (by rfl) (fun hb => ?_) (fun hb => ?_) | refine w_guardF (by rfl) (fun hb => ?_) (fun hb => ?_)) <;> first | (cases hb; done) | cases hb | ((try rw [hb]) <;> (try simp at hb) <;> go_prune <;> (try (with_reducible replace hb := eqPair hb)))) | (((with_reducible refine gbox ?_); first | refine w_boxA I (by rfl) ?_ | refine w_box1 I (by (conv => lhs; whnf) <;> rfl) (by rfl) ?_); clear I; intro g w I) | ((with_reducible refine galloc ?_); refine w_alloc I ?_; clear I; intro g w I) | ((with_reducible refine gload ?_); first | refine w_loadB I (by rfl) (by first | (with_reducible repeat (first | exact .here | apply At.there)); done | repeat (first | exact .here | apply At.there)) (by rfl) ?_ | refine w_loadBR I (by rfl) (by first | (with_reducible repeat (first | exact .here | apply At.there)); done | repeat (first | exact .here | apply At.there)) (by rfl) ?_ | refine w_load0 I (by rfl) (by assumption) ?_) | ((with_reducible refine gstore ?_); (first | refine w_storeB I (by rfl) (by (conv => lhs; whnf) <;> rfl) (by first | (with_reducible repeat (first | exact .here | apply Upd.there)); done | repeat (first | exact .here | apply Upd.there)) (by rfl) (by rfl) (by simp only [List.set_cons_zero, List.set_cons_succ] <;> rfl) ?_ | refine w_storeBR I (by rfl) (by rfl) (by first | (with_reducible repeat (first | exact .here | apply Upd.there)); done | repeat (first | exact .here | apply Upd.there)) (by rfl) (by rfl) (by rfl) ?_); clear I; intro w I))
      all_goals first | exact ret_2 rfl (by first | (exact ResV.t _ (by rfl)) | (exact ResV.row I (by rfl) (by first | (with_reducible repeat (first | exact .here | apply At.there)); done | repeat (first | exact .here | apply At.there)) (by rfl)) | (exact ResV.one I (by rfl) (by first | (with_reducible repeat (first | exact .here | apply At.there)); done | repeat (first | exact .here | apply At.there)))) (by first | (exact ResV.t _ (by rfl)) | (exact ResV.row I (by rfl) (by first | (with_reducible repeat (first | exact .here | apply At.there)); done | repeat (first | exact .here | apply At.there)) (by rfl)) | (exact ResV.one I (by rfl) (by first | (with_reducible repeat (first | exact .here | apply At.there)); done | repeat (first | exact .here | apply At.there)))) rfl ⟨rfl, I.fr⟩ | omega
  · rw [if_neg hid]
    obtain ⟨k, hk⟩ : ∃ k : Nat, id = (k : Int) + 1 := ⟨id.toNat - 1, by omega⟩
    subst hk
    have hk1 : k < l.length := by omega
    obtain ⟨b, o, rfl, cs, _, rfl, h3⟩ := HO.at_ k hk1
    have HE : Hid (l.getD (((k : Int) + 1).toNat - 1) Crt.zero = l[k]) := Lib.hid (by rw [show ((k : Int) + 1).toNat - 1 = k by omega, List.getD_eq_getElem?_getD, List.getElem?_eq_getElem hk1]; rfl)
    rw [HE.out]
    have H3 := Lib.hid h3
    clear h3
    generalize l[k] = x at *
    clear HO hid
    have q1 := IntWalk.i64_in (k : Int) (by omega)
    have q2 : IntKind.i64.wrap ((k : Int) + 1 - 1) = (k : Int) := by rw [IntWalk.i64_in _ (by omega)]; omega
    have hkl : (k : Int) < (l.length : Int) := by omega
    have g1 : ¬ ((k : Int) + 1 < 1) := by omega
    have g2 : ¬ ((l.length : Int) < (k : Int) + 1) := by omega
    go_enter Try.func28, Try.ntmps28
    go_wp2_with (first | ((with_reducible refine gload (ty := 38) ?_); refine w_loadR (n := 8) (cs := encC x) (by rfl) rfl (fun j u hj => by rw [addr_add]; exact I.fr.cell (H3.out j u hj)) ?_) | (first | ((with_reducible refine gguard ?_); (first | refine w_guardT (by rfl) (fun hb => ?_) (fun hb => ?_) | refine w_guardF (by rfl) (fun hb => ?_) (fun hb => ?_)) <;> first | (cases hb; done) | cases hb | ((try rw [hb]) <;> (try simp at hb) <;> go_prune <;> (try (with_reducible replace hb := eqPair hb)))) | (((with_reducible refine gbox ?_); first | refine w_boxA I (by rfl) ?_ | refine w_box1 I (by (conv => lhs; whnf) <;> rfl) (by rfl) ?_); clear I; intro g w I) | ((with_reducible refine galloc ?_); refine w_alloc I ?_; clear I; intro g w I) | ((with_reducible refine gload ?_); first | refine w_loadB I (by rfl) (by first | (with_reducible repeat (first | exact .here | apply At.there)); done | repeat (first | exact .here | apply At.there)) (by rfl) ?_ | refine w_loadBR I (by rfl) (by first | (with_reducible repeat (first | exact .here | apply At.there)); done | repeat (first | exact .here | apply At.there)) (by rfl) ?_ | refine w_load0 I (by rfl) (by assumption) ?_) | ((with_reducible refine gstore ?_); (first | refine w_storeB I (by rfl) (by (conv => lhs; whnf) <;> rfl) (by first | (with_reducible repeat (first | exact .here | apply Upd.there)); done | repeat (first | exact .here | apply Upd.there)) (by rfl) (by rfl) (by simp only [List.set_cons_zero, List.set_cons_succ] <;> rfl) ?_ | refine w_storeBR I (by rfl) (by rfl) (by first | (with_reducible repeat (first | exact .here | apply Upd.there)); done | repeat (first | exact .here | apply Upd.there)) (by rfl) (by rfl) (by rfl) ?_); clear I; intro w I)))
    all_goals first | exact ret_2 rfl (by first | (exact ResV.t _ (by rfl)) | (exact ResV.row I (by rfl) (by first | (with_reducible repeat (first | exact .here | apply At.there)); done | repeat (first | exact .here | apply At.there)) (by rfl)) | (exact ResV.one I (by rfl) (by first | (with_reducible repeat (first | exact .here | apply At.there)); done | repeat (first | exact .here | apply At.there)))) (by first | (exact ResV.t _ (by rfl)) | (exact ResV.row I (by rfl) (by first | (with_reducible repeat (first | exact .here | apply At.there)); done | repeat (first | exact .here | apply At.there)) (by rfl)) | (exact ResV.one I (by rfl) (by first | (with_reducible repeat (first | exact .here | apply At.there)); done | repeat (first | exact .here | apply At.there)))) rfl ⟨rfl, I.fr⟩ | omega
theorem cert_Cert_nil (id : Int) (w0 : World) : Calls Try.prog 28 #[.pointer none, .int .i64 id] w0 fun en w' => en = .returned (.tuple #[aggC Crt.zero, .int .i64 1]) ∧ Fr w0 w' := by
  have I := St.refl w0
  go_enter Try.func28, Try.ntmps28
  go_wp2_with (first | ((with_reducible refine gguard ?_); (first | refine w_guardT (by rfl) (fun hb => ?_) (fun hb => ?_) | refine w_guardF (by rfl) (fun hb => ?_) (fun hb => ?_)) <;> first | (cases hb; done) | cases hb | ((try rw [hb]) <;> (try simp at hb) <;> go_prune <;> (try (with_reducible replace hb := eqPair hb)))) | (((with_reducible refine gbox ?_); first | refine w_boxA I (by rfl) ?_ | refine w_box1 I (by (conv => lhs; whnf) <;> rfl) (by rfl) ?_); clear I; intro g w I) | ((with_reducible refine galloc ?_); refine w_alloc I ?_; clear I; intro g w I) | ((with_reducible refine gload ?_); first | refine w_loadB I (by rfl) (by first | (with_reducible repeat (first | exact .here | apply At.there)); done | repeat (first | exact .here | apply At.there)) (by rfl) ?_ | refine w_loadBR I (by rfl) (by first | (with_reducible repeat (first | exact .here | apply At.there)); done | repeat (first | exact .here | apply At.there)) (by rfl) ?_ | refine w_load0 I (by rfl) (by assumption) ?_) | ((with_reducible refine gstore ?_); (first | refine w_storeB I (by rfl) (by (conv => lhs; whnf) <;> rfl) (by first | (with_reducible repeat (first | exact .here | apply Upd.there)); done | repeat (first | exact .here | apply Upd.there)) (by rfl) (by rfl) (by simp only [List.set_cons_zero, List.set_cons_succ] <;> rfl) ?_ | refine w_storeBR I (by rfl) (by rfl) (by first | (with_reducible repeat (first | exact .here | apply Upd.there)); done | repeat (first | exact .here | apply Upd.there)) (by rfl) (by rfl) (by rfl) ?_); clear I; intro w I))
  exact ret_2 rfl (by first | (exact ResV.t _ (by rfl)) | (exact ResV.row I (by rfl) (by first | (with_reducible repeat (first | exact .here | apply At.there)); done | repeat (first | exact .here | apply At.there)) (by rfl)) | (exact ResV.one I (by rfl) (by first | (with_reducible repeat (first | exact .here | apply At.there)); done | repeat (first | exact .here | apply At.there)))) (by first | (exact ResV.t _ (by rfl)) | (exact ResV.row I (by rfl) (by first | (with_reducible repeat (first | exact .here | apply At.there)); done | repeat (first | exact .here | apply At.there)) (by rfl)) | (exact ResV.one I (by rfl) (by first | (with_reducible repeat (first | exact .here | apply At.there)); done | repeat (first | exact .here | apply At.there)))) rfl ⟨rfl, I.fr⟩
theorem cert_All (g : Nat) (l : List Cert) (hl : l.length ≤ 1000) (w0 w : World) (L R : List Asr) (I : St w0 w L) (hA : At (BkC g l) L R) :
    Calls Try.prog 30 #[.pointer (some ⟨g, 0, none⟩)] w fun en w' => ∃ v', en = .returned v' ∧ St w w' [OwnS 38 8 encC v' l] := by
  obtain ⟨A, cp, hcp, hcm, J⟩ := BkC.open I hA
  clear hA
  have HC0 := J.cell (g := g) (i := 0) .here rfl
  have HO := Lib.hid (J.slv (.there .here) encC_len)
  clear J I
  have I := St.refl w
  go_enter Try.func30, Try.ntmps30
  go_wp2_with (first | (first | ((with_reducible refine gguard ?_); (first | refine w_guardT (by rfl) (fun hb => ?_) (fun hb => ?_) | refine w_guardF (by rfl) (fun hb => ?_) (fun hb => ?_)) <;> first | (cases hb; done) | cases hb | ((try rw [hb]) <;> (try simp at hb) <;> go_prune <;> (try (with_reducible replace hb := eqPair hb)))) | (((with_reducible refine gbox ?_); first | refine w_boxA I (by rfl) ?_ | refine w_box1 I (by (conv => lhs; whnf) <;> rfl) (by rfl) ?_); clear I; intro g w I) | ((with_reducible refine galloc ?_); refine w_alloc I ?_; clear I; intro g w I) | ((with_reducible refine gload ?_); first | refine w_loadB I (by rfl) (by first | (with_reducible repeat (first | exact .here | apply At.there)); done | repeat (first | exact .here | apply At.there)) (by rfl) ?_ | refine w_loadBR I (by rfl) (by first | (with_reducible repeat (first | exact .here | apply At.there)); done | repeat (first | exact .here | apply At.there)) (by rfl) ?_ | refine w_load0 I (by rfl) (by assumption) ?_) | ((with_reducible refine gstore ?_); (first | refine w_storeB I (by rfl) (by (conv => lhs; whnf) <;> rfl) (by first | (with_reducible repeat (first | exact .here | apply Upd.there)); done | repeat (first | exact .here | apply Upd.there)) (by rfl) (by rfl) (by simp only [List.set_cons_zero, List.set_cons_succ] <;> rfl) ?_ | refine w_storeBR I (by rfl) (by rfl) (by first | (with_reducible repeat (first | exact .here | apply Upd.there)); done | repeat (first | exact .here | apply Upd.there)) (by rfl) (by rfl) (by rfl) ?_); clear I; intro w I)) | (go_at_call 71; go_must (refine (clone_certs _ l _ HO.out (by omega)).mono ?_; rintro _ w1 ⟨v2, rfl, ho, hf, _⟩; replace I := I.mkOwn hf ho; clear hf ho)))
  go_ret
  exact ⟨_, rfl, I⟩
theorem cert_All_nil (w0 : World) : Calls Try.prog 30 #[.pointer none] w0 fun en w' => en = .returned (.slice none 0 0) ∧ w0 = w' := by
  go_enter Try.func30, Try.ntmps30
  go_wp2_with fail
  go_ret
  exact ⟨rfl, rfl⟩
end Go.Proofs.Ytpnpgeilhafepaa
