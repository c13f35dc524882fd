
/- Readings (layer 6): contract of the library's Insert. -/
import Derived.Test.YtggeloihnbjogaaSer
import Derived.Test.YtggeloihnbjogaaTypes
import Derived.Deep.RegionLaw
import Derived.Shelf.RegionOpenPlain
import Derived.Deep.CutBlock
import Derived.Laws.Externs
namespace Go.Proofs.Ytggeloihnbjogaa
open Go.RowKit Go.Hf

theorem St.apart {w0 w : World} {R : List Asr} {α : Type} {e tb : TypeId} {n vb g q c : Nat} {cs : List Value} {enc : α → List Value} {l : List α} (I : St w0 w (Blk vb cs tb :: OwnS e n enc (.slice (some ⟨g, 0, none⟩) q c) l :: R)) : vb ≠ g := by
  obtain ⟨_, F, ⟨F1, F2, b, ⟨G1, G2, b2, _, _, e2⟩, d, _⟩, _⟩ := I
  intro h
  subst h
  exact d vb ((b.2 vb).2 rfl) ((e2 vb).2 (.inl ((b2.2 vb).2 rfl)))
theorem ins_one {α : Type} (l : List α) (x z : α) (i k : Nat) (hi : i ≤ l.length) : l.take i ++ [x] ++ List.replicate (k - 1) z = (l.take i ++ List.replicate k z).take i ++ [x] ++ (l.take i ++ List.replicate k z).drop (i + [x].length) := by
  have h1 : (l.take i).length = i := by rw [List.length_take]; omega
  rw [List.take_left' h1, List.drop_append, h1, List.drop_eq_nil_of_le (by rw [h1]; simp), List.nil_append, List.drop_replicate]
  congr 2
  simp
theorem ins_two {α : Type} (l : List α) (x z : α) (i k : Nat) (hi : i ≤ l.length) (hk : k ≤ l.length + 1 - i) : l.take i ++ x :: l.drop i = (l.take i ++ [x] ++ List.replicate (k - 1) z).take (i + 1) ++ l.drop i ++ (l.take i ++ [x] ++ List.replicate (k - 1) z).drop (i + 1 + (l.drop i).length) := by
  have h1 : (l.take i ++ [x]).length = i + 1 := by rw [List.length_append, List.length_take, List.length_singleton]; omega
  have h2 : (l.take i ++ [x] ++ List.replicate (k - 1) z).length ≤ i + 1 + (l.drop i).length := by rw [List.length_append, h1, List.length_replicate, List.length_drop]; omega
  rw [List.take_left' h1, List.drop_eq_nil_of_le h2, List.append_nil, List.append_assoc]
  rfl
theorem ins_shift {α : Type} (l : List α) (i : Nat) (hi : i < l.length) : l.take (i + 1) ++ l.drop i = l.take (i + 1) ++ l.drop i ++ l.drop (i + 1 + (l.drop i).length) := by
  have h2 : l.length ≤ i + 1 + (l.drop i).length := by rw [List.length_drop]; omega
  rw [List.drop_eq_nil_of_le h2, List.append_nil]
theorem ins_put {α : Type} (l : List α) (x : α) (i : Nat) (hi : i < l.length) : l.take i ++ x :: l.drop i = (l.take (i + 1) ++ l.drop i).take i ++ [x] ++ (l.take (i + 1) ++ l.drop i).drop (i + [x].length) := by
  have h1 : (l.take (i + 1)).length = i + 1 := by rw [List.length_take]; omega
  have h2 : (l.take (i + 1) ++ l.drop i).take i = l.take i := by
    rw [List.take_append_of_le_length (by omega), List.take_take, Nat.min_eq_left (by omega)]
  rw [h2, List.length_singleton, List.drop_left' h1, List.append_assoc]
  rfl
theorem St.row {w0 w : World} {L R : List Asr} {α : Type} {e : TypeId} {n g q c : Nat} {enc : α → List Value} {l : List α} (I : St w0 w L) (hA : At (OwnS e n enc (.slice (some ⟨g, 0, none⟩) q c) l) L R) (hc : 0 < c) (hn : 0 < n) : ∃ cur t, w.heap[g]? = some (.cells cur t (0, 0)) ∧ cur.size ≠ 0 := by
  obtain ⟨_, h⟩ := I.own hA
  rcases h with ⟨e1, _⟩ | ⟨g', cap, cur, e1, _, hg, _, _, h5, _⟩
  · cases e1
  · injection e1 with e1 e2 e3
    injection e1 with e1
    injection e1 with e1
    subst e1 e3
    exact ⟨cur, _, hg, by rw [h5]; exact Nat.ne_of_gt (Nat.mul_pos hc hn)⟩
theorem run_overlaps (w : World) (vb g o lb cb : Nat) (cs cur : Array Value) (t1 t2 : TypeId) (hne : vb ≠ g) (h1 : w.heap[vb]? = some (.cells cs t1 (0, 0))) (h2 : w.heap[g]? = some (.cells cur t2 (0, 0))) (hc : cur.size ≠ 0) :
    (callFunc 95 #[.slice (some ⟨vb, 0, none⟩) 1 1, .slice (some ⟨g, o, none⟩) lb cb]).run Try.prog w = .ok (.value (.bool false)) w := by
  rw [run_callFunc_extern Try.func95 (by kernel_rfl) (by kernel_rfl) (by kernel_rfl) (e := Extern.SlicesOverlaps.overlaps #[23, 23] #[4]) (by kernel_rfl),
    Go.Lib.run_overlaps_apart w 23 4 36 Try.underlying23 3 Try.sizeOf36 ⟨vb, 0, none⟩ ⟨g, o, none⟩ 1 1 lb cb hne t1 t2 cs.size cur.size (by simp [World.shape?, h1]) (by simp [World.shape?, h2]) hc (frozen_of_row w vb 0 cs t1 h1) (frozen_of_row w vb _ cs t1 h1)]
  rfl
set_option maxRecDepth 100000 in
set_option maxHeartbeats 2000000 in
theorem series_Insert (v : Value) (l : List Rd) (x : Rd) (i vb : Nat) (hi : i ≤ l.length) (hl : l.length ≤ 100000) (w0 w : World) (L R : List Asr) (I : St w0 w L) (hA : At (OwnS 36 3 encR v l) L (Blk vb (encR x) 36 :: R)) :
    Calls Try.prog 53 #[v, .int .i64 i, .slice (some ⟨vb, 0, none⟩) 1 1] w fun en w' => ∃ v', en = .returned v' ∧ St w0 w' (OwnS 36 3 encR v' (l.take i ++ x :: l.drop i) :: R) := by
  replace I := I.take hA
  clear hA
  obtain ⟨A, c, rfl, hc0, hc1, hcn, _⟩ := (I.own .here).reads encR_len
  unfold maxLen at hc1
  by_cases hie : i = l.length
  · subst hie
    rw [List.take_length, List.drop_length]
    have hcb : (l.length : Int) ≤ (c : Int) := by omega
    have hcg : ¬ (c : Int) < (l.length : Int) := by omega
    have hcI := Lib.hid hl
    clear hcn
    go_enter Try.func53, Try.ntmps53
    go_wp2_with (first | ((with_reducible refine gappend ?_); refine w_append encR_len encR_one (by decide) I (by rfl) (by first | (with_reducible repeat (first | exact .here | apply At.there)); done | repeat (first | exact .here | apply At.there)) (by rfl) (l2 := [x]) (I.slvB (l2 := [x]) (by first | (with_reducible repeat (first | exact .here | apply At.there)); done | repeat (first | exact .here | apply At.there)) (by simp) rfl (by simp [maxLen]) encR_len) (by have := hcI.out; first | omega | (simp <;> omega)) (by have := hcI.out; unfold maxLen; first | omega | (simp <;> omega)) ?_; clear I; intro A m c w I))
    all_goals first | (go_ret; exact ⟨_, rfl, I.drop (by first | (with_reducible repeat (first | exact .here | apply At.there)); done | repeat (first | exact .here | apply At.there))⟩) | omega
  · have hil : i < l.length := by omega
    have hne : l ≠ [] := by intro e; subst e; simp at hil
    obtain ⟨g, c', hv, _, _, _⟩ := (I.own .here).base_of hne
    injection hv with e1 e2 e3
    subst e1 e3
    have hgv : vb ≠ g := St.apart (I.take (A := Blk vb (encR x) 36) (.there .here))
    have hiI : ¬ (i : Int) = (l.length : Int) := by omega
    have hieb : ((i : Int) == (l.length : Int)) = false := by simpa using hiI
    by_cases hroom : c < l.length + 1
    · have hcl : c = l.length := by omega
      subst hcl
      obtain ⟨k, hk⟩ : ∃ k, k = l.length + 1 - i := ⟨_, rfl⟩
      obtain ⟨G, w1, hr1, hG, hG2, I1⟩ := own_longer (P := Try.prog) (t := 23) (tn := 3) (k := k) (i := i) (zero := Ser.zero) encR_len (by decide) rfl I .here hi (by omega) (by omega) (by omega) (by unfold maxLen; omega) Try.underlying3
      obtain ⟨N, hN⟩ : ∃ N, N = w.heap.size := ⟨_, rfl⟩
      rw [← hN] at hr1 I1
      clear hN
      have hxc := fun j v (hj : ([x].flatMap encR)[j]? = some v) => (show w1.cell? ((⟨vb, 0, none⟩ : Addr).add j) = some v by
        have h1 := (I1.cells (g := vb) (.there (.there .here))).1 j
        rw [addr_add]
        simp only [List.flatMap_cons, List.flatMap_nil, List.append_nil] at hj
        rw [Nat.zero_add, h1]
        exact hj)
      obtain ⟨w2, hr2, I2⟩ := own_copy (P := Try.prog) (t := 23) (i := i) (l' := l.take i ++ [x] ++ List.replicate (k - 1) Ser.zero) encR_len encR_one I1 .here [x] ⟨vb, 0, none⟩ hxc k (G - i) 1 1 (by simp only [Nat.min_def, List.length_cons, List.length_nil]; split <;> omega) (by rw [List.length_append, List.length_take]; omega) (ins_one l x Ser.zero i k hi) (by rw [List.length_append, List.length_append, List.length_take, List.length_singleton, List.length_replicate]; omega) hG
      have hoc := fun j v (hj : ((l.drop i).flatMap encR)[j]? = some v) => (show w2.drew.cell? ((⟨g, i * 3, none⟩ : Addr).add j) = some v by
        have h1 := I2.drew.slv (v := .slice (some ⟨g, 0, none⟩) l.length l.length) (.there .here) encR_len
        obtain ⟨A', q', c', e1, e2, _, _, _, hs⟩ := h1
        injection e1 with e1 e3 e4
        subst e1
        have h2 := (hs.raw encR_len (by decide)).2 _ rfl (i * 3 + j) v (by rw [← flatMap_drop encR_len, List.getElem?_drop] at hj; exact hj)
        rw [addr_add] at h2 ⊢
        rw [Nat.zero_add] at h2
        exact h2)
      obtain ⟨w3, hr3, I3⟩ := own_copy (P := Try.prog) (t := 23) (i := i + 1) (l' := l.take i ++ x :: l.drop i) encR_len encR_one I2.drew .here (l.drop i) ⟨g, i * 3, none⟩ hoc (i + k - (i + 1)) (G - (i + 1)) (l.length - i) (l.length - i) (by rw [List.length_drop]; simp only [Nat.min_def]; split <;> omega) (by rw [List.length_append, List.length_append, List.length_take, List.length_singleton]; omega) (ins_two l x Ser.zero i k hi (by omega)) (by rw [List.length_append, List.length_take, List.length_cons, List.length_drop]; omega) hG
      clear hxc hoc
      have hkI : (l.length : Int) + 1 - (i : Int) = (k : Int) := by omega
      have HK := Lib.hid hk
      clear hk
      have hw1 : IntKind.i64.wrap ((i : Int) + 1) = (i : Int) + 1 := by rw [IntKind.wrap_i64]; omega
      have hb1 : (0 : Int) ≤ (i : Int) + 1 := by omega
      have hb2 : (i : Int) + 1 ≤ (i : Int) + (k : Int) := by have := HK.out; omega
      have hb3 : (i : Int) ≤ (l.length : Int) := by omega
      have htn : ((i : Int) + 1).toNat = i + 1 := by omega
      have hGi : ¬ (G = i) := by have := HK.out; omega
      have hGim : ¬ (G = i + 1) := by have := HK.out; omega
      have hci : ¬ (l.length = i) := by omega
      go_enter Try.func53, Try.ntmps53
      go_wp2_with (first | (at_builtin; refine wpList_appendR rfl _ _ _ _ rfl _ _ rfl rfl (hr1 _) ?_) | (at_builtin; refine wpList_copyR rfl _ _ _ _ rfl _ _ rfl rfl (hr2 _ _) ?_))
      go_region_law (refine step_copyR rfl _ _ _ _ rfl (.slice (some ⟨N, (i + 1) * 3, none⟩) (i + k - (i + 1)) (G - (i + 1))) (.slice (some ⟨g, i * 3, none⟩) (l.length - i) (l.length - i)) (by simp [Act.eval, Act.put]) (by simp [Act.eval, Act.put]) (hr3 _ _) ?_)
      go_wp2_with fail
      go_ret
      exact ⟨_, rfl, (I3.drop (A := OwnS 36 3 encR (.slice (some ⟨g, 0, none⟩) l.length l.length) l) (.there .here)).drop (A := Blk vb (encR x) 36) (.there .here)⟩
    · have hrm : l.length + 1 ≤ c := by omega
      have hoc := fun j v (hj : ((l.drop i).flatMap encR)[j]? = some v) => (show w.drew.cell? ((⟨g, i * 3, none⟩ : Addr).add j) = some v by
        have h1 := I.drew.slv .here encR_len
        obtain ⟨A', q', c', e1, e2, _, _, _, hs⟩ := h1
        injection e1 with e1 e3 e4
        subst e1
        have h2 := (hs.raw encR_len (by decide)).2 _ rfl (i * 3 + j) v (by rw [← flatMap_drop encR_len, List.getElem?_drop] at hj; exact hj)
        rw [addr_add] at h2 ⊢
        rw [Nat.zero_add] at h2
        exact h2)
      have hov : ∀ lb cb, (callFunc 95 #[.slice (some ⟨vb, 0, none⟩) 1 1, .slice (some ⟨g, (i + 1) * 3, none⟩) lb cb]).run Try.prog w = .ok (.value (.bool false)) w := fun lb cb => by
        have h1 := (I.take (A := Blk vb (encR x) 36) (.there .here)).blk .here
        obtain ⟨cur, t2, h2, h3⟩ := St.row (g := g) I .here (by omega) (by decide)
        exact run_overlaps w vb g _ lb cb _ cur _ t2 hgv h1 h2 h3
      obtain ⟨w1, hr1, I1⟩ := own_copy (P := Try.prog) (t := 23) (i := i + 1) (l' := l.take (i + 1) ++ l.drop i) encR_len encR_one I.drew .here (l.drop i) ⟨g, i * 3, none⟩ hoc (l.length + 1 - (i + 1)) (c - (i + 1)) (l.length + 1 - i) (c - i) (by rw [List.length_drop]; simp only [Nat.min_def]; split <;> omega) (by omega) (ins_shift l i hil) (by rw [List.length_append, List.length_take, List.length_drop]; omega) hrm
      have hxc := fun j v (hj : ([x].flatMap encR)[j]? = some v) => (show w1.cell? ((⟨vb, 0, none⟩ : Addr).add j) = some v by
        have h1 := (I1.cells (g := vb) (.there .here)).1 j
        rw [addr_add]
        simp only [List.flatMap_cons, List.flatMap_nil, List.append_nil] at hj
        rw [Nat.zero_add, h1]
        exact hj)
      obtain ⟨w2, hr2, I2⟩ := own_copy (P := Try.prog) (t := 23) (i := i) (l' := l.take i ++ x :: l.drop i) encR_len encR_one I1 .here [x] ⟨vb, 0, none⟩ hxc (l.length + 1 - i) (c - i) 1 1 (by simp only [Nat.min_def, List.length_cons, List.length_nil]; split <;> omega) (by rw [List.length_append, List.length_take, List.length_drop]; omega) (ins_put l x i hil) (by rw [List.length_append, List.length_take, List.length_cons, List.length_drop]; omega) hrm
      clear hxc hoc
      have hw1 : IntKind.i64.wrap ((i : Int) + 1) = (i : Int) + 1 := by rw [IntKind.wrap_i64]; omega
      have hb1 : (0 : Int) ≤ (i : Int) + 1 := by omega
      have hb3 : (i : Int) ≤ (l.length : Int) := by omega
      have hb4 : (i : Int) ≤ (l.length : Int) + 1 := by omega
      have htn : ((i : Int) + 1).toNat = i + 1 := by omega
      have hci : ¬ (c = i) := by omega
      have hci1 : ¬ (c = i + 1) := by omega
      go_enter Try.func53, Try.ntmps53
      go_wp2_with (simp only [hov])
      go_region_law (refine step_copyR rfl _ _ _ _ rfl (.slice (some ⟨g, (i + 1) * 3, none⟩) (l.length + 1 - (i + 1)) (c - (i + 1))) (.slice (some ⟨g, i * 3, none⟩) (l.length + 1 - i) (c - i)) (by simp [Act.eval, Act.put]) (by simp [Act.eval, Act.put]) (hr1 _ _) ?_)
      go_wp2_with (at_builtin; refine wpList_copyR rfl _ _ _ _ rfl _ _ rfl rfl (hr2 _ _) ?_)
      go_ret
      exact ⟨_, rfl, I2.drop (A := Blk vb (encR x) 36) (.there .here)⟩
end Go.Proofs.Ytggeloihnbjogaa
