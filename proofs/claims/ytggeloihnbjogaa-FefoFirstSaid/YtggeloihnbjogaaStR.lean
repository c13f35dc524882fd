
/- Slices of the call's own that are only read. -/
import Derived.Test.YtggeloihnbjogaaSt
namespace Go.Hf
open Go.RowKit

/-! ### A slice of the call's own that is only read from now on -/
def RdS {α : Type} (n : Nat) (enc : α → List Value) (v : Value) (l : List α) : Asr where
  p w F := (∀ k, F k → v.ownBlock = some k ∧ k < w.heap.size) ∧ SlV n (flat enc) w v l ∧ (l ≠ [] → ∃ k, v.ownBlock = some k ∧ F k)
  loc {w w' F} h e := by
    obtain ⟨h1, ⟨A, m, c, rfl, h2, h3, h4, h5, h6⟩, h7⟩ := h
    refine ⟨fun k hk => ⟨(h1 k hk).1, ?_⟩, ⟨A, m, c, rfl, h2, h3, h4, h5, ?_⟩, h7⟩
    · have := e k hk
      rw [Array.getElem?_eq_getElem (h1 k hk).2] at this
      exact (Array.getElem?_eq_some_iff.1 this).1
    · refine ⟨h6.1, fun a ha => ?_⟩
      obtain ⟨g1, g2⟩ := h6.2 a ha
      refine ⟨g1, fun i x hx => ?_⟩
      obtain ⟨cs, k1, k2, k3⟩ := g2 i x hx
      refine ⟨cs, k1, k2, fun j u hu => ?_⟩
      obtain ⟨k, hk, hF⟩ := h7 (by rintro rfl; simp at hx)
      subst ha
      have hb : a.block = k := by simpa [Value.ownBlock] using hk
      subst hb
      exact (World.cell?_of_block (w := w) (w' := w') (a := ⟨a.block, a.off + i * n + j, none⟩) (e _ hF)).trans (k3 j u hu)
  lt h k hk := (h.1 k hk).2
section
variable {w0 w : World} {L R : List Asr} {α : Type} {e : TypeId} {n : Nat} {enc : α → List Value} {v v' : Value} {l l' : List α}
theorem St.toRd (hn : ∀ x, (enc x).length = n) (I : St w0 w (OwnS e n enc v l :: L)) : St w0 w (RdS n enc v l :: L) := by
  have ho := I.own .here
  obtain ⟨a, F, ⟨F1, F2, b, c, d, e'⟩, f⟩ := I
  refine ⟨a, F, ⟨F1, F2, ⟨fun k hk => ⟨(b.2 k).1 hk, (ho.lt k ((b.2 k).1 hk)).2⟩, ho.slv hn, fun hl => ?_⟩, c, d, e'⟩, f⟩
  obtain ⟨g, cap, rfl, _⟩ := ho.base_of hl
  exact ⟨g, rfl, (b.2 g).2 rfl⟩
theorem St.rd (I : St w0 w L) (m : At (RdS n enc v l) L R) : SlV n (flat enc) w v l := by
  obtain ⟨_, _, ⟨_, _, b, _⟩, _⟩ := I.take m
  exact b.2.1
/-- Another slice of the same block. -/
theorem St.reRd (I : St w0 w (RdS n enc v l :: L)) (h : SlV n (flat enc) w v' l') (hb : l' ≠ [] → v'.ownBlock = v.ownBlock ∧ l ≠ []) : St w0 w (RdS n enc v' l' :: L) := by
  obtain ⟨a, F, ⟨F1, F2, b, c, d, e'⟩, f⟩ := I
  refine ⟨a, fun k => (F1 k ∧ v'.ownBlock = some k) ∨ F2 k, ⟨fun k => F1 k ∧ v'.ownBlock = some k, F2, ⟨fun k hk => ⟨hk.2, (b.1 k hk.1).2⟩, h, fun hl => ?_⟩, c, fun k hk => d k hk.1, fun k => Iff.rfl⟩, fun k hk => f k ((e' k).2 (hk.imp (·.1) id))⟩
  obtain ⟨h1, h2⟩ := hb hl
  obtain ⟨k, h3, h4⟩ := b.2.2 h2
  exact ⟨k, h1.trans h3, h4, h1.trans h3⟩
theorem SlV.drop {A : Option Addr} {m c : Nat} (h : SlV n (flat enc) w (.slice A m c) l) (k : Nat) (hk : k ≤ m) : SlV n (flat enc) w (.slice (if c = k then A else A.map (·.add (k * n))) (m - k) (c - k)) (l.drop k) := by
  obtain ⟨A', m', c', h1, h2, h3, h4, h5, h6⟩ := h
  injection h1 with e1 e2 e3
  subst e1 e2 e3
  refine ⟨_, _, _, rfl, by rw [List.length_drop]; omega, by omega, by omega, fun hA => ?_, fun hA => ?_, fun a ha => ?_⟩
  · split at hA
    · omega
    · cases A with
      | none => have := h5 rfl; omega
      | some a => simp at hA
  · split at hA
    · rename_i hc
      exact List.drop_eq_nil_of_le (by omega)
    · cases A with
      | none => rw [h6.1 rfl]; simp
      | some a => simp at hA
  · split at ha
    · rename_i hc
      have hn : l.drop k = [] := List.drop_eq_nil_of_le (by omega)
      rw [hn]
      exact ⟨fun h => absurd rfl h, fun i x hx => by simp at hx⟩
    · cases A with
      | none => simp at ha
      | some b =>
        obtain ⟨g1, g2⟩ := h6.2 b rfl
        obtain rfl : b.add (k * n) = a := by simpa using ha
        have hsp : l.drop k ≠ [] → b.spot = none := fun hd => g1 (fun e => hd (by rw [e]; simp))
        refine ⟨fun hd => ?_, fun i x hx => ?_⟩
        · have := hsp hd
          unfold Addr.add; split <;> simp [this]
        · have hd : l.drop k ≠ [] := by intro e; rw [e] at hx; simp at hx
          have hs := hsp hd
          rw [List.getElem?_drop] at hx
          obtain ⟨cs, k1, k2, k3⟩ := g2 (k + i) x hx
          refine ⟨cs, k1, k2, fun j u hu => ?_⟩
          have := k3 j u hu
          obtain ⟨bb, bo, bs⟩ := b
          dsimp only at hs
          subst hs
          rw [addr_add]
          dsimp only at this ⊢
          rw [← this]
          congr 2
          rw [Nat.add_mul]
          omega
end

section
variable {P : Program} {ops : Array Oper} {Q : Exit → Act → World → Prop} {rest : List Oper} {a : Act} {w0 w : World} {L : List Asr} {dst : Option Tmp} {tt : TypeId} {pos : String} {after : Array Edge} {x : Operand} {α : Type} {e t : TypeId} {bytes : Nat} {z v : Value} {enc : α → List Value}
theorem gbs (h : wpList P ops Q (⟨dst, .buildSlice t 1 #[(0, x)], tt, pos, after, none⟩ :: rest) a w) : wpList P ops Q (⟨dst, .buildSlice t 1 #[(0, x)], tt, pos, after, none⟩ :: rest) a w := h
/-- '[]T{x}', an element of one cell. -/
theorem w_bs1 [s : SlTy P t e 1 bytes z] {b : α} (hn : ∀ x, (enc x).length = 1) (I : St w0 w L) (hx : a.eval x = v) (h1 : v.oneCell' = true) (hb : enc b = [v])
    (k : ∀ g w', St w0 w' (OwnS e 1 enc (.slice (some ⟨g, 0, none⟩) 1 1) [b] :: L) → wpList P ops Q rest (a.put dst (.slice (some ⟨g, 0, none⟩) 1 1)) w') :
    wpList P ops Q (⟨dst, .buildSlice t 1 #[(0, x)], tt, pos, after, none⟩ :: rest) a w := by
  have hinfo := s.info
  obtain ⟨i, hi, hz0, hsize, hby⟩ : ∃ i, P.info? e = some i ∧ i.zero = some z ∧ i.size = 1 ∧ i.bytes = bytes := by
    cases hq : P.info? e with
    | none => simp [hq] at hinfo
    | some i => simp only [hq, Option.map_some, Option.some.injEq, Prod.mk.injEq] at hinfo; exact ⟨i, rfl, hinfo.1, hinfo.2.1, hinfo.2.2⟩
  have hcs : v.cells = #[v] := by cases v <;> first | rfl | simp [Value.oneCell'] at h1
  have hz1 := s.zs
  refine wpList_plain rfl fun K hK => ?_
  have hI : St w0 (w.alloc (.cells #[v] e)) (OwnS e 1 enc (.slice (some ⟨w.heap.size, 0, none⟩) 1 1) [b] :: L) :=
    I.mkOwn ((Fr.refl w).alloc _) (Own.lit w.heap.size e 1 enc w #[v] [b] (Nat.le_refl _) (by simp [maxLen]) hn (by simp [hb]))
  unfold Oper.wp execOp
  have hzero : (zeroValue e).run P w = .ok z w := by simp [zeroValue, typeInfo, hi, hz0]
  have hsz : (sizeOf e).run P w = .ok 1 w := by simp [sizeOf, typeInfo, hi, hsize]
  have hrun : (Instr.buildSlice t 1 #[(0, v)]).run P w = .ok (.slice (some ⟨w.heap.size, 0, none⟩) 1 1) (w.alloc (.cells #[v] e)) := by
    unfold Instr.buildSlice
    simp [run_underlying s.is, hsz, hzero, Instr.fill, hcs, newRow, newObj, Sem.run, show Array.range 1 = #[0] from rfl]
  simp only [List.map_toArray, List.map_cons, List.map_nil, hx, Sem.run_bind, Sem.run_pure, Result.andThen_ok, hrun]
  exact hK _ _ (k _ _ hI)
end
end Go.Hf
