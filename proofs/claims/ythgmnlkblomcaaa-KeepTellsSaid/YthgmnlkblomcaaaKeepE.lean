/- Lots (layer 14): what is behind Review. -/
import Derived.Test.YthgmnlkblomcaaaKeepC
namespace Go.Proofs.Ythgmnlkblomcaaa
open Go.RowKit Go.Hf

set_option maxRecDepth 100000 in
set_option maxHeartbeats 1000000 in
theorem does_rev (g gr : Nat) (d : Lot) (grant : Int) (A : Option Addr) (n c : Nat) (w : World) (h : LotB w g d A n c) (hr : w.cell? ⟨gr, 0, none⟩ = some (.int .i64 grant)) :
    Calls Try.prog 106 #[.pointer (some ⟨g, 0, none⟩), .pointer (some ⟨gr, 0, none⟩)] w fun e w' => e = .returned (.tuple #[]) ∧ LotB w' g { d with grant := Sat.two d.grant grant } A n c ∧ Chg (fun k => k = g) w w' := by
  have H := Lib.hid h
  obtain ⟨⟨_, _, _, _, c4, _, _, _⟩, fz⟩ := blk8 h
  have hlt := World.block_lt_of_cell? _ _ c4
  have n1 := World.new_ne w _ c4
  have n2 := World.new_ne w _ hr
  have f4 := fz 4
  have K0 := Lib.hid (show (w.alloc (.cells #[.int .i64 d.grant, .int .i64 grant] 3)).drew.cell? ⟨w.heap.size, 0, none⟩ = some (.int .i64 d.grant) from new_cells w _ _ 0 _ rfl)
  have K1 := Lib.hid (show (w.alloc (.cells #[.int .i64 d.grant, .int .i64 grant] 3)).drew.cell? ⟨w.heap.size, 1, none⟩ = some (.int .i64 grant) from new_cells w _ _ 1 _ rfl)
  clear h
  go_enter Try.func106, Try.ntmps106
  go_wp2_with fail
  go_region_with ((go_at_call 107; go_must (refine (sat_Add2 d.grant grant _ w.heap.size K0.out K1.out).mono ?_; rintro _ w1 ⟨rfl, rfl⟩)))
  all_goals go_wp2_with fail
  all_goals go_end0
  all_goals exact ⟨rfl, (Below.heap_alloc _ _ g (by simpa [World.setCell] using hlt)).trans (set_blk H.out 4 _), (Chg.set (F := fun k => k = g) (p := ⟨g, 4, none⟩) w rfl _).trans (Chg.of_fr (F := fun _ => False) (((Fr.refl _).alloc _).drew)) (fun _ h => h.elim)⟩
end Go.Proofs.Ythgmnlkblomcaaa
