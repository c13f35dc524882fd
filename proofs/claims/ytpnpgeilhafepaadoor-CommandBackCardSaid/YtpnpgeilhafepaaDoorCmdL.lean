
/- Commands (layer 18): the table that the row lists. -/
import Derived.Test.YtpnpgeilhafepaaDoorCmdC
import Derived.Test.YtpnpgeilhafepaaDoorFrameL
import Derived.Lib.LaidTab
namespace Go.Proofs.YtpnpgeilhafepaaDoor
open Go.RowKit Go.Hf

abbrev laid1 : List (String × DataW Unit) := [("hoarfrost/command.counts", Rows.laid_hoarfrost_command_counts)]
theorem tab_of_laid {W : World} (h : laidMetH Tryd.prog laid1 W) : Tab W := by
  rw [MakeChecks.laidMetH_plain _ _ _ (by kernel_rfl)] at h
  have hT := Lib.tabIs_of_head (P := Tryd.prog) (W := W) (name := "hoarfrost/command.counts") (k := .i64) (zs := Cmd.counts) (rest := []) (g := 0) (t := 68) (e := 3) (n := 16) (by kernel_rfl) (by kernel_rfl) Tryd.underlying68 Tryd.underlying3 (by kernel_rfl) (by kernel_rfl) h
  intro i hi
  exact hT.cell (by kernel_rfl) i hi
theorem Tab.heap {w w' : World} (hh : w.heap = w'.heap) (h : laidMetH Tryd.prog laid1 w) : laidMetH Tryd.prog laid1 w' := h.of_heap hh
/-- The door's own heap meets the condition. -/
theorem door_met (os : Os) (args : Array Value) : laidMetH Tryd.prog laid1 ((World.doorLaid Tryd.prog 400 os).forCall (fun _ _ => 0) ⟨#[], args, []⟩).memory :=
  laidMetH_of_parts3 (fuel := 8) (laidMet_of_run' 8 (by kernel_rfl) (by kernel_rfl)) (by kernel_rfl) (by kernel_rfl)
end Go.Proofs.YtpnpgeilhafepaaDoor
