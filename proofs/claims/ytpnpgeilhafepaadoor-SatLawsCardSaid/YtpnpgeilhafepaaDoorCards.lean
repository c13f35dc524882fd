/-
  DERIVED. GIVEN WITH THE SEED: THE CARDS: each row of YtpnpgeilhafepaaDoorRows.lean that lists a variable, with what it lists TIED to the program's text (the seventh form; the later family's looks); each row that meets fmt, with fmt's text TOLD by the authors' own Lean function (tested against real Go, not proved from fmt's source: count such statements apart). THE CARD IS WHAT COUNTS. Prove the row's statement (the work); the ties are given (YtpnpgeilhafepaaDoorTie.lean); close each card by the builder's one call (the guide's Derived/Test/ToyasCard.lean, 'card_holds'). Laid BY PROGRAM, IN A SANDBOX (cutbox-door.mjs). By AI agents, Wed Nov 11 2026. No macro, syntax, notation, axiom, sorry.
-/
import Derived.Test.YtpnpgeilhafepaaDoorRows
import GoSem.ClaimSeven
namespace Go.Proofs.YtpnpgeilhafepaaDoor
namespace Rows

/-- THE TIED CARD OF 'hoarfrostlaw18.CommandTells'. -/
def commandTellsCard : Claim7 := { stood := { row := commandTellsRow, standIns := [], harness := (true, "bbd83ff34223da1772f95ba5cb76f9a1b7e8d2818c5be531a0ea6756fdb2c20f"), looks := false }, kinds := [], alts := [], laidByText := true, laidKinds := [.data], laidTests := true, laidLooks := .later }
def CommandTellsCardSaid : Prop := Claim7.holds Tryd.pinned (.plain (OpenSpec.ofChange commandTellsSpec)) commandTellsCard

/-- THE TIED CARD OF 'hoarfrostlaw18.CommandBack'. -/
def commandBackCard : Claim7 := { stood := { row := commandBackRow, standIns := [], harness := (true, "bbd83ff34223da1772f95ba5cb76f9a1b7e8d2818c5be531a0ea6756fdb2c20f"), looks := false }, kinds := [], alts := [], laidByText := true, laidKinds := [.data], laidTests := true, laidLooks := .later }
def CommandBackCardSaid : Prop := Claim7.holds Tryd.pinned (.plain (OpenSpec.ofChange commandBackSpec)) commandBackCard

/-- THE TIED CARD OF 'hoarfrostlaw02.SatTells'. -/
def satTellsCard : Claim7 := { stood := { row := satTellsRow, standIns := [], harness := (true, "bbd83ff34223da1772f95ba5cb76f9a1b7e8d2818c5be531a0ea6756fdb2c20f"), looks := false }, kinds := [], alts := [], laidByText := true, laidKinds := [.data, .data, .data], laidTests := true, laidLooks := .later }
def SatTellsCardSaid : Prop := Claim7.holds Tryd.pinned (.plain (OpenSpec.ofChange satTellsSpec)) satTellsCard

/-- THE TIED CARD OF 'hoarfrostlaw02.SatLaws'. -/
def satLawsCard : Claim7 := { stood := { row := satLawsRow, standIns := [], harness := (true, "bbd83ff34223da1772f95ba5cb76f9a1b7e8d2818c5be531a0ea6756fdb2c20f"), looks := false }, kinds := [], alts := [], laidByText := true, laidKinds := [.data, .data, .data], laidTests := true, laidLooks := .later }
def SatLawsCardSaid : Prop := Claim7.holds Tryd.pinned (.plain (OpenSpec.ofChange satLawsSpec)) satLawsCard

/-- THE SECOND FORM's CARD OF 'hoarfrostlaw18.CommandTells'. -/
def commandTellsUptoCard : Claim7 := { stood := { row := commandTellsUptoRow, standIns := [], harness := (true, "bbd83ff34223da1772f95ba5cb76f9a1b7e8d2818c5be531a0ea6756fdb2c20f"), looks := false }, kinds := [], alts := [], laidByText := true, laidKinds := [.data], laidTests := true, laidLooks := .later }
def CommandTellsUptoCardSaid : Prop := Claim7.holds Tryd.pinned (.plain (OpenSpec.upto commandTellsSpec)) commandTellsUptoCard

/-- THE SECOND FORM's CARD OF 'hoarfrostlaw18.CommandBack'. -/
def commandBackUptoCard : Claim7 := { stood := { row := commandBackUptoRow, standIns := [], harness := (true, "bbd83ff34223da1772f95ba5cb76f9a1b7e8d2818c5be531a0ea6756fdb2c20f"), looks := false }, kinds := [], alts := [], laidByText := true, laidKinds := [.data], laidTests := true, laidLooks := .later }
def CommandBackUptoCardSaid : Prop := Claim7.holds Tryd.pinned (.plain (OpenSpec.upto commandBackSpec)) commandBackUptoCard

/-- THE SECOND FORM's CARD OF 'hoarfrostlaw02.SatTells'. -/
def satTellsUptoCard : Claim7 := { stood := { row := satTellsUptoRow, standIns := [], harness := (true, "bbd83ff34223da1772f95ba5cb76f9a1b7e8d2818c5be531a0ea6756fdb2c20f"), looks := false }, kinds := [], alts := [], laidByText := true, laidKinds := [.data, .data, .data], laidTests := true, laidLooks := .later }
def SatTellsUptoCardSaid : Prop := Claim7.holds Tryd.pinned (.plain (OpenSpec.upto satTellsSpec)) satTellsUptoCard

/-- THE SECOND FORM's CARD OF 'hoarfrostlaw02.SatLaws'. -/
def satLawsUptoCard : Claim7 := { stood := { row := satLawsUptoRow, standIns := [], harness := (true, "bbd83ff34223da1772f95ba5cb76f9a1b7e8d2818c5be531a0ea6756fdb2c20f"), looks := false }, kinds := [], alts := [], laidByText := true, laidKinds := [.data, .data, .data], laidTests := true, laidLooks := .later }
def SatLawsUptoCardSaid : Prop := Claim7.holds Tryd.pinned (.plain (OpenSpec.upto satLawsSpec)) satLawsUptoCard
end Rows
end Go.Proofs.YtpnpgeilhafepaaDoor
