/-
  No cell of these rows narrows 'for every input' (looked for: loops, veiled, ifaces, maps, wideKeys, modest, calm, conditions, laid).
  DERIVED. THE GIVEN ROWS OF THIS SEAT. 8 by the template 'for every input the law returns true; each argument reads behind the call as it read before'; 0 by the template 'total and deterministic' (their statements: YtpnpgeilhafepaaTotals.lean).
  GIVEN WITH THE SEED: the statements are not yours to turn. If you find one false, say at which input.
  Laid BY PROGRAM, IN A SANDBOX (cutbox-rows.mjs): the forced cells as the released guide's own fill.sh prints them over the translation 4ae1dbe815bac69a… (all of the seat's roots in one cut). By AI agents, Wed Nov 11 2026. No macro, syntax, notation, axiom, sorry.
-/
import Derived.Test.YtpnpgeilhafepaaChecked
import GoSem.Claim
import GoSem.ClaimJoined
import GoSem.ClaimMapViews
import Derived.JoinedTies
import Derived.KernelRfl
namespace Go.Proofs.Ytpnpgeilhafepaa
/- THE CELL 'sum', in the pinned program and in every row, IS THE sha256 OF THE DUMP (.gsa) THAT YtpnpgeilhafepaaProg.lean LOADS. Nothing in Lean hashes anything: it is a label: what it is worth is what the hold of that sum in a sandbox is worth. -/
noncomputable def Try.pinned : Pinned := { name := "ytpnpgeilhafepaa", sum := "4ae1dbe815bac69aeb53c373fe3933b27a3361705320c5efa0f1df20394a9749", checked := Try.checked }
namespace Rows
def none {H : Type} : Left H := { results := [], args := [] }

/-- 'hoarfrostlaw09.StaysSomewhere': WHATEVER THE INPUT: true; the input reads as it did. -/
def staysSomewhereSpec : ChangeSpec := { name := "staysSomewhere", fn := fun _ => fun
  | [d1, d2] => { results := [.lit (.bool true)], args := [d1, d2] }
  | _ => none }
def staysSomewhereRow : OpenClaim := { program := "ytpnpgeilhafepaa", sum := "4ae1dbe815bac69aeb53c373fe3933b27a3361705320c5efa0f1df20394a9749", func := "hoarfrost/hoarfrostlaw09.StaysSomewhere", spec := "staysSomewhere", unfollowed := true, recurses := true, apart := false }
def StaysSomewhereSaid : Prop := staysSomewhereRow.holds Try.pinned (OpenSpec.ofChange staysSomewhereSpec)

/-- ITS FALSE NEIGHBOUR: 'it returns false'. Refute it at one input. -/
def staysSomewhereWrong : ChangeSpec := { name := "staysSomewhere", fn := fun _ => fun
  | [d1, d2] => { results := [.lit (.bool false)], args := [d1, d2] }
  | _ => none }
def StaysSomewhereWrongFalsely : Prop := staysSomewhereRow.holds Try.pinned (OpenSpec.ofChange staysSomewhereWrong)

/-- 'hoarfrostlaw17.CertTells': WHATEVER THE INPUT: true; the input reads as it did. -/
def certTellsSpec : ChangeSpec := { name := "certTells", fn := fun _ => fun
  | [d1, d2] => { results := [.lit (.bool true)], args := [d1, d2] }
  | _ => none }
def certTellsRow : OpenClaim := { program := "ytpnpgeilhafepaa", sum := "4ae1dbe815bac69aeb53c373fe3933b27a3361705320c5efa0f1df20394a9749", func := "hoarfrost/hoarfrostlaw17.CertTells", spec := "certTells", apart := false }
def CertTellsSaid : Prop := certTellsRow.holds Try.pinned (OpenSpec.ofChange certTellsSpec)

/-- ITS FALSE NEIGHBOUR: 'it returns false'. Refute it at one input. -/
def certTellsWrong : ChangeSpec := { name := "certTells", fn := fun _ => fun
  | [d1, d2] => { results := [.lit (.bool false)], args := [d1, d2] }
  | _ => none }
def CertTellsWrongFalsely : Prop := certTellsRow.holds Try.pinned (OpenSpec.ofChange certTellsWrong)

/-- 'hoarfrostlaw17.CertBooks': WHATEVER THE INPUT: true; the input reads as it did. -/
def certBooksSpec : ChangeSpec := { name := "certBooks", fn := fun _ => fun
  | [d1, d2, d3] => { results := [.lit (.bool true)], args := [d1, d2, d3] }
  | _ => none }
def certBooksRow : OpenClaim := { program := "ytpnpgeilhafepaa", sum := "4ae1dbe815bac69aeb53c373fe3933b27a3361705320c5efa0f1df20394a9749", func := "hoarfrost/hoarfrostlaw17.CertBooks", spec := "certBooks", apart := false }
def CertBooksSaid : Prop := certBooksRow.holds Try.pinned (OpenSpec.ofChange certBooksSpec)

/-- ITS FALSE NEIGHBOUR: 'it returns false'. Refute it at one input. -/
def certBooksWrong : ChangeSpec := { name := "certBooks", fn := fun _ => fun
  | [d1, d2, d3] => { results := [.lit (.bool false)], args := [d1, d2, d3] }
  | _ => none }
def CertBooksWrongFalsely : Prop := certBooksRow.holds Try.pinned (OpenSpec.ofChange certBooksWrong)

/-- 'hoarfrostlaw17.CertBurst': WHATEVER THE INPUT: true; the input reads as it did. -/
def certBurstSpec : ChangeSpec := { name := "certBurst", fn := fun _ => fun
  | [d1, d2, d3] => { results := [.lit (.bool true)], args := [d1, d2, d3] }
  | _ => none }
def certBurstRow : OpenClaim := { program := "ytpnpgeilhafepaa", sum := "4ae1dbe815bac69aeb53c373fe3933b27a3361705320c5efa0f1df20394a9749", func := "hoarfrost/hoarfrostlaw17.CertBurst", spec := "certBurst", apart := false }
def CertBurstSaid : Prop := certBurstRow.holds Try.pinned (OpenSpec.ofChange certBurstSpec)

/-- ITS FALSE NEIGHBOUR: 'it returns false'. Refute it at one input. -/
def certBurstWrong : ChangeSpec := { name := "certBurst", fn := fun _ => fun
  | [d1, d2, d3] => { results := [.lit (.bool false)], args := [d1, d2, d3] }
  | _ => none }
def CertBurstWrongFalsely : Prop := certBurstRow.holds Try.pinned (OpenSpec.ofChange certBurstWrong)

/-- 'hoarfrostlaw06.SeriesOrder': WHATEVER THE INPUT: true; the input reads as it did. -/
def seriesOrderSpec : ChangeSpec := { name := "seriesOrder", fn := fun _ => fun
  | [d1, d2, d3] => { results := [.lit (.bool true)], args := [d1, d2, d3] }
  | _ => none }
def seriesOrderRow : OpenClaim := { program := "ytpnpgeilhafepaa", sum := "4ae1dbe815bac69aeb53c373fe3933b27a3361705320c5efa0f1df20394a9749", func := "hoarfrost/hoarfrostlaw06.SeriesOrder", spec := "seriesOrder", inPlace := ["slices.overlaps[hoarfrost/api.Reading]"], unfollowed := true, recurses := true, apart := false }
def SeriesOrderSaid : Prop := seriesOrderRow.holds Try.pinned (OpenSpec.ofChange seriesOrderSpec)

/-- ITS FALSE NEIGHBOUR: 'it returns false'. Refute it at one input. -/
def seriesOrderWrong : ChangeSpec := { name := "seriesOrder", fn := fun _ => fun
  | [d1, d2, d3] => { results := [.lit (.bool false)], args := [d1, d2, d3] }
  | _ => none }
def SeriesOrderWrongFalsely : Prop := seriesOrderRow.holds Try.pinned (OpenSpec.ofChange seriesOrderWrong)

/-- 'hoarfrostlaw06.SeriesSilence': WHATEVER THE INPUT: true; the input reads as it did. -/
def seriesSilenceSpec : ChangeSpec := { name := "seriesSilence", fn := fun _ => fun
  | [d1, d2, d3] => { results := [.lit (.bool true)], args := [d1, d2, d3] }
  | _ => none }
def seriesSilenceRow : OpenClaim := { program := "ytpnpgeilhafepaa", sum := "4ae1dbe815bac69aeb53c373fe3933b27a3361705320c5efa0f1df20394a9749", func := "hoarfrost/hoarfrostlaw06.SeriesSilence", spec := "seriesSilence", inPlace := ["slices.overlaps[hoarfrost/api.Reading]"], unfollowed := true, recurses := true, apart := false }
def SeriesSilenceSaid : Prop := seriesSilenceRow.holds Try.pinned (OpenSpec.ofChange seriesSilenceSpec)

/-- ITS FALSE NEIGHBOUR: 'it returns false'. Refute it at one input. -/
def seriesSilenceWrong : ChangeSpec := { name := "seriesSilence", fn := fun _ => fun
  | [d1, d2, d3] => { results := [.lit (.bool false)], args := [d1, d2, d3] }
  | _ => none }
def SeriesSilenceWrongFalsely : Prop := seriesSilenceRow.holds Try.pinned (OpenSpec.ofChange seriesSilenceWrong)

/-- 'hoarfrostlaw06.SeriesTells': WHATEVER THE INPUT: true; the input reads as it did. -/
def seriesTellsSpec : ChangeSpec := { name := "seriesTells", fn := fun _ => fun
  | [d1, d2, d3] => { results := [.lit (.bool true)], args := [d1, d2, d3] }
  | _ => none }
def seriesTellsRow : OpenClaim := { program := "ytpnpgeilhafepaa", sum := "4ae1dbe815bac69aeb53c373fe3933b27a3361705320c5efa0f1df20394a9749", func := "hoarfrost/hoarfrostlaw06.SeriesTells", spec := "seriesTells", inPlace := ["slices.overlaps[hoarfrost/api.Reading]"], unfollowed := true, recurses := true, apart := false }
def SeriesTellsSaid : Prop := seriesTellsRow.holds Try.pinned (OpenSpec.ofChange seriesTellsSpec)

/-- ITS FALSE NEIGHBOUR: 'it returns false'. Refute it at one input. -/
def seriesTellsWrong : ChangeSpec := { name := "seriesTells", fn := fun _ => fun
  | [d1, d2, d3] => { results := [.lit (.bool false)], args := [d1, d2, d3] }
  | _ => none }
def SeriesTellsWrongFalsely : Prop := seriesTellsRow.holds Try.pinned (OpenSpec.ofChange seriesTellsWrong)

/-- 'hoarfrostlaw15.FefoTells': WHATEVER THE INPUT: true; the input reads as it did. -/
def fefoTellsSpec : ChangeSpec := { name := "fefoTells", fn := fun _ => fun
  | [d1, d2, d3] => { results := [.lit (.bool true)], args := [d1, d2, d3] }
  | _ => none }
def fefoTellsRow : OpenClaim := { program := "ytpnpgeilhafepaa", sum := "4ae1dbe815bac69aeb53c373fe3933b27a3361705320c5efa0f1df20394a9749", func := "hoarfrost/hoarfrostlaw15.FefoTells", spec := "fefoTells", unfollowed := true, recurses := true, apart := false }
def FefoTellsSaid : Prop := fefoTellsRow.holds Try.pinned (OpenSpec.ofChange fefoTellsSpec)

/-- ITS FALSE NEIGHBOUR: 'it returns false'. Refute it at one input. -/
def fefoTellsWrong : ChangeSpec := { name := "fefoTells", fn := fun _ => fun
  | [d1, d2, d3] => { results := [.lit (.bool false)], args := [d1, d2, d3] }
  | _ => none }
def FefoTellsWrongFalsely : Prop := fefoTellsRow.holds Try.pinned (OpenSpec.ofChange fefoTellsWrong)

/- THE SECOND FORM. 'bulk': how many values and letters a reading holds, each counted each time it is reached (what is shared counts as often as it is met; a slice's spare places count too). A statement '..UptoSaid' is the law's where the arguments, and the package variables that the reading takes, are together of bulk at most 1048576: NARROWER than '..Said'. Prove '..Said' where nothing that the law and all that it calls make is longer than what came in: it says more and counts as full. Else prove '..UptoSaid'. A law counts once. -/
mutual
def uptoBulk {H : Type} : DataW H → Nat
  | .lit (.string bytes) => bytes.length + 1
  | .lit _ => 1
  | .nil => 1
  | .ptr d => uptoBulk d + 1
  | .slice elems spare => uptoBulkAll elems + uptoBulkAll spare + 1
  | .agg parts => uptoBulkAll parts + 1
  | .iface _ d => uptoBulk d + 1
  | .map entries => uptoBulkEntries entries + 1
  | .held _ => 1
def uptoBulkAll {H : Type} : List (DataW H) → Nat
  | [] => 0
  | d :: r => uptoBulk d + uptoBulkAll r
def uptoBulkEntries {H : Type} : List (Lit × DataW H) → Nat
  | [] => 0
  | x :: r => uptoBulkEntry x + uptoBulkEntries r
def uptoBulkEntry {H : Type} : Lit × DataW H → Nat
  | (.string bytes, d) => bytes.length + uptoBulk d + 1
  | (_, d) => uptoBulk d + 1
 end
def uptoSmall : (H : Type) → List (DataW H) → Bool := fun _ ds => decide (uptoBulkAll ds ≤ 1048576)
def OpenSpec.upto (s : _root_.Go.ChangeSpec) : _root_.Go.OpenSpec := { _root_.Go.OpenSpec.ofChange s with cond := some uptoSmall }

/-- 'hoarfrostlaw09.StaysSomewhere', WHERE WHAT IT READS IS OF BULK AT MOST 1048576: true; the input reads as it did. -/
def staysSomewhereUptoRow : OpenClaim := { program := "ytpnpgeilhafepaa", sum := "4ae1dbe815bac69aeb53c373fe3933b27a3361705320c5efa0f1df20394a9749", func := "hoarfrost/hoarfrostlaw09.StaysSomewhere", spec := "staysSomewhere", unfollowed := true, recurses := true, apart := false, narrowed := true }
def StaysSomewhereUptoSaid : Prop := staysSomewhereUptoRow.holds Try.pinned (OpenSpec.upto staysSomewhereSpec)

/-- 'hoarfrostlaw17.CertTells', WHERE WHAT IT READS IS OF BULK AT MOST 1048576: true; the input reads as it did. -/
def certTellsUptoRow : OpenClaim := { program := "ytpnpgeilhafepaa", sum := "4ae1dbe815bac69aeb53c373fe3933b27a3361705320c5efa0f1df20394a9749", func := "hoarfrost/hoarfrostlaw17.CertTells", spec := "certTells", apart := false, narrowed := true }
def CertTellsUptoSaid : Prop := certTellsUptoRow.holds Try.pinned (OpenSpec.upto certTellsSpec)

/-- 'hoarfrostlaw17.CertBooks', WHERE WHAT IT READS IS OF BULK AT MOST 1048576: true; the input reads as it did. -/
def certBooksUptoRow : OpenClaim := { program := "ytpnpgeilhafepaa", sum := "4ae1dbe815bac69aeb53c373fe3933b27a3361705320c5efa0f1df20394a9749", func := "hoarfrost/hoarfrostlaw17.CertBooks", spec := "certBooks", apart := false, narrowed := true }
def CertBooksUptoSaid : Prop := certBooksUptoRow.holds Try.pinned (OpenSpec.upto certBooksSpec)

/-- 'hoarfrostlaw17.CertBurst', WHERE WHAT IT READS IS OF BULK AT MOST 1048576: true; the input reads as it did. -/
def certBurstUptoRow : OpenClaim := { program := "ytpnpgeilhafepaa", sum := "4ae1dbe815bac69aeb53c373fe3933b27a3361705320c5efa0f1df20394a9749", func := "hoarfrost/hoarfrostlaw17.CertBurst", spec := "certBurst", apart := false, narrowed := true }
def CertBurstUptoSaid : Prop := certBurstUptoRow.holds Try.pinned (OpenSpec.upto certBurstSpec)

/-- 'hoarfrostlaw06.SeriesOrder', WHERE WHAT IT READS IS OF BULK AT MOST 1048576: true; the input reads as it did. -/
def seriesOrderUptoRow : OpenClaim := { program := "ytpnpgeilhafepaa", sum := "4ae1dbe815bac69aeb53c373fe3933b27a3361705320c5efa0f1df20394a9749", func := "hoarfrost/hoarfrostlaw06.SeriesOrder", spec := "seriesOrder", inPlace := ["slices.overlaps[hoarfrost/api.Reading]"], unfollowed := true, recurses := true, apart := false, narrowed := true }
def SeriesOrderUptoSaid : Prop := seriesOrderUptoRow.holds Try.pinned (OpenSpec.upto seriesOrderSpec)

/-- 'hoarfrostlaw06.SeriesSilence', WHERE WHAT IT READS IS OF BULK AT MOST 1048576: true; the input reads as it did. -/
def seriesSilenceUptoRow : OpenClaim := { program := "ytpnpgeilhafepaa", sum := "4ae1dbe815bac69aeb53c373fe3933b27a3361705320c5efa0f1df20394a9749", func := "hoarfrost/hoarfrostlaw06.SeriesSilence", spec := "seriesSilence", inPlace := ["slices.overlaps[hoarfrost/api.Reading]"], unfollowed := true, recurses := true, apart := false, narrowed := true }
def SeriesSilenceUptoSaid : Prop := seriesSilenceUptoRow.holds Try.pinned (OpenSpec.upto seriesSilenceSpec)

/-- 'hoarfrostlaw06.SeriesTells', WHERE WHAT IT READS IS OF BULK AT MOST 1048576: true; the input reads as it did. -/
def seriesTellsUptoRow : OpenClaim := { program := "ytpnpgeilhafepaa", sum := "4ae1dbe815bac69aeb53c373fe3933b27a3361705320c5efa0f1df20394a9749", func := "hoarfrost/hoarfrostlaw06.SeriesTells", spec := "seriesTells", inPlace := ["slices.overlaps[hoarfrost/api.Reading]"], unfollowed := true, recurses := true, apart := false, narrowed := true }
def SeriesTellsUptoSaid : Prop := seriesTellsUptoRow.holds Try.pinned (OpenSpec.upto seriesTellsSpec)

/-- 'hoarfrostlaw15.FefoTells', WHERE WHAT IT READS IS OF BULK AT MOST 1048576: true; the input reads as it did. -/
def fefoTellsUptoRow : OpenClaim := { program := "ytpnpgeilhafepaa", sum := "4ae1dbe815bac69aeb53c373fe3933b27a3361705320c5efa0f1df20394a9749", func := "hoarfrost/hoarfrostlaw15.FefoTells", spec := "fefoTells", unfollowed := true, recurses := true, apart := false, narrowed := true }
def FefoTellsUptoSaid : Prop := fefoTellsUptoRow.holds Try.pinned (OpenSpec.upto fefoTellsSpec)

end Rows
end Go.Proofs.Ytpnpgeilhafepaa
