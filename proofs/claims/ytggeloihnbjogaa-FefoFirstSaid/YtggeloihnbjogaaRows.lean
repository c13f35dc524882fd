/-
  No cell of these rows narrows 'for every input' (looked for: loops, veiled, ifaces, maps, wideKeys, modest, calm, conditions, laid).
  DERIVED. THE GIVEN ROWS OF THIS SEAT. 8 by the template 'for every input the law returns true; each argument reads behind the call as it read before'; 0 by the template 'total and deterministic' (their statements: YtggeloihnbjogaaTotals.lean).
  GIVEN WITH THE SEED: the statements are not yours to turn. If you find one false, say at which input.
  Laid BY PROGRAM, IN A SANDBOX (cutbox-rows.mjs): the forced cells as the released guide's own fill.sh prints them over the translation f6b13f218824dd55… (all of the seat's roots in one cut). By AI agents, Wed Nov 11 2026. No macro, syntax, notation, axiom, sorry.
-/
import Derived.Test.YtggeloihnbjogaaChecked
import GoSem.Claim
import GoSem.ClaimJoined
import GoSem.ClaimMapViews
import Derived.JoinedTies
import Derived.KernelRfl
namespace Go.Proofs.Ytggeloihnbjogaa
/- THE CELL 'sum', in the pinned program and in every row, IS THE sha256 OF THE DUMP (.gsa) THAT YtggeloihnbjogaaProg.lean LOADS. Nothing in Lean hashes anything: it is a label: what it is worth is what the hold of that sum in a sandbox is worth. -/
noncomputable def Try.pinned : Pinned := { name := "ytggeloihnbjogaa", sum := "f6b13f218824dd55293b0584278f22b587ba7d574ee198d6f30f457f1b458008", checked := Try.checked }
namespace Rows
def none {H : Type} : Left H := { results := [], args := [] }

/-- 'hoarfrostlaw06.SeriesTells': WHATEVER THE INPUT: true; the input reads as it did. -/
def seriesTellsSpec : ChangeSpec := { name := "seriesTells", fn := fun _ => fun
  | [d1, d2, d3] => { results := [.lit (.bool true)], args := [d1, d2, d3] }
  | _ => none }
def seriesTellsRow : OpenClaim := { program := "ytggeloihnbjogaa", sum := "f6b13f218824dd55293b0584278f22b587ba7d574ee198d6f30f457f1b458008", func := "hoarfrost/hoarfrostlaw06.SeriesTells", spec := "seriesTells", inPlace := ["slices.overlaps[hoarfrost/api.Reading]"], unfollowed := true, recurses := true, apart := false }
def SeriesTellsSaid : Prop := seriesTellsRow.holds Try.pinned (OpenSpec.ofChange seriesTellsSpec)

/-- ITS FALSE NEIGHBOUR: 'it returns false'. Refute it at one input. -/
def seriesTellsWrong : ChangeSpec := { name := "seriesTells", fn := fun _ => fun
  | [d1, d2, d3] => { results := [.lit (.bool false)], args := [d1, d2, d3] }
  | _ => none }
def SeriesTellsWrongFalsely : Prop := seriesTellsRow.holds Try.pinned (OpenSpec.ofChange seriesTellsWrong)

/-- 'hoarfrostlaw15.FefoTells': WHATEVER THE INPUT: true; the input reads as it did. -/
def fefoTellsSpec : ChangeSpec := { name := "fefoTells", fn := fun _ => fun
  | [d1, d2, d3] => { results := [.lit (.bool true)], args := [d1, d2, d3] }
  | _ => none }
def fefoTellsRow : OpenClaim := { program := "ytggeloihnbjogaa", sum := "f6b13f218824dd55293b0584278f22b587ba7d574ee198d6f30f457f1b458008", func := "hoarfrost/hoarfrostlaw15.FefoTells", spec := "fefoTells", unfollowed := true, recurses := true, apart := false }
def FefoTellsSaid : Prop := fefoTellsRow.holds Try.pinned (OpenSpec.ofChange fefoTellsSpec)

/-- ITS FALSE NEIGHBOUR: 'it returns false'. Refute it at one input. -/
def fefoTellsWrong : ChangeSpec := { name := "fefoTells", fn := fun _ => fun
  | [d1, d2, d3] => { results := [.lit (.bool false)], args := [d1, d2, d3] }
  | _ => none }
def FefoTellsWrongFalsely : Prop := fefoTellsRow.holds Try.pinned (OpenSpec.ofChange fefoTellsWrong)

/-- 'hoarfrostlaw15.FefoFirst': WHATEVER THE INPUT: true; the input reads as it did. -/
def fefoFirstSpec : ChangeSpec := { name := "fefoFirst", fn := fun _ => fun
  | [d1, d2, d3] => { results := [.lit (.bool true)], args := [d1, d2, d3] }
  | _ => none }
def fefoFirstRow : OpenClaim := { program := "ytggeloihnbjogaa", sum := "f6b13f218824dd55293b0584278f22b587ba7d574ee198d6f30f457f1b458008", func := "hoarfrost/hoarfrostlaw15.FefoFirst", spec := "fefoFirst", unfollowed := true, recurses := true, apart := false }
def FefoFirstSaid : Prop := fefoFirstRow.holds Try.pinned (OpenSpec.ofChange fefoFirstSpec)

/-- ITS FALSE NEIGHBOUR: 'it returns false'. Refute it at one input. -/
def fefoFirstWrong : ChangeSpec := { name := "fefoFirst", fn := fun _ => fun
  | [d1, d2, d3] => { results := [.lit (.bool false)], args := [d1, d2, d3] }
  | _ => none }
def FefoFirstWrongFalsely : Prop := fefoFirstRow.holds Try.pinned (OpenSpec.ofChange fefoFirstWrong)

/-- 'hoarfrostlaw05.FrameTells': WHATEVER THE INPUT: true; the input reads as it did. -/
def frameTellsSpec : ChangeSpec := { name := "frameTells", fn := fun _ => fun
  | [d1, d2] => { results := [.lit (.bool true)], args := [d1, d2] }
  | _ => none }
def frameTellsRow : OpenClaim := { program := "ytggeloihnbjogaa", sum := "f6b13f218824dd55293b0584278f22b587ba7d574ee198d6f30f457f1b458008", func := "hoarfrost/hoarfrostlaw05.FrameTells", spec := "frameTells", inPlace := ["math.Float64frombits", "math.archCeil", "math.archFloor", "math.Float64bits", "math.archTrunc"], unfollowed := true, recurses := true, apart := false }
def FrameTellsSaid : Prop := frameTellsRow.holds Try.pinned (OpenSpec.ofChange frameTellsSpec)

/-- ITS FALSE NEIGHBOUR: 'it returns false'. Refute it at one input. -/
def frameTellsWrong : ChangeSpec := { name := "frameTells", fn := fun _ => fun
  | [d1, d2] => { results := [.lit (.bool false)], args := [d1, d2] }
  | _ => none }
def FrameTellsWrongFalsely : Prop := frameTellsRow.holds Try.pinned (OpenSpec.ofChange frameTellsWrong)

/-- 'hoarfrostlaw05.FrameBurst': WHATEVER THE INPUT: true; the input reads as it did. -/
def frameBurstSpec : ChangeSpec := { name := "frameBurst", fn := fun _ => fun
  | [d1, d2, d3] => { results := [.lit (.bool true)], args := [d1, d2, d3] }
  | _ => none }
def frameBurstRow : OpenClaim := { program := "ytggeloihnbjogaa", sum := "f6b13f218824dd55293b0584278f22b587ba7d574ee198d6f30f457f1b458008", func := "hoarfrost/hoarfrostlaw05.FrameBurst", spec := "frameBurst", inPlace := ["math.Float64frombits", "math.archCeil", "math.archFloor", "math.Float64bits", "math.archTrunc"], unfollowed := true, recurses := true, apart := false }
def FrameBurstSaid : Prop := frameBurstRow.holds Try.pinned (OpenSpec.ofChange frameBurstSpec)

/-- ITS FALSE NEIGHBOUR: 'it returns false'. Refute it at one input. -/
def frameBurstWrong : ChangeSpec := { name := "frameBurst", fn := fun _ => fun
  | [d1, d2, d3] => { results := [.lit (.bool false)], args := [d1, d2, d3] }
  | _ => none }
def FrameBurstWrongFalsely : Prop := frameBurstRow.holds Try.pinned (OpenSpec.ofChange frameBurstWrong)

/-- 'hoarfrostlaw07.ExcessSame': WHATEVER THE INPUT: true; the input reads as it did. -/
def excessSameSpec : ChangeSpec := { name := "excessSame", fn := fun _ => fun
  | [d1, d2, d3] => { results := [.lit (.bool true)], args := [d1, d2, d3] }
  | _ => none }
def excessSameRow : OpenClaim := { program := "ytggeloihnbjogaa", sum := "f6b13f218824dd55293b0584278f22b587ba7d574ee198d6f30f457f1b458008", func := "hoarfrost/hoarfrostlaw07.ExcessSame", spec := "excessSame", inPlace := ["slices.overlaps[hoarfrost/api.Reading]"], unfollowed := true, recurses := true, apart := false }
def ExcessSameSaid : Prop := excessSameRow.holds Try.pinned (OpenSpec.ofChange excessSameSpec)

/-- ITS FALSE NEIGHBOUR: 'it returns false'. Refute it at one input. -/
def excessSameWrong : ChangeSpec := { name := "excessSame", fn := fun _ => fun
  | [d1, d2, d3] => { results := [.lit (.bool false)], args := [d1, d2, d3] }
  | _ => none }
def ExcessSameWrongFalsely : Prop := excessSameRow.holds Try.pinned (OpenSpec.ofChange excessSameWrong)

/-- 'hoarfrostlaw07.ExcessTells': WHATEVER THE INPUT: true; the input reads as it did. -/
def excessTellsSpec : ChangeSpec := { name := "excessTells", fn := fun _ => fun
  | [d1, d2, d3] => { results := [.lit (.bool true)], args := [d1, d2, d3] }
  | _ => none }
def excessTellsRow : OpenClaim := { program := "ytggeloihnbjogaa", sum := "f6b13f218824dd55293b0584278f22b587ba7d574ee198d6f30f457f1b458008", func := "hoarfrost/hoarfrostlaw07.ExcessTells", spec := "excessTells", inPlace := ["slices.overlaps[hoarfrost/api.Reading]"], unfollowed := true, recurses := true, apart := false }
def ExcessTellsSaid : Prop := excessTellsRow.holds Try.pinned (OpenSpec.ofChange excessTellsSpec)

/-- ITS FALSE NEIGHBOUR: 'it returns false'. Refute it at one input. -/
def excessTellsWrong : ChangeSpec := { name := "excessTells", fn := fun _ => fun
  | [d1, d2, d3] => { results := [.lit (.bool false)], args := [d1, d2, d3] }
  | _ => none }
def ExcessTellsWrongFalsely : Prop := excessTellsRow.holds Try.pinned (OpenSpec.ofChange excessTellsWrong)

/-- 'hoarfrostlaw07.ExcessAdded': WHATEVER THE INPUT: true; the input reads as it did. -/
def excessAddedSpec : ChangeSpec := { name := "excessAdded", fn := fun _ => fun
  | [d1, d2, d3] => { results := [.lit (.bool true)], args := [d1, d2, d3] }
  | _ => none }
def excessAddedRow : OpenClaim := { program := "ytggeloihnbjogaa", sum := "f6b13f218824dd55293b0584278f22b587ba7d574ee198d6f30f457f1b458008", func := "hoarfrost/hoarfrostlaw07.ExcessAdded", spec := "excessAdded", inPlace := ["slices.overlaps[hoarfrost/api.Reading]"], unfollowed := true, recurses := true, apart := false }
def ExcessAddedSaid : Prop := excessAddedRow.holds Try.pinned (OpenSpec.ofChange excessAddedSpec)

/-- ITS FALSE NEIGHBOUR: 'it returns false'. Refute it at one input. -/
def excessAddedWrong : ChangeSpec := { name := "excessAdded", fn := fun _ => fun
  | [d1, d2, d3] => { results := [.lit (.bool false)], args := [d1, d2, d3] }
  | _ => none }
def ExcessAddedWrongFalsely : Prop := excessAddedRow.holds Try.pinned (OpenSpec.ofChange excessAddedWrong)

/- THE SECOND FORM. 'bulk': how many values and letters a reading holds, each counted each time it is reached (what is shared counts as often as it is met; a slice's spare places count too). A statement '..UptoSaid' is the law's where the arguments, and the package variables that the reading takes, are together of bulk at most 1048576: NARROWER than '..Said'. Prove '..Said' where nothing that the law and all that it calls make is longer than what came in: it says more and counts as full. Else prove '..UptoSaid'. A law counts once. -/
mutual
def uptoBulk {H : Type} : DataW H → Nat
  | .lit (.string bytes) => bytes.length + 1
  | .lit _ => 1
  | .nil => 1
  | .ptr d => uptoBulk d + 1
  | .slice elems spare => uptoBulkAll elems + uptoBulkAll spare + 1
  | .agg parts => uptoBulkAll parts + 1
  | .iface _ d => uptoBulk d + 1
  | .map entries => uptoBulkEntries entries + 1
  | .held _ => 1
def uptoBulkAll {H : Type} : List (DataW H) → Nat
  | [] => 0
  | d :: r => uptoBulk d + uptoBulkAll r
def uptoBulkEntries {H : Type} : List (Lit × DataW H) → Nat
  | [] => 0
  | x :: r => uptoBulkEntry x + uptoBulkEntries r
def uptoBulkEntry {H : Type} : Lit × DataW H → Nat
  | (.string bytes, d) => bytes.length + uptoBulk d + 1
  | (_, d) => uptoBulk d + 1
 end
def uptoSmall : (H : Type) → List (DataW H) → Bool := fun _ ds => decide (uptoBulkAll ds ≤ 1048576)
def OpenSpec.upto (s : _root_.Go.ChangeSpec) : _root_.Go.OpenSpec := { _root_.Go.OpenSpec.ofChange s with cond := some uptoSmall }

/-- 'hoarfrostlaw06.SeriesTells', WHERE WHAT IT READS IS OF BULK AT MOST 1048576: true; the input reads as it did. -/
def seriesTellsUptoRow : OpenClaim := { program := "ytggeloihnbjogaa", sum := "f6b13f218824dd55293b0584278f22b587ba7d574ee198d6f30f457f1b458008", func := "hoarfrost/hoarfrostlaw06.SeriesTells", spec := "seriesTells", inPlace := ["slices.overlaps[hoarfrost/api.Reading]"], unfollowed := true, recurses := true, apart := false, narrowed := true }
def SeriesTellsUptoSaid : Prop := seriesTellsUptoRow.holds Try.pinned (OpenSpec.upto seriesTellsSpec)

/-- 'hoarfrostlaw15.FefoTells', WHERE WHAT IT READS IS OF BULK AT MOST 1048576: true; the input reads as it did. -/
def fefoTellsUptoRow : OpenClaim := { program := "ytggeloihnbjogaa", sum := "f6b13f218824dd55293b0584278f22b587ba7d574ee198d6f30f457f1b458008", func := "hoarfrost/hoarfrostlaw15.FefoTells", spec := "fefoTells", unfollowed := true, recurses := true, apart := false, narrowed := true }
def FefoTellsUptoSaid : Prop := fefoTellsUptoRow.holds Try.pinned (OpenSpec.upto fefoTellsSpec)

/-- 'hoarfrostlaw15.FefoFirst', WHERE WHAT IT READS IS OF BULK AT MOST 1048576: true; the input reads as it did. -/
def fefoFirstUptoRow : OpenClaim := { program := "ytggeloihnbjogaa", sum := "f6b13f218824dd55293b0584278f22b587ba7d574ee198d6f30f457f1b458008", func := "hoarfrost/hoarfrostlaw15.FefoFirst", spec := "fefoFirst", unfollowed := true, recurses := true, apart := false, narrowed := true }
def FefoFirstUptoSaid : Prop := fefoFirstUptoRow.holds Try.pinned (OpenSpec.upto fefoFirstSpec)

/-- 'hoarfrostlaw05.FrameTells', WHERE WHAT IT READS IS OF BULK AT MOST 1048576: true; the input reads as it did. -/
def frameTellsUptoRow : OpenClaim := { program := "ytggeloihnbjogaa", sum := "f6b13f218824dd55293b0584278f22b587ba7d574ee198d6f30f457f1b458008", func := "hoarfrost/hoarfrostlaw05.FrameTells", spec := "frameTells", inPlace := ["math.Float64frombits", "math.archCeil", "math.archFloor", "math.Float64bits", "math.archTrunc"], unfollowed := true, recurses := true, apart := false, narrowed := true }
def FrameTellsUptoSaid : Prop := frameTellsUptoRow.holds Try.pinned (OpenSpec.upto frameTellsSpec)

/-- 'hoarfrostlaw05.FrameBurst', WHERE WHAT IT READS IS OF BULK AT MOST 1048576: true; the input reads as it did. -/
def frameBurstUptoRow : OpenClaim := { program := "ytggeloihnbjogaa", sum := "f6b13f218824dd55293b0584278f22b587ba7d574ee198d6f30f457f1b458008", func := "hoarfrost/hoarfrostlaw05.FrameBurst", spec := "frameBurst", inPlace := ["math.Float64frombits", "math.archCeil", "math.archFloor", "math.Float64bits", "math.archTrunc"], unfollowed := true, recurses := true, apart := false, narrowed := true }
def FrameBurstUptoSaid : Prop := frameBurstUptoRow.holds Try.pinned (OpenSpec.upto frameBurstSpec)

/-- 'hoarfrostlaw07.ExcessSame', WHERE WHAT IT READS IS OF BULK AT MOST 1048576: true; the input reads as it did. -/
def excessSameUptoRow : OpenClaim := { program := "ytggeloihnbjogaa", sum := "f6b13f218824dd55293b0584278f22b587ba7d574ee198d6f30f457f1b458008", func := "hoarfrost/hoarfrostlaw07.ExcessSame", spec := "excessSame", inPlace := ["slices.overlaps[hoarfrost/api.Reading]"], unfollowed := true, recurses := true, apart := false, narrowed := true }
def ExcessSameUptoSaid : Prop := excessSameUptoRow.holds Try.pinned (OpenSpec.upto excessSameSpec)

/-- 'hoarfrostlaw07.ExcessTells', WHERE WHAT IT READS IS OF BULK AT MOST 1048576: true; the input reads as it did. -/
def excessTellsUptoRow : OpenClaim := { program := "ytggeloihnbjogaa", sum := "f6b13f218824dd55293b0584278f22b587ba7d574ee198d6f30f457f1b458008", func := "hoarfrost/hoarfrostlaw07.ExcessTells", spec := "excessTells", inPlace := ["slices.overlaps[hoarfrost/api.Reading]"], unfollowed := true, recurses := true, apart := false, narrowed := true }
def ExcessTellsUptoSaid : Prop := excessTellsUptoRow.holds Try.pinned (OpenSpec.upto excessTellsSpec)

/-- 'hoarfrostlaw07.ExcessAdded', WHERE WHAT IT READS IS OF BULK AT MOST 1048576: true; the input reads as it did. -/
def excessAddedUptoRow : OpenClaim := { program := "ytggeloihnbjogaa", sum := "f6b13f218824dd55293b0584278f22b587ba7d574ee198d6f30f457f1b458008", func := "hoarfrost/hoarfrostlaw07.ExcessAdded", spec := "excessAdded", inPlace := ["slices.overlaps[hoarfrost/api.Reading]"], unfollowed := true, recurses := true, apart := false, narrowed := true }
def ExcessAddedUptoSaid : Prop := excessAddedUptoRow.holds Try.pinned (OpenSpec.upto excessAddedSpec)

end Rows
end Go.Proofs.Ytggeloihnbjogaa
