/-
  No cell of these rows narrows 'for every input' (looked for: loops, veiled, ifaces, maps, wideKeys, modest, calm, conditions, laid).
  DERIVED. THE GIVEN ROWS OF THIS SEAT. 12 by the template 'for every input the law returns true; each argument reads behind the call as it read before'; 0 by the template 'total and deterministic' (their statements: YthgmnlkblomcaaaTotals.lean).
  GIVEN WITH THE SEED: the statements are not yours to turn. If you find one false, say at which input.
  Laid BY PROGRAM, IN A SANDBOX (cutbox-rows.mjs): the forced cells as the released guide's own fill.sh prints them over the translation 0ac1afa98c02331a… (all of the seat's roots in one cut). By AI agents, Wed Nov 11 2026. No macro, syntax, notation, axiom, sorry.
-/
import Derived.Test.YthgmnlkblomcaaaChecked
import GoSem.Claim
import GoSem.ClaimJoined
import GoSem.ClaimMapViews
import Derived.JoinedTies
import Derived.KernelRfl
namespace Go.Proofs.Ythgmnlkblomcaaa
/- THE CELL 'sum', in the pinned program and in every row, IS THE sha256 OF THE DUMP (.gsa) THAT YthgmnlkblomcaaaProg.lean LOADS. Nothing in Lean hashes anything: it is a label: what it is worth is what the hold of that sum in a sandbox is worth. -/
noncomputable def Try.pinned : Pinned := { name := "ythgmnlkblomcaaa", sum := "0ac1afa98c02331a5a77175f478bb87935f8d079be4f3ed6f23f4ce8317d9689", checked := Try.checked }
namespace Rows
def none {H : Type} : Left H := { results := [], args := [] }

/-- 'hoarfrostlaw11.StatusTells': WHATEVER THE INPUT: true; the input reads as it did. -/
def statusTellsSpec : ChangeSpec := { name := "statusTells", fn := fun _ => fun
  | [d1, d2, d3] => { results := [.lit (.bool true)], args := [d1, d2, d3] }
  | _ => none }
def statusTellsRow : OpenClaim := { program := "ythgmnlkblomcaaa", sum := "0ac1afa98c02331a5a77175f478bb87935f8d079be4f3ed6f23f4ce8317d9689", func := "hoarfrost/hoarfrostlaw11.StatusTells", spec := "statusTells", apart := false }
def StatusTellsSaid : Prop := statusTellsRow.holds Try.pinned (OpenSpec.ofChange statusTellsSpec)

/-- ITS FALSE NEIGHBOUR: 'it returns false'. Refute it at one input. -/
def statusTellsWrong : ChangeSpec := { name := "statusTells", fn := fun _ => fun
  | [d1, d2, d3] => { results := [.lit (.bool false)], args := [d1, d2, d3] }
  | _ => none }
def StatusTellsWrongFalsely : Prop := statusTellsRow.holds Try.pinned (OpenSpec.ofChange statusTellsWrong)

/-- 'hoarfrostlaw11.StatusEnds': WHATEVER THE INPUT: true; the input reads as it did. -/
def statusEndsSpec : ChangeSpec := { name := "statusEnds", fn := fun _ => fun
  | [d] => { results := [.lit (.bool true)], args := [d] }
  | _ => none }
def statusEndsRow : OpenClaim := { program := "ythgmnlkblomcaaa", sum := "0ac1afa98c02331a5a77175f478bb87935f8d079be4f3ed6f23f4ce8317d9689", func := "hoarfrost/hoarfrostlaw11.StatusEnds", spec := "statusEnds", apart := false }
def StatusEndsSaid : Prop := statusEndsRow.holds Try.pinned (OpenSpec.ofChange statusEndsSpec)

/-- ITS FALSE NEIGHBOUR: 'it returns false'. Refute it at one input. -/
def statusEndsWrong : ChangeSpec := { name := "statusEnds", fn := fun _ => fun
  | [d] => { results := [.lit (.bool false)], args := [d] }
  | _ => none }
def StatusEndsWrongFalsely : Prop := statusEndsRow.holds Try.pinned (OpenSpec.ofChange statusEndsWrong)

/-- 'hoarfrostlaw03.CheckTells': WHATEVER THE INPUT: true; the input reads as it did. -/
def checkTellsSpec : ChangeSpec := { name := "checkTells", fn := fun _ => fun
  | [d] => { results := [.lit (.bool true)], args := [d] }
  | _ => none }
def checkTellsRow : OpenClaim := { program := "ythgmnlkblomcaaa", sum := "0ac1afa98c02331a5a77175f478bb87935f8d079be4f3ed6f23f4ce8317d9689", func := "hoarfrost/hoarfrostlaw03.CheckTells", spec := "checkTells", apart := false }
def CheckTellsSaid : Prop := checkTellsRow.holds Try.pinned (OpenSpec.ofChange checkTellsSpec)

/-- ITS FALSE NEIGHBOUR: 'it returns false'. Refute it at one input. -/
def checkTellsWrong : ChangeSpec := { name := "checkTells", fn := fun _ => fun
  | [d] => { results := [.lit (.bool false)], args := [d] }
  | _ => none }
def CheckTellsWrongFalsely : Prop := checkTellsRow.holds Try.pinned (OpenSpec.ofChange checkTellsWrong)

/-- 'hoarfrostlaw03.CheckBurst': WHATEVER THE INPUT: true; the input reads as it did. -/
def checkBurstSpec : ChangeSpec := { name := "checkBurst", fn := fun _ => fun
  | [d1, d2, d3] => { results := [.lit (.bool true)], args := [d1, d2, d3] }
  | _ => none }
def checkBurstRow : OpenClaim := { program := "ythgmnlkblomcaaa", sum := "0ac1afa98c02331a5a77175f478bb87935f8d079be4f3ed6f23f4ce8317d9689", func := "hoarfrost/hoarfrostlaw03.CheckBurst", spec := "checkBurst", apart := false }
def CheckBurstSaid : Prop := checkBurstRow.holds Try.pinned (OpenSpec.ofChange checkBurstSpec)

/-- ITS FALSE NEIGHBOUR: 'it returns false'. Refute it at one input. -/
def checkBurstWrong : ChangeSpec := { name := "checkBurst", fn := fun _ => fun
  | [d1, d2, d3] => { results := [.lit (.bool false)], args := [d1, d2, d3] }
  | _ => none }
def CheckBurstWrongFalsely : Prop := checkBurstRow.holds Try.pinned (OpenSpec.ofChange checkBurstWrong)

/-- 'hoarfrostlaw16.OrderPlays': WHATEVER THE INPUT: true; the input reads as it did. -/
def orderPlaysSpec : ChangeSpec := { name := "orderPlays", fn := fun _ => fun
  | [d] => { results := [.lit (.bool true)], args := [d] }
  | _ => none }
def orderPlaysRow : OpenClaim := { program := "ythgmnlkblomcaaa", sum := "0ac1afa98c02331a5a77175f478bb87935f8d079be4f3ed6f23f4ce8317d9689", func := "hoarfrost/hoarfrostlaw16.OrderPlays", spec := "orderPlays", unfollowed := true, recurses := true, apart := false }
def OrderPlaysSaid : Prop := orderPlaysRow.holds Try.pinned (OpenSpec.ofChange orderPlaysSpec)

/-- ITS FALSE NEIGHBOUR: 'it returns false'. Refute it at one input. -/
def orderPlaysWrong : ChangeSpec := { name := "orderPlays", fn := fun _ => fun
  | [d] => { results := [.lit (.bool false)], args := [d] }
  | _ => none }
def OrderPlaysWrongFalsely : Prop := orderPlaysRow.holds Try.pinned (OpenSpec.ofChange orderPlaysWrong)

/-- 'hoarfrostlaw16.OrderOnce': WHATEVER THE INPUT: true; the input reads as it did. -/
def orderOnceSpec : ChangeSpec := { name := "orderOnce", fn := fun _ => fun
  | [d] => { results := [.lit (.bool true)], args := [d] }
  | _ => none }
def orderOnceRow : OpenClaim := { program := "ythgmnlkblomcaaa", sum := "0ac1afa98c02331a5a77175f478bb87935f8d079be4f3ed6f23f4ce8317d9689", func := "hoarfrost/hoarfrostlaw16.OrderOnce", spec := "orderOnce", unfollowed := true, recurses := true, apart := false }
def OrderOnceSaid : Prop := orderOnceRow.holds Try.pinned (OpenSpec.ofChange orderOnceSpec)

/-- ITS FALSE NEIGHBOUR: 'it returns false'. Refute it at one input. -/
def orderOnceWrong : ChangeSpec := { name := "orderOnce", fn := fun _ => fun
  | [d] => { results := [.lit (.bool false)], args := [d] }
  | _ => none }
def OrderOnceWrongFalsely : Prop := orderOnceRow.holds Try.pinned (OpenSpec.ofChange orderOnceWrong)

/-- 'hoarfrostlaw16.OrderLists': WHATEVER THE INPUT: true; the input reads as it did. -/
def orderListsSpec : ChangeSpec := { name := "orderLists", fn := fun _ => fun
  | [d] => { results := [.lit (.bool true)], args := [d] }
  | _ => none }
def orderListsRow : OpenClaim := { program := "ythgmnlkblomcaaa", sum := "0ac1afa98c02331a5a77175f478bb87935f8d079be4f3ed6f23f4ce8317d9689", func := "hoarfrost/hoarfrostlaw16.OrderLists", spec := "orderLists", unfollowed := true, recurses := true, apart := false }
def OrderListsSaid : Prop := orderListsRow.holds Try.pinned (OpenSpec.ofChange orderListsSpec)

/-- ITS FALSE NEIGHBOUR: 'it returns false'. Refute it at one input. -/
def orderListsWrong : ChangeSpec := { name := "orderLists", fn := fun _ => fun
  | [d] => { results := [.lit (.bool false)], args := [d] }
  | _ => none }
def OrderListsWrongFalsely : Prop := orderListsRow.holds Try.pinned (OpenSpec.ofChange orderListsWrong)

/-- 'hoarfrostlaw14.KeepTells': WHATEVER THE INPUT: true; the input reads as it did. -/
def keepTellsSpec : ChangeSpec := { name := "keepTells", fn := fun _ => fun
  | [d1, d2, d3] => { results := [.lit (.bool true)], args := [d1, d2, d3] }
  | _ => none }
def keepTellsRow : OpenClaim := { program := "ythgmnlkblomcaaa", sum := "0ac1afa98c02331a5a77175f478bb87935f8d079be4f3ed6f23f4ce8317d9689", func := "hoarfrost/hoarfrostlaw14.KeepTells", spec := "keepTells", unfollowed := true, recurses := true, apart := false }
def KeepTellsSaid : Prop := keepTellsRow.holds Try.pinned (OpenSpec.ofChange keepTellsSpec)

/-- ITS FALSE NEIGHBOUR: 'it returns false'. Refute it at one input. -/
def keepTellsWrong : ChangeSpec := { name := "keepTells", fn := fun _ => fun
  | [d1, d2, d3] => { results := [.lit (.bool false)], args := [d1, d2, d3] }
  | _ => none }
def KeepTellsWrongFalsely : Prop := keepTellsRow.holds Try.pinned (OpenSpec.ofChange keepTellsWrong)

/-- 'hoarfrostlaw14.KeepNever': WHATEVER THE INPUT: true; the input reads as it did. -/
def keepNeverSpec : ChangeSpec := { name := "keepNever", fn := fun _ => fun
  | [d1, d2, d3] => { results := [.lit (.bool true)], args := [d1, d2, d3] }
  | _ => none }
def keepNeverRow : OpenClaim := { program := "ythgmnlkblomcaaa", sum := "0ac1afa98c02331a5a77175f478bb87935f8d079be4f3ed6f23f4ce8317d9689", func := "hoarfrost/hoarfrostlaw14.KeepNever", spec := "keepNever", unfollowed := true, recurses := true, apart := false }
def KeepNeverSaid : Prop := keepNeverRow.holds Try.pinned (OpenSpec.ofChange keepNeverSpec)

/-- ITS FALSE NEIGHBOUR: 'it returns false'. Refute it at one input. -/
def keepNeverWrong : ChangeSpec := { name := "keepNever", fn := fun _ => fun
  | [d1, d2, d3] => { results := [.lit (.bool false)], args := [d1, d2, d3] }
  | _ => none }
def KeepNeverWrongFalsely : Prop := keepNeverRow.holds Try.pinned (OpenSpec.ofChange keepNeverWrong)

/-- 'hoarfrostlaw04.OctetsWrites': WHATEVER THE INPUT: true; the input reads as it did. -/
def octetsWritesSpec : ChangeSpec := { name := "octetsWrites", fn := fun _ => fun
  | [d] => { results := [.lit (.bool true)], args := [d] }
  | _ => none }
def octetsWritesRow : OpenClaim := { program := "ythgmnlkblomcaaa", sum := "0ac1afa98c02331a5a77175f478bb87935f8d079be4f3ed6f23f4ce8317d9689", func := "hoarfrost/hoarfrostlaw04.OctetsWrites", spec := "octetsWrites", apart := false }
def OctetsWritesSaid : Prop := octetsWritesRow.holds Try.pinned (OpenSpec.ofChange octetsWritesSpec)

/-- ITS FALSE NEIGHBOUR: 'it returns false'. Refute it at one input. -/
def octetsWritesWrong : ChangeSpec := { name := "octetsWrites", fn := fun _ => fun
  | [d] => { results := [.lit (.bool false)], args := [d] }
  | _ => none }
def OctetsWritesWrongFalsely : Prop := octetsWritesRow.holds Try.pinned (OpenSpec.ofChange octetsWritesWrong)

/-- 'hoarfrostlaw04.OctetsReads': WHATEVER THE INPUT: true; the input reads as it did. -/
def octetsReadsSpec : ChangeSpec := { name := "octetsReads", fn := fun _ => fun
  | [d1, d2] => { results := [.lit (.bool true)], args := [d1, d2] }
  | _ => none }
def octetsReadsRow : OpenClaim := { program := "ythgmnlkblomcaaa", sum := "0ac1afa98c02331a5a77175f478bb87935f8d079be4f3ed6f23f4ce8317d9689", func := "hoarfrost/hoarfrostlaw04.OctetsReads", spec := "octetsReads", apart := false }
def OctetsReadsSaid : Prop := octetsReadsRow.holds Try.pinned (OpenSpec.ofChange octetsReadsSpec)

/-- ITS FALSE NEIGHBOUR: 'it returns false'. Refute it at one input. -/
def octetsReadsWrong : ChangeSpec := { name := "octetsReads", fn := fun _ => fun
  | [d1, d2] => { results := [.lit (.bool false)], args := [d1, d2] }
  | _ => none }
def OctetsReadsWrongFalsely : Prop := octetsReadsRow.holds Try.pinned (OpenSpec.ofChange octetsReadsWrong)

/-- 'hoarfrostlaw04.OctetsBack': WHATEVER THE INPUT: true; the input reads as it did. -/
def octetsBackSpec : ChangeSpec := { name := "octetsBack", fn := fun _ => fun
  | [d] => { results := [.lit (.bool true)], args := [d] }
  | _ => none }
def octetsBackRow : OpenClaim := { program := "ythgmnlkblomcaaa", sum := "0ac1afa98c02331a5a77175f478bb87935f8d079be4f3ed6f23f4ce8317d9689", func := "hoarfrost/hoarfrostlaw04.OctetsBack", spec := "octetsBack", apart := false }
def OctetsBackSaid : Prop := octetsBackRow.holds Try.pinned (OpenSpec.ofChange octetsBackSpec)

/-- ITS FALSE NEIGHBOUR: 'it returns false'. Refute it at one input. -/
def octetsBackWrong : ChangeSpec := { name := "octetsBack", fn := fun _ => fun
  | [d] => { results := [.lit (.bool false)], args := [d] }
  | _ => none }
def OctetsBackWrongFalsely : Prop := octetsBackRow.holds Try.pinned (OpenSpec.ofChange octetsBackWrong)

/- THE SECOND FORM. 'bulk': how many values and letters a reading holds, each counted each time it is reached (what is shared counts as often as it is met; a slice's spare places count too). A statement '..UptoSaid' is the law's where the arguments, and the package variables that the reading takes, are together of bulk at most 1048576: NARROWER than '..Said'. Prove '..Said' where nothing that the law and all that it calls make is longer than what came in: it says more and counts as full. Else prove '..UptoSaid'. A law counts once. -/
mutual
def uptoBulk {H : Type} : DataW H → Nat
  | .lit (.string bytes) => bytes.length + 1
  | .lit _ => 1
  | .nil => 1
  | .ptr d => uptoBulk d + 1
  | .slice elems spare => uptoBulkAll elems + uptoBulkAll spare + 1
  | .agg parts => uptoBulkAll parts + 1
  | .iface _ d => uptoBulk d + 1
  | .map entries => uptoBulkEntries entries + 1
  | .held _ => 1
def uptoBulkAll {H : Type} : List (DataW H) → Nat
  | [] => 0
  | d :: r => uptoBulk d + uptoBulkAll r
def uptoBulkEntries {H : Type} : List (Lit × DataW H) → Nat
  | [] => 0
  | x :: r => uptoBulkEntry x + uptoBulkEntries r
def uptoBulkEntry {H : Type} : Lit × DataW H → Nat
  | (.string bytes, d) => bytes.length + uptoBulk d + 1
  | (_, d) => uptoBulk d + 1
 end
def uptoSmall : (H : Type) → List (DataW H) → Bool := fun _ ds => decide (uptoBulkAll ds ≤ 1048576)
def OpenSpec.upto (s : _root_.Go.ChangeSpec) : _root_.Go.OpenSpec := { _root_.Go.OpenSpec.ofChange s with cond := some uptoSmall }

/-- 'hoarfrostlaw11.StatusTells', WHERE WHAT IT READS IS OF BULK AT MOST 1048576: true; the input reads as it did. -/
def statusTellsUptoRow : OpenClaim := { program := "ythgmnlkblomcaaa", sum := "0ac1afa98c02331a5a77175f478bb87935f8d079be4f3ed6f23f4ce8317d9689", func := "hoarfrost/hoarfrostlaw11.StatusTells", spec := "statusTells", apart := false, narrowed := true }
def StatusTellsUptoSaid : Prop := statusTellsUptoRow.holds Try.pinned (OpenSpec.upto statusTellsSpec)

/-- 'hoarfrostlaw11.StatusEnds', WHERE WHAT IT READS IS OF BULK AT MOST 1048576: true; the input reads as it did. -/
def statusEndsUptoRow : OpenClaim := { program := "ythgmnlkblomcaaa", sum := "0ac1afa98c02331a5a77175f478bb87935f8d079be4f3ed6f23f4ce8317d9689", func := "hoarfrost/hoarfrostlaw11.StatusEnds", spec := "statusEnds", apart := false, narrowed := true }
def StatusEndsUptoSaid : Prop := statusEndsUptoRow.holds Try.pinned (OpenSpec.upto statusEndsSpec)

/-- 'hoarfrostlaw03.CheckTells', WHERE WHAT IT READS IS OF BULK AT MOST 1048576: true; the input reads as it did. -/
def checkTellsUptoRow : OpenClaim := { program := "ythgmnlkblomcaaa", sum := "0ac1afa98c02331a5a77175f478bb87935f8d079be4f3ed6f23f4ce8317d9689", func := "hoarfrost/hoarfrostlaw03.CheckTells", spec := "checkTells", apart := false, narrowed := true }
def CheckTellsUptoSaid : Prop := checkTellsUptoRow.holds Try.pinned (OpenSpec.upto checkTellsSpec)

/-- 'hoarfrostlaw03.CheckBurst', WHERE WHAT IT READS IS OF BULK AT MOST 1048576: true; the input reads as it did. -/
def checkBurstUptoRow : OpenClaim := { program := "ythgmnlkblomcaaa", sum := "0ac1afa98c02331a5a77175f478bb87935f8d079be4f3ed6f23f4ce8317d9689", func := "hoarfrost/hoarfrostlaw03.CheckBurst", spec := "checkBurst", apart := false, narrowed := true }
def CheckBurstUptoSaid : Prop := checkBurstUptoRow.holds Try.pinned (OpenSpec.upto checkBurstSpec)

/-- 'hoarfrostlaw16.OrderPlays', WHERE WHAT IT READS IS OF BULK AT MOST 1048576: true; the input reads as it did. -/
def orderPlaysUptoRow : OpenClaim := { program := "ythgmnlkblomcaaa", sum := "0ac1afa98c02331a5a77175f478bb87935f8d079be4f3ed6f23f4ce8317d9689", func := "hoarfrost/hoarfrostlaw16.OrderPlays", spec := "orderPlays", unfollowed := true, recurses := true, apart := false, narrowed := true }
def OrderPlaysUptoSaid : Prop := orderPlaysUptoRow.holds Try.pinned (OpenSpec.upto orderPlaysSpec)

/-- 'hoarfrostlaw16.OrderOnce', WHERE WHAT IT READS IS OF BULK AT MOST 1048576: true; the input reads as it did. -/
def orderOnceUptoRow : OpenClaim := { program := "ythgmnlkblomcaaa", sum := "0ac1afa98c02331a5a77175f478bb87935f8d079be4f3ed6f23f4ce8317d9689", func := "hoarfrost/hoarfrostlaw16.OrderOnce", spec := "orderOnce", unfollowed := true, recurses := true, apart := false, narrowed := true }
def OrderOnceUptoSaid : Prop := orderOnceUptoRow.holds Try.pinned (OpenSpec.upto orderOnceSpec)

/-- 'hoarfrostlaw16.OrderLists', WHERE WHAT IT READS IS OF BULK AT MOST 1048576: true; the input reads as it did. -/
def orderListsUptoRow : OpenClaim := { program := "ythgmnlkblomcaaa", sum := "0ac1afa98c02331a5a77175f478bb87935f8d079be4f3ed6f23f4ce8317d9689", func := "hoarfrost/hoarfrostlaw16.OrderLists", spec := "orderLists", unfollowed := true, recurses := true, apart := false, narrowed := true }
def OrderListsUptoSaid : Prop := orderListsUptoRow.holds Try.pinned (OpenSpec.upto orderListsSpec)

/-- 'hoarfrostlaw14.KeepTells', WHERE WHAT IT READS IS OF BULK AT MOST 1048576: true; the input reads as it did. -/
def keepTellsUptoRow : OpenClaim := { program := "ythgmnlkblomcaaa", sum := "0ac1afa98c02331a5a77175f478bb87935f8d079be4f3ed6f23f4ce8317d9689", func := "hoarfrost/hoarfrostlaw14.KeepTells", spec := "keepTells", unfollowed := true, recurses := true, apart := false, narrowed := true }
def KeepTellsUptoSaid : Prop := keepTellsUptoRow.holds Try.pinned (OpenSpec.upto keepTellsSpec)

/-- 'hoarfrostlaw14.KeepNever', WHERE WHAT IT READS IS OF BULK AT MOST 1048576: true; the input reads as it did. -/
def keepNeverUptoRow : OpenClaim := { program := "ythgmnlkblomcaaa", sum := "0ac1afa98c02331a5a77175f478bb87935f8d079be4f3ed6f23f4ce8317d9689", func := "hoarfrost/hoarfrostlaw14.KeepNever", spec := "keepNever", unfollowed := true, recurses := true, apart := false, narrowed := true }
def KeepNeverUptoSaid : Prop := keepNeverUptoRow.holds Try.pinned (OpenSpec.upto keepNeverSpec)

/-- 'hoarfrostlaw04.OctetsWrites', WHERE WHAT IT READS IS OF BULK AT MOST 1048576: true; the input reads as it did. -/
def octetsWritesUptoRow : OpenClaim := { program := "ythgmnlkblomcaaa", sum := "0ac1afa98c02331a5a77175f478bb87935f8d079be4f3ed6f23f4ce8317d9689", func := "hoarfrost/hoarfrostlaw04.OctetsWrites", spec := "octetsWrites", apart := false, narrowed := true }
def OctetsWritesUptoSaid : Prop := octetsWritesUptoRow.holds Try.pinned (OpenSpec.upto octetsWritesSpec)

/-- 'hoarfrostlaw04.OctetsReads', WHERE WHAT IT READS IS OF BULK AT MOST 1048576: true; the input reads as it did. -/
def octetsReadsUptoRow : OpenClaim := { program := "ythgmnlkblomcaaa", sum := "0ac1afa98c02331a5a77175f478bb87935f8d079be4f3ed6f23f4ce8317d9689", func := "hoarfrost/hoarfrostlaw04.OctetsReads", spec := "octetsReads", apart := false, narrowed := true }
def OctetsReadsUptoSaid : Prop := octetsReadsUptoRow.holds Try.pinned (OpenSpec.upto octetsReadsSpec)

/-- 'hoarfrostlaw04.OctetsBack', WHERE WHAT IT READS IS OF BULK AT MOST 1048576: true; the input reads as it did. -/
def octetsBackUptoRow : OpenClaim := { program := "ythgmnlkblomcaaa", sum := "0ac1afa98c02331a5a77175f478bb87935f8d079be4f3ed6f23f4ce8317d9689", func := "hoarfrost/hoarfrostlaw04.OctetsBack", spec := "octetsBack", apart := false, narrowed := true }
def OctetsBackUptoSaid : Prop := octetsBackUptoRow.holds Try.pinned (OpenSpec.upto octetsBackSpec)

end Rows
end Go.Proofs.Ythgmnlkblomcaaa
