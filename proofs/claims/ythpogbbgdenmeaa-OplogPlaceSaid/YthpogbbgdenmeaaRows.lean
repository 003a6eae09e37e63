/-
  No cell of these rows narrows 'for every input' (looked for: loops, veiled, ifaces, maps, wideKeys, modest, calm, conditions, laid).
  DERIVED. THE GIVEN ROWS OF THIS SEAT. 10 by the template 'for every input the law returns true; each argument reads behind the call as it read before'; 0 by the template 'total and deterministic' (their statements: YthpogbbgdenmeaaTotals.lean).
  GIVEN WITH THE SEED: the statements are not yours to turn. If you find one false, say at which input.
  Laid BY PROGRAM, IN A SANDBOX (cutbox-rows.mjs): the forced cells as the released guide's own fill.sh prints them over the translation 49d12e6e0fa27e25… (all of the seat's roots in one cut). By AI agents, Wed Nov 11 2026. No macro, syntax, notation, axiom, sorry.
-/
import Derived.Test.YthpogbbgdenmeaaChecked
import GoSem.Claim
import GoSem.ClaimJoined
import GoSem.ClaimMapViews
import Derived.JoinedTies
import Derived.KernelRfl
namespace Go.Proofs.Ythpogbbgdenmeaa
/- THE CELL 'sum', in the pinned program and in every row, IS THE sha256 OF THE DUMP (.gsa) THAT YthpogbbgdenmeaaProg.lean LOADS. Nothing in Lean hashes anything: it is a label: what it is worth is what the hold of that sum in a sandbox is worth. -/
noncomputable def Try.pinned : Pinned := { name := "ythpogbbgdenmeaa", sum := "49d12e6e0fa27e2547f80b3cbfa8a7a37ffc9c17642fb3b7a74273026d08d0db", checked := Try.checked }
namespace Rows
def none {H : Type} : Left H := { results := [], args := [] }

/-- 'amnesialaw06.OplogChecks': WHATEVER THE INPUT: true; the input reads as it did. -/
def oplogChecksSpec : ChangeSpec := { name := "oplogChecks", fn := fun _ => fun
  | [d1, d2] => { results := [.lit (.bool true)], args := [d1, d2] }
  | _ => none }
def oplogChecksRow : OpenClaim := { program := "ythpogbbgdenmeaa", sum := "49d12e6e0fa27e2547f80b3cbfa8a7a37ffc9c17642fb3b7a74273026d08d0db", func := "amnesia/amnesialaw06.OplogChecks", spec := "oplogChecks", unfollowed := true, recurses := true, apart := false }
def OplogChecksSaid : Prop := oplogChecksRow.holds Try.pinned (OpenSpec.ofChange oplogChecksSpec)

/-- ITS FALSE NEIGHBOUR: 'it returns false'. Refute it at one input. -/
def oplogChecksWrong : ChangeSpec := { name := "oplogChecks", fn := fun _ => fun
  | [d1, d2] => { results := [.lit (.bool false)], args := [d1, d2] }
  | _ => none }
def OplogChecksWrongFalsely : Prop := oplogChecksRow.holds Try.pinned (OpenSpec.ofChange oplogChecksWrong)

/-- 'amnesialaw06.OplogAppends': WHATEVER THE INPUT: true; the input reads as it did. -/
def oplogAppendsSpec : ChangeSpec := { name := "oplogAppends", fn := fun _ => fun
  | [d1, d2, d3] => { results := [.lit (.bool true)], args := [d1, d2, d3] }
  | _ => none }
def oplogAppendsRow : OpenClaim := { program := "ythpogbbgdenmeaa", sum := "49d12e6e0fa27e2547f80b3cbfa8a7a37ffc9c17642fb3b7a74273026d08d0db", func := "amnesia/amnesialaw06.OplogAppends", spec := "oplogAppends", unfollowed := true, recurses := true, apart := false }
def OplogAppendsSaid : Prop := oplogAppendsRow.holds Try.pinned (OpenSpec.ofChange oplogAppendsSpec)

/-- ITS FALSE NEIGHBOUR: 'it returns false'. Refute it at one input. -/
def oplogAppendsWrong : ChangeSpec := { name := "oplogAppends", fn := fun _ => fun
  | [d1, d2, d3] => { results := [.lit (.bool false)], args := [d1, d2, d3] }
  | _ => none }
def OplogAppendsWrongFalsely : Prop := oplogAppendsRow.holds Try.pinned (OpenSpec.ofChange oplogAppendsWrong)

/-- 'amnesialaw06.OplogEach': WHATEVER THE INPUT: true; the input reads as it did. -/
def oplogEachSpec : ChangeSpec := { name := "oplogEach", fn := fun _ => fun
  | [d1, d2, d3] => { results := [.lit (.bool true)], args := [d1, d2, d3] }
  | _ => none }
def oplogEachRow : OpenClaim := { program := "ythpogbbgdenmeaa", sum := "49d12e6e0fa27e2547f80b3cbfa8a7a37ffc9c17642fb3b7a74273026d08d0db", func := "amnesia/amnesialaw06.OplogEach", spec := "oplogEach", unfollowed := true, recurses := true, apart := false }
def OplogEachSaid : Prop := oplogEachRow.holds Try.pinned (OpenSpec.ofChange oplogEachSpec)

/-- ITS FALSE NEIGHBOUR: 'it returns false'. Refute it at one input. -/
def oplogEachWrong : ChangeSpec := { name := "oplogEach", fn := fun _ => fun
  | [d1, d2, d3] => { results := [.lit (.bool false)], args := [d1, d2, d3] }
  | _ => none }
def OplogEachWrongFalsely : Prop := oplogEachRow.holds Try.pinned (OpenSpec.ofChange oplogEachWrong)

/-- 'amnesialaw06.OplogCuts': WHATEVER THE INPUT: true; the input reads as it did. -/
def oplogCutsSpec : ChangeSpec := { name := "oplogCuts", fn := fun _ => fun
  | [d1, d2] => { results := [.lit (.bool true)], args := [d1, d2] }
  | _ => none }
def oplogCutsRow : OpenClaim := { program := "ythpogbbgdenmeaa", sum := "49d12e6e0fa27e2547f80b3cbfa8a7a37ffc9c17642fb3b7a74273026d08d0db", func := "amnesia/amnesialaw06.OplogCuts", spec := "oplogCuts", unfollowed := true, recurses := true, apart := false }
def OplogCutsSaid : Prop := oplogCutsRow.holds Try.pinned (OpenSpec.ofChange oplogCutsSpec)

/-- ITS FALSE NEIGHBOUR: 'it returns false'. Refute it at one input. -/
def oplogCutsWrong : ChangeSpec := { name := "oplogCuts", fn := fun _ => fun
  | [d1, d2] => { results := [.lit (.bool false)], args := [d1, d2] }
  | _ => none }
def OplogCutsWrongFalsely : Prop := oplogCutsRow.holds Try.pinned (OpenSpec.ofChange oplogCutsWrong)

/-- 'amnesialaw06.OplogSplices': WHATEVER THE INPUT: true; the input reads as it did. -/
def oplogSplicesSpec : ChangeSpec := { name := "oplogSplices", fn := fun _ => fun
  | [d1, d2, d3, d4] => { results := [.lit (.bool true)], args := [d1, d2, d3, d4] }
  | _ => none }
def oplogSplicesRow : OpenClaim := { program := "ythpogbbgdenmeaa", sum := "49d12e6e0fa27e2547f80b3cbfa8a7a37ffc9c17642fb3b7a74273026d08d0db", func := "amnesia/amnesialaw06.OplogSplices", spec := "oplogSplices", unfollowed := true, recurses := true, apart := false }
def OplogSplicesSaid : Prop := oplogSplicesRow.holds Try.pinned (OpenSpec.ofChange oplogSplicesSpec)

/-- ITS FALSE NEIGHBOUR: 'it returns false'. Refute it at one input. -/
def oplogSplicesWrong : ChangeSpec := { name := "oplogSplices", fn := fun _ => fun
  | [d1, d2, d3, d4] => { results := [.lit (.bool false)], args := [d1, d2, d3, d4] }
  | _ => none }
def OplogSplicesWrongFalsely : Prop := oplogSplicesRow.holds Try.pinned (OpenSpec.ofChange oplogSplicesWrong)

/-- 'amnesialaw06.OplogGrows': WHATEVER THE INPUT: true; the input reads as it did. -/
def oplogGrowsSpec : ChangeSpec := { name := "oplogGrows", fn := fun _ => fun
  | [d1, d2, d3] => { results := [.lit (.bool true)], args := [d1, d2, d3] }
  | _ => none }
def oplogGrowsRow : OpenClaim := { program := "ythpogbbgdenmeaa", sum := "49d12e6e0fa27e2547f80b3cbfa8a7a37ffc9c17642fb3b7a74273026d08d0db", func := "amnesia/amnesialaw06.OplogGrows", spec := "oplogGrows", unfollowed := true, recurses := true, apart := false }
def OplogGrowsSaid : Prop := oplogGrowsRow.holds Try.pinned (OpenSpec.ofChange oplogGrowsSpec)

/-- ITS FALSE NEIGHBOUR: 'it returns false'. Refute it at one input. -/
def oplogGrowsWrong : ChangeSpec := { name := "oplogGrows", fn := fun _ => fun
  | [d1, d2, d3] => { results := [.lit (.bool false)], args := [d1, d2, d3] }
  | _ => none }
def OplogGrowsWrongFalsely : Prop := oplogGrowsRow.holds Try.pinned (OpenSpec.ofChange oplogGrowsWrong)

/-- 'amnesialaw06.OplogOrder': WHATEVER THE INPUT: true; the input reads as it did. -/
def oplogOrderSpec : ChangeSpec := { name := "oplogOrder", fn := fun _ => fun
  | [d1, d2, d3, d4, d5] => { results := [.lit (.bool true)], args := [d1, d2, d3, d4, d5] }
  | _ => none }
def oplogOrderRow : OpenClaim := { program := "ythpogbbgdenmeaa", sum := "49d12e6e0fa27e2547f80b3cbfa8a7a37ffc9c17642fb3b7a74273026d08d0db", func := "amnesia/amnesialaw06.OplogOrder", spec := "oplogOrder", unfollowed := true, recurses := true, apart := false }
def OplogOrderSaid : Prop := oplogOrderRow.holds Try.pinned (OpenSpec.ofChange oplogOrderSpec)

/-- ITS FALSE NEIGHBOUR: 'it returns false'. Refute it at one input. -/
def oplogOrderWrong : ChangeSpec := { name := "oplogOrder", fn := fun _ => fun
  | [d1, d2, d3, d4, d5] => { results := [.lit (.bool false)], args := [d1, d2, d3, d4, d5] }
  | _ => none }
def OplogOrderWrongFalsely : Prop := oplogOrderRow.holds Try.pinned (OpenSpec.ofChange oplogOrderWrong)

/-- 'amnesialaw06.OplogFinds': WHATEVER THE INPUT: true; the input reads as it did. -/
def oplogFindsSpec : ChangeSpec := { name := "oplogFinds", fn := fun _ => fun
  | [d1, d2, d3] => { results := [.lit (.bool true)], args := [d1, d2, d3] }
  | _ => none }
def oplogFindsRow : OpenClaim := { program := "ythpogbbgdenmeaa", sum := "49d12e6e0fa27e2547f80b3cbfa8a7a37ffc9c17642fb3b7a74273026d08d0db", func := "amnesia/amnesialaw06.OplogFinds", spec := "oplogFinds", unfollowed := true, recurses := true, apart := false }
def OplogFindsSaid : Prop := oplogFindsRow.holds Try.pinned (OpenSpec.ofChange oplogFindsSpec)

/-- ITS FALSE NEIGHBOUR: 'it returns false'. Refute it at one input. -/
def oplogFindsWrong : ChangeSpec := { name := "oplogFinds", fn := fun _ => fun
  | [d1, d2, d3] => { results := [.lit (.bool false)], args := [d1, d2, d3] }
  | _ => none }
def OplogFindsWrongFalsely : Prop := oplogFindsRow.holds Try.pinned (OpenSpec.ofChange oplogFindsWrong)

/-- 'amnesialaw06.OplogPlace': WHATEVER THE INPUT: true; the input reads as it did. -/
def oplogPlaceSpec : ChangeSpec := { name := "oplogPlace", fn := fun _ => fun
  | [d1, d2, d3] => { results := [.lit (.bool true)], args := [d1, d2, d3] }
  | _ => none }
def oplogPlaceRow : OpenClaim := { program := "ythpogbbgdenmeaa", sum := "49d12e6e0fa27e2547f80b3cbfa8a7a37ffc9c17642fb3b7a74273026d08d0db", func := "amnesia/amnesialaw06.OplogPlace", spec := "oplogPlace", unfollowed := true, recurses := true, apart := false }
def OplogPlaceSaid : Prop := oplogPlaceRow.holds Try.pinned (OpenSpec.ofChange oplogPlaceSpec)

/-- ITS FALSE NEIGHBOUR: 'it returns false'. Refute it at one input. -/
def oplogPlaceWrong : ChangeSpec := { name := "oplogPlace", fn := fun _ => fun
  | [d1, d2, d3] => { results := [.lit (.bool false)], args := [d1, d2, d3] }
  | _ => none }
def OplogPlaceWrongFalsely : Prop := oplogPlaceRow.holds Try.pinned (OpenSpec.ofChange oplogPlaceWrong)

/-- 'amnesialaw06.OplogWhole': WHATEVER THE INPUT: true; the input reads as it did. -/
def oplogWholeSpec : ChangeSpec := { name := "oplogWhole", fn := fun _ => fun
  | [d1, d2, d3, d4] => { results := [.lit (.bool true)], args := [d1, d2, d3, d4] }
  | _ => none }
def oplogWholeRow : OpenClaim := { program := "ythpogbbgdenmeaa", sum := "49d12e6e0fa27e2547f80b3cbfa8a7a37ffc9c17642fb3b7a74273026d08d0db", func := "amnesia/amnesialaw06.OplogWhole", spec := "oplogWhole", unfollowed := true, recurses := true, apart := false }
def OplogWholeSaid : Prop := oplogWholeRow.holds Try.pinned (OpenSpec.ofChange oplogWholeSpec)

/-- ITS FALSE NEIGHBOUR: 'it returns false'. Refute it at one input. -/
def oplogWholeWrong : ChangeSpec := { name := "oplogWhole", fn := fun _ => fun
  | [d1, d2, d3, d4] => { results := [.lit (.bool false)], args := [d1, d2, d3, d4] }
  | _ => none }
def OplogWholeWrongFalsely : Prop := oplogWholeRow.holds Try.pinned (OpenSpec.ofChange oplogWholeWrong)

/- THE SECOND FORM. 'bulk': how many values and letters a reading holds, each counted each time it is reached (what is shared counts as often as it is met; a slice's spare places count too). A statement '..UptoSaid' is the law's where the arguments, and the package variables that the reading takes, are together of bulk at most 1048576: NARROWER than '..Said'. Prove '..Said' where nothing that the law and all that it calls make is longer than what came in: it says more and counts as full. Else prove '..UptoSaid'. A law counts once. -/
mutual
def uptoBulk {H : Type} : DataW H → Nat
  | .lit (.string bytes) => bytes.length + 1
  | .lit _ => 1
  | .nil => 1
  | .ptr d => uptoBulk d + 1
  | .slice elems spare => uptoBulkAll elems + uptoBulkAll spare + 1
  | .agg parts => uptoBulkAll parts + 1
  | .iface _ d => uptoBulk d + 1
  | .map entries => uptoBulkEntries entries + 1
  | .held _ => 1
def uptoBulkAll {H : Type} : List (DataW H) → Nat
  | [] => 0
  | d :: r => uptoBulk d + uptoBulkAll r
def uptoBulkEntries {H : Type} : List (Lit × DataW H) → Nat
  | [] => 0
  | x :: r => uptoBulkEntry x + uptoBulkEntries r
def uptoBulkEntry {H : Type} : Lit × DataW H → Nat
  | (.string bytes, d) => bytes.length + uptoBulk d + 1
  | (_, d) => uptoBulk d + 1
 end
def uptoSmall : (H : Type) → List (DataW H) → Bool := fun _ ds => decide (uptoBulkAll ds ≤ 1048576)
def OpenSpec.upto (s : _root_.Go.ChangeSpec) : _root_.Go.OpenSpec := { _root_.Go.OpenSpec.ofChange s with cond := some uptoSmall }

/-- 'amnesialaw06.OplogChecks', WHERE WHAT IT READS IS OF BULK AT MOST 1048576: true; the input reads as it did. -/
def oplogChecksUptoRow : OpenClaim := { program := "ythpogbbgdenmeaa", sum := "49d12e6e0fa27e2547f80b3cbfa8a7a37ffc9c17642fb3b7a74273026d08d0db", func := "amnesia/amnesialaw06.OplogChecks", spec := "oplogChecks", unfollowed := true, recurses := true, apart := false, narrowed := true }
def OplogChecksUptoSaid : Prop := oplogChecksUptoRow.holds Try.pinned (OpenSpec.upto oplogChecksSpec)

/-- 'amnesialaw06.OplogAppends', WHERE WHAT IT READS IS OF BULK AT MOST 1048576: true; the input reads as it did. -/
def oplogAppendsUptoRow : OpenClaim := { program := "ythpogbbgdenmeaa", sum := "49d12e6e0fa27e2547f80b3cbfa8a7a37ffc9c17642fb3b7a74273026d08d0db", func := "amnesia/amnesialaw06.OplogAppends", spec := "oplogAppends", unfollowed := true, recurses := true, apart := false, narrowed := true }
def OplogAppendsUptoSaid : Prop := oplogAppendsUptoRow.holds Try.pinned (OpenSpec.upto oplogAppendsSpec)

/-- 'amnesialaw06.OplogEach', WHERE WHAT IT READS IS OF BULK AT MOST 1048576: true; the input reads as it did. -/
def oplogEachUptoRow : OpenClaim := { program := "ythpogbbgdenmeaa", sum := "49d12e6e0fa27e2547f80b3cbfa8a7a37ffc9c17642fb3b7a74273026d08d0db", func := "amnesia/amnesialaw06.OplogEach", spec := "oplogEach", unfollowed := true, recurses := true, apart := false, narrowed := true }
def OplogEachUptoSaid : Prop := oplogEachUptoRow.holds Try.pinned (OpenSpec.upto oplogEachSpec)

/-- 'amnesialaw06.OplogCuts', WHERE WHAT IT READS IS OF BULK AT MOST 1048576: true; the input reads as it did. -/
def oplogCutsUptoRow : OpenClaim := { program := "ythpogbbgdenmeaa", sum := "49d12e6e0fa27e2547f80b3cbfa8a7a37ffc9c17642fb3b7a74273026d08d0db", func := "amnesia/amnesialaw06.OplogCuts", spec := "oplogCuts", unfollowed := true, recurses := true, apart := false, narrowed := true }
def OplogCutsUptoSaid : Prop := oplogCutsUptoRow.holds Try.pinned (OpenSpec.upto oplogCutsSpec)

/-- 'amnesialaw06.OplogSplices', WHERE WHAT IT READS IS OF BULK AT MOST 1048576: true; the input reads as it did. -/
def oplogSplicesUptoRow : OpenClaim := { program := "ythpogbbgdenmeaa", sum := "49d12e6e0fa27e2547f80b3cbfa8a7a37ffc9c17642fb3b7a74273026d08d0db", func := "amnesia/amnesialaw06.OplogSplices", spec := "oplogSplices", unfollowed := true, recurses := true, apart := false, narrowed := true }
def OplogSplicesUptoSaid : Prop := oplogSplicesUptoRow.holds Try.pinned (OpenSpec.upto oplogSplicesSpec)

/-- 'amnesialaw06.OplogGrows', WHERE WHAT IT READS IS OF BULK AT MOST 1048576: true; the input reads as it did. -/
def oplogGrowsUptoRow : OpenClaim := { program := "ythpogbbgdenmeaa", sum := "49d12e6e0fa27e2547f80b3cbfa8a7a37ffc9c17642fb3b7a74273026d08d0db", func := "amnesia/amnesialaw06.OplogGrows", spec := "oplogGrows", unfollowed := true, recurses := true, apart := false, narrowed := true }
def OplogGrowsUptoSaid : Prop := oplogGrowsUptoRow.holds Try.pinned (OpenSpec.upto oplogGrowsSpec)

/-- 'amnesialaw06.OplogOrder', WHERE WHAT IT READS IS OF BULK AT MOST 1048576: true; the input reads as it did. -/
def oplogOrderUptoRow : OpenClaim := { program := "ythpogbbgdenmeaa", sum := "49d12e6e0fa27e2547f80b3cbfa8a7a37ffc9c17642fb3b7a74273026d08d0db", func := "amnesia/amnesialaw06.OplogOrder", spec := "oplogOrder", unfollowed := true, recurses := true, apart := false, narrowed := true }
def OplogOrderUptoSaid : Prop := oplogOrderUptoRow.holds Try.pinned (OpenSpec.upto oplogOrderSpec)

/-- 'amnesialaw06.OplogFinds', WHERE WHAT IT READS IS OF BULK AT MOST 1048576: true; the input reads as it did. -/
def oplogFindsUptoRow : OpenClaim := { program := "ythpogbbgdenmeaa", sum := "49d12e6e0fa27e2547f80b3cbfa8a7a37ffc9c17642fb3b7a74273026d08d0db", func := "amnesia/amnesialaw06.OplogFinds", spec := "oplogFinds", unfollowed := true, recurses := true, apart := false, narrowed := true }
def OplogFindsUptoSaid : Prop := oplogFindsUptoRow.holds Try.pinned (OpenSpec.upto oplogFindsSpec)

/-- 'amnesialaw06.OplogPlace', WHERE WHAT IT READS IS OF BULK AT MOST 1048576: true; the input reads as it did. -/
def oplogPlaceUptoRow : OpenClaim := { program := "ythpogbbgdenmeaa", sum := "49d12e6e0fa27e2547f80b3cbfa8a7a37ffc9c17642fb3b7a74273026d08d0db", func := "amnesia/amnesialaw06.OplogPlace", spec := "oplogPlace", unfollowed := true, recurses := true, apart := false, narrowed := true }
def OplogPlaceUptoSaid : Prop := oplogPlaceUptoRow.holds Try.pinned (OpenSpec.upto oplogPlaceSpec)

/-- 'amnesialaw06.OplogWhole', WHERE WHAT IT READS IS OF BULK AT MOST 1048576: true; the input reads as it did. -/
def oplogWholeUptoRow : OpenClaim := { program := "ythpogbbgdenmeaa", sum := "49d12e6e0fa27e2547f80b3cbfa8a7a37ffc9c17642fb3b7a74273026d08d0db", func := "amnesia/amnesialaw06.OplogWhole", spec := "oplogWhole", unfollowed := true, recurses := true, apart := false, narrowed := true }
def OplogWholeUptoSaid : Prop := oplogWholeUptoRow.holds Try.pinned (OpenSpec.upto oplogWholeSpec)

end Rows
end Go.Proofs.Ythpogbbgdenmeaa
