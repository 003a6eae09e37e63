/-
  No cell of these rows narrows 'for every input' (looked for: loops, veiled, ifaces, maps, wideKeys, modest, calm, conditions, laid).
  DERIVED. THE GIVEN ROWS OF THIS SEAT. 8 by the template 'for every input the law returns true; each argument reads behind the call as it read before'; 0 by the template 'total and deterministic' (their statements: YtmfidhlhcochoaaTotals.lean).
  GIVEN WITH THE SEED: the statements are not yours to turn. If you find one false, say at which input.
  Laid BY PROGRAM, IN A SANDBOX (cutbox-rows.mjs): the forced cells as the released guide's own fill.sh prints them over the translation 92f8c5e272120451… (all of the seat's roots in one cut). By AI agents, Wed Nov 11 2026. No macro, syntax, notation, axiom, sorry.
-/
import Derived.Test.YtmfidhlhcochoaaChecked
import GoSem.Claim
import GoSem.ClaimJoined
import GoSem.ClaimMapViews
import Derived.JoinedTies
import Derived.KernelRfl
namespace Go.Proofs.Ytmfidhlhcochoaa
/- THE CELL 'sum', in the pinned program and in every row, IS THE sha256 OF THE DUMP (.gsa) THAT YtmfidhlhcochoaaProg.lean LOADS. Nothing in Lean hashes anything: it is a label: what it is worth is what the hold of that sum in a sandbox is worth. -/
noncomputable def Try.pinned : Pinned := { name := "ytmfidhlhcochoaa", sum := "92f8c5e272120451249749e07386e1f27e032594a76a57c4e0805e13bc3c1b84", checked := Try.checked }
namespace Rows
def none {H : Type} : Left H := { results := [], args := [] }

/-- 'amnesialaw18.LinearLeast': WHATEVER THE INPUT: true; the input reads as it did. -/
def linearLeastSpec : ChangeSpec := { name := "linearLeast", fn := fun _ => fun
  | [d] => { results := [.lit (.bool true)], args := [d] }
  | _ => none }
def linearLeastRow : OpenClaim := { program := "ytmfidhlhcochoaa", sum := "92f8c5e272120451249749e07386e1f27e032594a76a57c4e0805e13bc3c1b84", func := "amnesia/amnesialaw18.LinearLeast", spec := "linearLeast", unfollowed := true, recurses := true, plainKeys := false, apart := false }
def LinearLeastSaid : Prop := linearLeastRow.holds Try.pinned (OpenSpec.ofChange linearLeastSpec)

/-- ITS FALSE NEIGHBOUR: 'it returns false'. Refute it at one input. -/
def linearLeastWrong : ChangeSpec := { name := "linearLeast", fn := fun _ => fun
  | [d] => { results := [.lit (.bool false)], args := [d] }
  | _ => none }
def LinearLeastWrongFalsely : Prop := linearLeastRow.holds Try.pinned (OpenSpec.ofChange linearLeastWrong)

/-- 'amnesialaw18.LinearOneByOne': WHATEVER THE INPUT: true; the input reads as it did. -/
def linearOneByOneSpec : ChangeSpec := { name := "linearOneByOne", fn := fun _ => fun
  | [d] => { results := [.lit (.bool true)], args := [d] }
  | _ => none }
def linearOneByOneRow : OpenClaim := { program := "ytmfidhlhcochoaa", sum := "92f8c5e272120451249749e07386e1f27e032594a76a57c4e0805e13bc3c1b84", func := "amnesia/amnesialaw18.LinearOneByOne", spec := "linearOneByOne", unfollowed := true, recurses := true, plainKeys := false, apart := false }
def LinearOneByOneSaid : Prop := linearOneByOneRow.holds Try.pinned (OpenSpec.ofChange linearOneByOneSpec)

/-- ITS FALSE NEIGHBOUR: 'it returns false'. Refute it at one input. -/
def linearOneByOneWrong : ChangeSpec := { name := "linearOneByOne", fn := fun _ => fun
  | [d] => { results := [.lit (.bool false)], args := [d] }
  | _ => none }
def LinearOneByOneWrongFalsely : Prop := linearOneByOneRow.holds Try.pinned (OpenSpec.ofChange linearOneByOneWrong)

/-- 'amnesialaw18.LinearLocal': WHATEVER THE INPUT: true; the input reads as it did. -/
def linearLocalSpec : ChangeSpec := { name := "linearLocal", fn := fun _ => fun
  | [d] => { results := [.lit (.bool true)], args := [d] }
  | _ => none }
def linearLocalRow : OpenClaim := { program := "ytmfidhlhcochoaa", sum := "92f8c5e272120451249749e07386e1f27e032594a76a57c4e0805e13bc3c1b84", func := "amnesia/amnesialaw18.LinearLocal", spec := "linearLocal", unfollowed := true, recurses := true, plainKeys := false, apart := false }
def LinearLocalSaid : Prop := linearLocalRow.holds Try.pinned (OpenSpec.ofChange linearLocalSpec)

/-- ITS FALSE NEIGHBOUR: 'it returns false'. Refute it at one input. -/
def linearLocalWrong : ChangeSpec := { name := "linearLocal", fn := fun _ => fun
  | [d] => { results := [.lit (.bool false)], args := [d] }
  | _ => none }
def LinearLocalWrongFalsely : Prop := linearLocalRow.holds Try.pinned (OpenSpec.ofChange linearLocalWrong)

/-- 'amnesialaw18.LinearOwn': WHATEVER THE INPUT: true; the input reads as it did. -/
def linearOwnSpec : ChangeSpec := { name := "linearOwn", fn := fun _ => fun
  | [d1, d2, d3] => { results := [.lit (.bool true)], args := [d1, d2, d3] }
  | _ => none }
def linearOwnRow : OpenClaim := { program := "ytmfidhlhcochoaa", sum := "92f8c5e272120451249749e07386e1f27e032594a76a57c4e0805e13bc3c1b84", func := "amnesia/amnesialaw18.LinearOwn", spec := "linearOwn", unfollowed := true, recurses := true, plainKeys := false, apart := false }
def LinearOwnSaid : Prop := linearOwnRow.holds Try.pinned (OpenSpec.ofChange linearOwnSpec)

/-- ITS FALSE NEIGHBOUR: 'it returns false'. Refute it at one input. -/
def linearOwnWrong : ChangeSpec := { name := "linearOwn", fn := fun _ => fun
  | [d1, d2, d3] => { results := [.lit (.bool false)], args := [d1, d2, d3] }
  | _ => none }
def LinearOwnWrongFalsely : Prop := linearOwnRow.holds Try.pinned (OpenSpec.ofChange linearOwnWrong)

/-- 'amnesialaw18.LinearCalls': WHATEVER THE INPUT: true; the input reads as it did. -/
def linearCallsSpec : ChangeSpec := { name := "linearCalls", fn := fun _ => fun
  | [d] => { results := [.lit (.bool true)], args := [d] }
  | _ => none }
def linearCallsRow : OpenClaim := { program := "ytmfidhlhcochoaa", sum := "92f8c5e272120451249749e07386e1f27e032594a76a57c4e0805e13bc3c1b84", func := "amnesia/amnesialaw18.LinearCalls", spec := "linearCalls", unfollowed := true, recurses := true, plainKeys := false, apart := false }
def LinearCallsSaid : Prop := linearCallsRow.holds Try.pinned (OpenSpec.ofChange linearCallsSpec)

/-- ITS FALSE NEIGHBOUR: 'it returns false'. Refute it at one input. -/
def linearCallsWrong : ChangeSpec := { name := "linearCalls", fn := fun _ => fun
  | [d] => { results := [.lit (.bool false)], args := [d] }
  | _ => none }
def LinearCallsWrongFalsely : Prop := linearCallsRow.holds Try.pinned (OpenSpec.ofChange linearCallsWrong)

/-- 'amnesialaw18.LinearOrders': WHATEVER THE INPUT: true; the input reads as it did. -/
def linearOrdersSpec : ChangeSpec := { name := "linearOrders", fn := fun _ => fun
  | [d1, d2] => { results := [.lit (.bool true)], args := [d1, d2] }
  | _ => none }
def linearOrdersRow : OpenClaim := { program := "ytmfidhlhcochoaa", sum := "92f8c5e272120451249749e07386e1f27e032594a76a57c4e0805e13bc3c1b84", func := "amnesia/amnesialaw18.LinearOrders", spec := "linearOrders", unfollowed := true, recurses := true, plainKeys := false, apart := false }
def LinearOrdersSaid : Prop := linearOrdersRow.holds Try.pinned (OpenSpec.ofChange linearOrdersSpec)

/-- ITS FALSE NEIGHBOUR: 'it returns false'. Refute it at one input. -/
def linearOrdersWrong : ChangeSpec := { name := "linearOrders", fn := fun _ => fun
  | [d1, d2] => { results := [.lit (.bool false)], args := [d1, d2] }
  | _ => none }
def LinearOrdersWrongFalsely : Prop := linearOrdersRow.holds Try.pinned (OpenSpec.ofChange linearOrdersWrong)

/-- 'amnesialaw18.LinearPrefix': WHATEVER THE INPUT: true; the input reads as it did. -/
def linearPrefixSpec : ChangeSpec := { name := "linearPrefix", fn := fun _ => fun
  | [d1, d2] => { results := [.lit (.bool true)], args := [d1, d2] }
  | _ => none }
def linearPrefixRow : OpenClaim := { program := "ytmfidhlhcochoaa", sum := "92f8c5e272120451249749e07386e1f27e032594a76a57c4e0805e13bc3c1b84", func := "amnesia/amnesialaw18.LinearPrefix", spec := "linearPrefix", unfollowed := true, recurses := true, plainKeys := false, apart := false }
def LinearPrefixSaid : Prop := linearPrefixRow.holds Try.pinned (OpenSpec.ofChange linearPrefixSpec)

/-- ITS FALSE NEIGHBOUR: 'it returns false'. Refute it at one input. -/
def linearPrefixWrong : ChangeSpec := { name := "linearPrefix", fn := fun _ => fun
  | [d1, d2] => { results := [.lit (.bool false)], args := [d1, d2] }
  | _ => none }
def LinearPrefixWrongFalsely : Prop := linearPrefixRow.holds Try.pinned (OpenSpec.ofChange linearPrefixWrong)

/-- 'amnesialaw18.LinearCuts': WHATEVER THE INPUT: true; the input reads as it did. -/
def linearCutsSpec : ChangeSpec := { name := "linearCuts", fn := fun _ => fun
  | [d1, d2, d3] => { results := [.lit (.bool true)], args := [d1, d2, d3] }
  | _ => none }
def linearCutsRow : OpenClaim := { program := "ytmfidhlhcochoaa", sum := "92f8c5e272120451249749e07386e1f27e032594a76a57c4e0805e13bc3c1b84", func := "amnesia/amnesialaw18.LinearCuts", spec := "linearCuts", unfollowed := true, recurses := true, plainKeys := false, apart := false }
def LinearCutsSaid : Prop := linearCutsRow.holds Try.pinned (OpenSpec.ofChange linearCutsSpec)

/-- ITS FALSE NEIGHBOUR: 'it returns false'. Refute it at one input. -/
def linearCutsWrong : ChangeSpec := { name := "linearCuts", fn := fun _ => fun
  | [d1, d2, d3] => { results := [.lit (.bool false)], args := [d1, d2, d3] }
  | _ => none }
def LinearCutsWrongFalsely : Prop := linearCutsRow.holds Try.pinned (OpenSpec.ofChange linearCutsWrong)

/- THE SECOND FORM. 'bulk': how many values and letters a reading holds, each counted each time it is reached (what is shared counts as often as it is met; a slice's spare places count too). A statement '..UptoSaid' is the law's where the arguments, and the package variables that the reading takes, are together of bulk at most 1048576: NARROWER than '..Said'. Prove '..Said' where nothing that the law and all that it calls make is longer than what came in: it says more and counts as full. Else prove '..UptoSaid'. A law counts once. -/
mutual
def uptoBulk {H : Type} : DataW H → Nat
  | .lit (.string bytes) => bytes.length + 1
  | .lit _ => 1
  | .nil => 1
  | .ptr d => uptoBulk d + 1
  | .slice elems spare => uptoBulkAll elems + uptoBulkAll spare + 1
  | .agg parts => uptoBulkAll parts + 1
  | .iface _ d => uptoBulk d + 1
  | .map entries => uptoBulkEntries entries + 1
  | .held _ => 1
def uptoBulkAll {H : Type} : List (DataW H) → Nat
  | [] => 0
  | d :: r => uptoBulk d + uptoBulkAll r
def uptoBulkEntries {H : Type} : List (Lit × DataW H) → Nat
  | [] => 0
  | x :: r => uptoBulkEntry x + uptoBulkEntries r
def uptoBulkEntry {H : Type} : Lit × DataW H → Nat
  | (.string bytes, d) => bytes.length + uptoBulk d + 1
  | (_, d) => uptoBulk d + 1
 end
def uptoSmall : (H : Type) → List (DataW H) → Bool := fun _ ds => decide (uptoBulkAll ds ≤ 1048576)
def OpenSpec.upto (s : _root_.Go.ChangeSpec) : _root_.Go.OpenSpec := { _root_.Go.OpenSpec.ofChange s with cond := some uptoSmall }

/-- 'amnesialaw18.LinearLeast', WHERE WHAT IT READS IS OF BULK AT MOST 1048576: true; the input reads as it did. -/
def linearLeastUptoRow : OpenClaim := { program := "ytmfidhlhcochoaa", sum := "92f8c5e272120451249749e07386e1f27e032594a76a57c4e0805e13bc3c1b84", func := "amnesia/amnesialaw18.LinearLeast", spec := "linearLeast", unfollowed := true, recurses := true, plainKeys := false, apart := false, narrowed := true }
def LinearLeastUptoSaid : Prop := linearLeastUptoRow.holds Try.pinned (OpenSpec.upto linearLeastSpec)

/-- 'amnesialaw18.LinearOneByOne', WHERE WHAT IT READS IS OF BULK AT MOST 1048576: true; the input reads as it did. -/
def linearOneByOneUptoRow : OpenClaim := { program := "ytmfidhlhcochoaa", sum := "92f8c5e272120451249749e07386e1f27e032594a76a57c4e0805e13bc3c1b84", func := "amnesia/amnesialaw18.LinearOneByOne", spec := "linearOneByOne", unfollowed := true, recurses := true, plainKeys := false, apart := false, narrowed := true }
def LinearOneByOneUptoSaid : Prop := linearOneByOneUptoRow.holds Try.pinned (OpenSpec.upto linearOneByOneSpec)

/-- 'amnesialaw18.LinearLocal', WHERE WHAT IT READS IS OF BULK AT MOST 1048576: true; the input reads as it did. -/
def linearLocalUptoRow : OpenClaim := { program := "ytmfidhlhcochoaa", sum := "92f8c5e272120451249749e07386e1f27e032594a76a57c4e0805e13bc3c1b84", func := "amnesia/amnesialaw18.LinearLocal", spec := "linearLocal", unfollowed := true, recurses := true, plainKeys := false, apart := false, narrowed := true }
def LinearLocalUptoSaid : Prop := linearLocalUptoRow.holds Try.pinned (OpenSpec.upto linearLocalSpec)

/-- 'amnesialaw18.LinearOwn', WHERE WHAT IT READS IS OF BULK AT MOST 1048576: true; the input reads as it did. -/
def linearOwnUptoRow : OpenClaim := { program := "ytmfidhlhcochoaa", sum := "92f8c5e272120451249749e07386e1f27e032594a76a57c4e0805e13bc3c1b84", func := "amnesia/amnesialaw18.LinearOwn", spec := "linearOwn", unfollowed := true, recurses := true, plainKeys := false, apart := false, narrowed := true }
def LinearOwnUptoSaid : Prop := linearOwnUptoRow.holds Try.pinned (OpenSpec.upto linearOwnSpec)

/-- 'amnesialaw18.LinearCalls', WHERE WHAT IT READS IS OF BULK AT MOST 1048576: true; the input reads as it did. -/
def linearCallsUptoRow : OpenClaim := { program := "ytmfidhlhcochoaa", sum := "92f8c5e272120451249749e07386e1f27e032594a76a57c4e0805e13bc3c1b84", func := "amnesia/amnesialaw18.LinearCalls", spec := "linearCalls", unfollowed := true, recurses := true, plainKeys := false, apart := false, narrowed := true }
def LinearCallsUptoSaid : Prop := linearCallsUptoRow.holds Try.pinned (OpenSpec.upto linearCallsSpec)

/-- 'amnesialaw18.LinearOrders', WHERE WHAT IT READS IS OF BULK AT MOST 1048576: true; the input reads as it did. -/
def linearOrdersUptoRow : OpenClaim := { program := "ytmfidhlhcochoaa", sum := "92f8c5e272120451249749e07386e1f27e032594a76a57c4e0805e13bc3c1b84", func := "amnesia/amnesialaw18.LinearOrders", spec := "linearOrders", unfollowed := true, recurses := true, plainKeys := false, apart := false, narrowed := true }
def LinearOrdersUptoSaid : Prop := linearOrdersUptoRow.holds Try.pinned (OpenSpec.upto linearOrdersSpec)

/-- 'amnesialaw18.LinearPrefix', WHERE WHAT IT READS IS OF BULK AT MOST 1048576: true; the input reads as it did. -/
def linearPrefixUptoRow : OpenClaim := { program := "ytmfidhlhcochoaa", sum := "92f8c5e272120451249749e07386e1f27e032594a76a57c4e0805e13bc3c1b84", func := "amnesia/amnesialaw18.LinearPrefix", spec := "linearPrefix", unfollowed := true, recurses := true, plainKeys := false, apart := false, narrowed := true }
def LinearPrefixUptoSaid : Prop := linearPrefixUptoRow.holds Try.pinned (OpenSpec.upto linearPrefixSpec)

/-- 'amnesialaw18.LinearCuts', WHERE WHAT IT READS IS OF BULK AT MOST 1048576: true; the input reads as it did. -/
def linearCutsUptoRow : OpenClaim := { program := "ytmfidhlhcochoaa", sum := "92f8c5e272120451249749e07386e1f27e032594a76a57c4e0805e13bc3c1b84", func := "amnesia/amnesialaw18.LinearCuts", spec := "linearCuts", unfollowed := true, recurses := true, plainKeys := false, apart := false, narrowed := true }
def LinearCutsUptoSaid : Prop := linearCutsUptoRow.holds Try.pinned (OpenSpec.upto linearCutsSpec)

end Rows
end Go.Proofs.Ytmfidhlhcochoaa
