/-
  No cell of these rows narrows 'for every input' (looked for: loops, veiled, ifaces, maps, wideKeys, modest, calm, conditions, laid).
  DERIVED. THE GIVEN ROWS OF THIS SEAT. 10 by the template 'for every input the law returns true; each argument reads behind the call as it read before'; 0 by the template 'total and deterministic' (their statements: YtnfilklgogaheaaTotals.lean).
  GIVEN WITH THE SEED: the statements are not yours to turn. If you find one false, say at which input.
  Laid BY PROGRAM, IN A SANDBOX (cutbox-rows.mjs): the forced cells as the released guide's own fill.sh prints them over the translation 636ef5f507699fee… (all of the seat's roots in one cut). By AI agents, Wed Nov 11 2026. No macro, syntax, notation, axiom, sorry.
-/
import Derived.Test.YtnfilklgogaheaaChecked
import GoSem.Claim
import GoSem.ClaimJoined
import GoSem.ClaimMapViews
import Derived.JoinedTies
import Derived.KernelRfl
namespace Go.Proofs.Ytnfilklgogaheaa
/- THE CELL 'sum', in the pinned program and in every row, IS THE sha256 OF THE DUMP (.gsa) THAT YtnfilklgogaheaaProg.lean LOADS. Nothing in Lean hashes anything: it is a label: what it is worth is what the hold of that sum in a sandbox is worth. -/
noncomputable def Try.pinned : Pinned := { name := "ytnfilklgogaheaa", sum := "636ef5f507699fee568fe6072969b71bf60f129a13ff2df6481cab44efdd8300", checked := Try.checked }
namespace Rows
def none {H : Type} : Left H := { results := [], args := [] }

/-- 'amnesialaw06.OplogEach': WHATEVER THE INPUT: true; the input reads as it did. -/
def oplogEachSpec : ChangeSpec := { name := "oplogEach", fn := fun _ => fun
  | [d1, d2, d3] => { results := [.lit (.bool true)], args := [d1, d2, d3] }
  | _ => none }
def oplogEachRow : OpenClaim := { program := "ytnfilklgogaheaa", sum := "636ef5f507699fee568fe6072969b71bf60f129a13ff2df6481cab44efdd8300", func := "amnesia/amnesialaw06.OplogEach", spec := "oplogEach", unfollowed := true, recurses := true, apart := false }
def OplogEachSaid : Prop := oplogEachRow.holds Try.pinned (OpenSpec.ofChange oplogEachSpec)

/-- ITS FALSE NEIGHBOUR: 'it returns false'. Refute it at one input. -/
def oplogEachWrong : ChangeSpec := { name := "oplogEach", fn := fun _ => fun
  | [d1, d2, d3] => { results := [.lit (.bool false)], args := [d1, d2, d3] }
  | _ => none }
def OplogEachWrongFalsely : Prop := oplogEachRow.holds Try.pinned (OpenSpec.ofChange oplogEachWrong)

/-- 'amnesialaw06.OplogReplays': WHATEVER THE INPUT: true; the input reads as it did. -/
def oplogReplaysSpec : ChangeSpec := { name := "oplogReplays", fn := fun _ => fun
  | [d1, d2] => { results := [.lit (.bool true)], args := [d1, d2] }
  | _ => none }
def oplogReplaysRow : OpenClaim := { program := "ytnfilklgogaheaa", sum := "636ef5f507699fee568fe6072969b71bf60f129a13ff2df6481cab44efdd8300", func := "amnesia/amnesialaw06.OplogReplays", spec := "oplogReplays", unfollowed := true, recurses := true, apart := false }
def OplogReplaysSaid : Prop := oplogReplaysRow.holds Try.pinned (OpenSpec.ofChange oplogReplaysSpec)

/-- ITS FALSE NEIGHBOUR: 'it returns false'. Refute it at one input. -/
def oplogReplaysWrong : ChangeSpec := { name := "oplogReplays", fn := fun _ => fun
  | [d1, d2] => { results := [.lit (.bool false)], args := [d1, d2] }
  | _ => none }
def OplogReplaysWrongFalsely : Prop := oplogReplaysRow.holds Try.pinned (OpenSpec.ofChange oplogReplaysWrong)

/-- 'amnesialaw06.OplogPlays': WHATEVER THE INPUT: true; the input reads as it did. -/
def oplogPlaysSpec : ChangeSpec := { name := "oplogPlays", fn := fun _ => fun
  | [d1, d2, d3] => { results := [.lit (.bool true)], args := [d1, d2, d3] }
  | _ => none }
def oplogPlaysRow : OpenClaim := { program := "ytnfilklgogaheaa", sum := "636ef5f507699fee568fe6072969b71bf60f129a13ff2df6481cab44efdd8300", func := "amnesia/amnesialaw06.OplogPlays", spec := "oplogPlays", unfollowed := true, recurses := true, apart := false }
def OplogPlaysSaid : Prop := oplogPlaysRow.holds Try.pinned (OpenSpec.ofChange oplogPlaysSpec)

/-- ITS FALSE NEIGHBOUR: 'it returns false'. Refute it at one input. -/
def oplogPlaysWrong : ChangeSpec := { name := "oplogPlays", fn := fun _ => fun
  | [d1, d2, d3] => { results := [.lit (.bool false)], args := [d1, d2, d3] }
  | _ => none }
def OplogPlaysWrongFalsely : Prop := oplogPlaysRow.holds Try.pinned (OpenSpec.ofChange oplogPlaysWrong)

/-- 'amnesialaw06.OplogOwn': WHATEVER THE INPUT: true; the input reads as it did. -/
def oplogOwnSpec : ChangeSpec := { name := "oplogOwn", fn := fun _ => fun
  | [d1, d2, d3] => { results := [.lit (.bool true)], args := [d1, d2, d3] }
  | _ => none }
def oplogOwnRow : OpenClaim := { program := "ytnfilklgogaheaa", sum := "636ef5f507699fee568fe6072969b71bf60f129a13ff2df6481cab44efdd8300", func := "amnesia/amnesialaw06.OplogOwn", spec := "oplogOwn", unfollowed := true, recurses := true, apart := false }
def OplogOwnSaid : Prop := oplogOwnRow.holds Try.pinned (OpenSpec.ofChange oplogOwnSpec)

/-- ITS FALSE NEIGHBOUR: 'it returns false'. Refute it at one input. -/
def oplogOwnWrong : ChangeSpec := { name := "oplogOwn", fn := fun _ => fun
  | [d1, d2, d3] => { results := [.lit (.bool false)], args := [d1, d2, d3] }
  | _ => none }
def OplogOwnWrongFalsely : Prop := oplogOwnRow.holds Try.pinned (OpenSpec.ofChange oplogOwnWrong)

/-- 'amnesialaw05.ClientTables': WHATEVER THE INPUT: true; the input reads as it did. -/
def clientTablesSpec : ChangeSpec := { name := "clientTables", fn := fun _ => fun
  | [d1, d2] => { results := [.lit (.bool true)], args := [d1, d2] }
  | _ => none }
def clientTablesRow : OpenClaim := { program := "ytnfilklgogaheaa", sum := "636ef5f507699fee568fe6072969b71bf60f129a13ff2df6481cab44efdd8300", func := "amnesia/amnesialaw05.ClientTables", spec := "clientTables", unfollowed := true, recurses := true, apart := false }
def ClientTablesSaid : Prop := clientTablesRow.holds Try.pinned (OpenSpec.ofChange clientTablesSpec)

/-- ITS FALSE NEIGHBOUR: 'it returns false'. Refute it at one input. -/
def clientTablesWrong : ChangeSpec := { name := "clientTables", fn := fun _ => fun
  | [d1, d2] => { results := [.lit (.bool false)], args := [d1, d2] }
  | _ => none }
def ClientTablesWrongFalsely : Prop := clientTablesRow.holds Try.pinned (OpenSpec.ofChange clientTablesWrong)

/-- 'amnesialaw05.ClientBetween': WHATEVER THE INPUT: true; the input reads as it did. -/
def clientBetweenSpec : ChangeSpec := { name := "clientBetween", fn := fun _ => fun
  | [d1, d2, d3] => { results := [.lit (.bool true)], args := [d1, d2, d3] }
  | _ => none }
def clientBetweenRow : OpenClaim := { program := "ytnfilklgogaheaa", sum := "636ef5f507699fee568fe6072969b71bf60f129a13ff2df6481cab44efdd8300", func := "amnesia/amnesialaw05.ClientBetween", spec := "clientBetween", unfollowed := true, recurses := true, apart := false }
def ClientBetweenSaid : Prop := clientBetweenRow.holds Try.pinned (OpenSpec.ofChange clientBetweenSpec)

/-- ITS FALSE NEIGHBOUR: 'it returns false'. Refute it at one input. -/
def clientBetweenWrong : ChangeSpec := { name := "clientBetween", fn := fun _ => fun
  | [d1, d2, d3] => { results := [.lit (.bool false)], args := [d1, d2, d3] }
  | _ => none }
def ClientBetweenWrongFalsely : Prop := clientBetweenRow.holds Try.pinned (OpenSpec.ofChange clientBetweenWrong)

/-- 'amnesialaw05.ClientOnce': WHATEVER THE INPUT: true; the input reads as it did. -/
def clientOnceSpec : ChangeSpec := { name := "clientOnce", fn := fun _ => fun
  | [d] => { results := [.lit (.bool true)], args := [d] }
  | _ => none }
def clientOnceRow : OpenClaim := { program := "ytnfilklgogaheaa", sum := "636ef5f507699fee568fe6072969b71bf60f129a13ff2df6481cab44efdd8300", func := "amnesia/amnesialaw05.ClientOnce", spec := "clientOnce", unfollowed := true, recurses := true, apart := false }
def ClientOnceSaid : Prop := clientOnceRow.holds Try.pinned (OpenSpec.ofChange clientOnceSpec)

/-- ITS FALSE NEIGHBOUR: 'it returns false'. Refute it at one input. -/
def clientOnceWrong : ChangeSpec := { name := "clientOnce", fn := fun _ => fun
  | [d] => { results := [.lit (.bool false)], args := [d] }
  | _ => none }
def ClientOnceWrongFalsely : Prop := clientOnceRow.holds Try.pinned (OpenSpec.ofChange clientOnceWrong)

/-- 'amnesialaw05.ClientAsks': WHATEVER THE INPUT: true; the input reads as it did. -/
def clientAsksSpec : ChangeSpec := { name := "clientAsks", fn := fun _ => fun
  | [d1, d2, d3, d4] => { results := [.lit (.bool true)], args := [d1, d2, d3, d4] }
  | _ => none }
def clientAsksRow : OpenClaim := { program := "ytnfilklgogaheaa", sum := "636ef5f507699fee568fe6072969b71bf60f129a13ff2df6481cab44efdd8300", func := "amnesia/amnesialaw05.ClientAsks", spec := "clientAsks", unfollowed := true, recurses := true, apart := false }
def ClientAsksSaid : Prop := clientAsksRow.holds Try.pinned (OpenSpec.ofChange clientAsksSpec)

/-- ITS FALSE NEIGHBOUR: 'it returns false'. Refute it at one input. -/
def clientAsksWrong : ChangeSpec := { name := "clientAsks", fn := fun _ => fun
  | [d1, d2, d3, d4] => { results := [.lit (.bool false)], args := [d1, d2, d3, d4] }
  | _ => none }
def ClientAsksWrongFalsely : Prop := clientAsksRow.holds Try.pinned (OpenSpec.ofChange clientAsksWrong)

/-- 'amnesialaw05.ClientStays': WHATEVER THE INPUT: true; the input reads as it did. -/
def clientStaysSpec : ChangeSpec := { name := "clientStays", fn := fun _ => fun
  | [d1, d2, d3, d4] => { results := [.lit (.bool true)], args := [d1, d2, d3, d4] }
  | _ => none }
def clientStaysRow : OpenClaim := { program := "ytnfilklgogaheaa", sum := "636ef5f507699fee568fe6072969b71bf60f129a13ff2df6481cab44efdd8300", func := "amnesia/amnesialaw05.ClientStays", spec := "clientStays", unfollowed := true, recurses := true, apart := false }
def ClientStaysSaid : Prop := clientStaysRow.holds Try.pinned (OpenSpec.ofChange clientStaysSpec)

/-- ITS FALSE NEIGHBOUR: 'it returns false'. Refute it at one input. -/
def clientStaysWrong : ChangeSpec := { name := "clientStays", fn := fun _ => fun
  | [d1, d2, d3, d4] => { results := [.lit (.bool false)], args := [d1, d2, d3, d4] }
  | _ => none }
def ClientStaysWrongFalsely : Prop := clientStaysRow.holds Try.pinned (OpenSpec.ofChange clientStaysWrong)

/-- 'amnesialaw05.ClientOwn': WHATEVER THE INPUT: true; the input reads as it did. -/
def clientOwnSpec : ChangeSpec := { name := "clientOwn", fn := fun _ => fun
  | [d1, d2, d3] => { results := [.lit (.bool true)], args := [d1, d2, d3] }
  | _ => none }
def clientOwnRow : OpenClaim := { program := "ytnfilklgogaheaa", sum := "636ef5f507699fee568fe6072969b71bf60f129a13ff2df6481cab44efdd8300", func := "amnesia/amnesialaw05.ClientOwn", spec := "clientOwn", unfollowed := true, recurses := true, apart := false }
def ClientOwnSaid : Prop := clientOwnRow.holds Try.pinned (OpenSpec.ofChange clientOwnSpec)

/-- ITS FALSE NEIGHBOUR: 'it returns false'. Refute it at one input. -/
def clientOwnWrong : ChangeSpec := { name := "clientOwn", fn := fun _ => fun
  | [d1, d2, d3] => { results := [.lit (.bool false)], args := [d1, d2, d3] }
  | _ => none }
def ClientOwnWrongFalsely : Prop := clientOwnRow.holds Try.pinned (OpenSpec.ofChange clientOwnWrong)

/- THE SECOND FORM. 'bulk': how many values and letters a reading holds, each counted each time it is reached (what is shared counts as often as it is met; a slice's spare places count too). A statement '..UptoSaid' is the law's where the arguments, and the package variables that the reading takes, are together of bulk at most 1048576: NARROWER than '..Said'. Prove '..Said' where nothing that the law and all that it calls make is longer than what came in: it says more and counts as full. Else prove '..UptoSaid'. A law counts once. -/
mutual
def uptoBulk {H : Type} : DataW H → Nat
  | .lit (.string bytes) => bytes.length + 1
  | .lit _ => 1
  | .nil => 1
  | .ptr d => uptoBulk d + 1
  | .slice elems spare => uptoBulkAll elems + uptoBulkAll spare + 1
  | .agg parts => uptoBulkAll parts + 1
  | .iface _ d => uptoBulk d + 1
  | .map entries => uptoBulkEntries entries + 1
  | .held _ => 1
def uptoBulkAll {H : Type} : List (DataW H) → Nat
  | [] => 0
  | d :: r => uptoBulk d + uptoBulkAll r
def uptoBulkEntries {H : Type} : List (Lit × DataW H) → Nat
  | [] => 0
  | x :: r => uptoBulkEntry x + uptoBulkEntries r
def uptoBulkEntry {H : Type} : Lit × DataW H → Nat
  | (.string bytes, d) => bytes.length + uptoBulk d + 1
  | (_, d) => uptoBulk d + 1
 end
def uptoSmall : (H : Type) → List (DataW H) → Bool := fun _ ds => decide (uptoBulkAll ds ≤ 1048576)
def OpenSpec.upto (s : _root_.Go.ChangeSpec) : _root_.Go.OpenSpec := { _root_.Go.OpenSpec.ofChange s with cond := some uptoSmall }

/-- 'amnesialaw06.OplogEach', WHERE WHAT IT READS IS OF BULK AT MOST 1048576: true; the input reads as it did. -/
def oplogEachUptoRow : OpenClaim := { program := "ytnfilklgogaheaa", sum := "636ef5f507699fee568fe6072969b71bf60f129a13ff2df6481cab44efdd8300", func := "amnesia/amnesialaw06.OplogEach", spec := "oplogEach", unfollowed := true, recurses := true, apart := false, narrowed := true }
def OplogEachUptoSaid : Prop := oplogEachUptoRow.holds Try.pinned (OpenSpec.upto oplogEachSpec)

/-- 'amnesialaw06.OplogReplays', WHERE WHAT IT READS IS OF BULK AT MOST 1048576: true; the input reads as it did. -/
def oplogReplaysUptoRow : OpenClaim := { program := "ytnfilklgogaheaa", sum := "636ef5f507699fee568fe6072969b71bf60f129a13ff2df6481cab44efdd8300", func := "amnesia/amnesialaw06.OplogReplays", spec := "oplogReplays", unfollowed := true, recurses := true, apart := false, narrowed := true }
def OplogReplaysUptoSaid : Prop := oplogReplaysUptoRow.holds Try.pinned (OpenSpec.upto oplogReplaysSpec)

/-- 'amnesialaw06.OplogPlays', WHERE WHAT IT READS IS OF BULK AT MOST 1048576: true; the input reads as it did. -/
def oplogPlaysUptoRow : OpenClaim := { program := "ytnfilklgogaheaa", sum := "636ef5f507699fee568fe6072969b71bf60f129a13ff2df6481cab44efdd8300", func := "amnesia/amnesialaw06.OplogPlays", spec := "oplogPlays", unfollowed := true, recurses := true, apart := false, narrowed := true }
def OplogPlaysUptoSaid : Prop := oplogPlaysUptoRow.holds Try.pinned (OpenSpec.upto oplogPlaysSpec)

/-- 'amnesialaw06.OplogOwn', WHERE WHAT IT READS IS OF BULK AT MOST 1048576: true; the input reads as it did. -/
def oplogOwnUptoRow : OpenClaim := { program := "ytnfilklgogaheaa", sum := "636ef5f507699fee568fe6072969b71bf60f129a13ff2df6481cab44efdd8300", func := "amnesia/amnesialaw06.OplogOwn", spec := "oplogOwn", unfollowed := true, recurses := true, apart := false, narrowed := true }
def OplogOwnUptoSaid : Prop := oplogOwnUptoRow.holds Try.pinned (OpenSpec.upto oplogOwnSpec)

/-- 'amnesialaw05.ClientTables', WHERE WHAT IT READS IS OF BULK AT MOST 1048576: true; the input reads as it did. -/
def clientTablesUptoRow : OpenClaim := { program := "ytnfilklgogaheaa", sum := "636ef5f507699fee568fe6072969b71bf60f129a13ff2df6481cab44efdd8300", func := "amnesia/amnesialaw05.ClientTables", spec := "clientTables", unfollowed := true, recurses := true, apart := false, narrowed := true }
def ClientTablesUptoSaid : Prop := clientTablesUptoRow.holds Try.pinned (OpenSpec.upto clientTablesSpec)

/-- 'amnesialaw05.ClientBetween', WHERE WHAT IT READS IS OF BULK AT MOST 1048576: true; the input reads as it did. -/
def clientBetweenUptoRow : OpenClaim := { program := "ytnfilklgogaheaa", sum := "636ef5f507699fee568fe6072969b71bf60f129a13ff2df6481cab44efdd8300", func := "amnesia/amnesialaw05.ClientBetween", spec := "clientBetween", unfollowed := true, recurses := true, apart := false, narrowed := true }
def ClientBetweenUptoSaid : Prop := clientBetweenUptoRow.holds Try.pinned (OpenSpec.upto clientBetweenSpec)

/-- 'amnesialaw05.ClientOnce', WHERE WHAT IT READS IS OF BULK AT MOST 1048576: true; the input reads as it did. -/
def clientOnceUptoRow : OpenClaim := { program := "ytnfilklgogaheaa", sum := "636ef5f507699fee568fe6072969b71bf60f129a13ff2df6481cab44efdd8300", func := "amnesia/amnesialaw05.ClientOnce", spec := "clientOnce", unfollowed := true, recurses := true, apart := false, narrowed := true }
def ClientOnceUptoSaid : Prop := clientOnceUptoRow.holds Try.pinned (OpenSpec.upto clientOnceSpec)

/-- 'amnesialaw05.ClientAsks', WHERE WHAT IT READS IS OF BULK AT MOST 1048576: true; the input reads as it did. -/
def clientAsksUptoRow : OpenClaim := { program := "ytnfilklgogaheaa", sum := "636ef5f507699fee568fe6072969b71bf60f129a13ff2df6481cab44efdd8300", func := "amnesia/amnesialaw05.ClientAsks", spec := "clientAsks", unfollowed := true, recurses := true, apart := false, narrowed := true }
def ClientAsksUptoSaid : Prop := clientAsksUptoRow.holds Try.pinned (OpenSpec.upto clientAsksSpec)

/-- 'amnesialaw05.ClientStays', WHERE WHAT IT READS IS OF BULK AT MOST 1048576: true; the input reads as it did. -/
def clientStaysUptoRow : OpenClaim := { program := "ytnfilklgogaheaa", sum := "636ef5f507699fee568fe6072969b71bf60f129a13ff2df6481cab44efdd8300", func := "amnesia/amnesialaw05.ClientStays", spec := "clientStays", unfollowed := true, recurses := true, apart := false, narrowed := true }
def ClientStaysUptoSaid : Prop := clientStaysUptoRow.holds Try.pinned (OpenSpec.upto clientStaysSpec)

/-- 'amnesialaw05.ClientOwn', WHERE WHAT IT READS IS OF BULK AT MOST 1048576: true; the input reads as it did. -/
def clientOwnUptoRow : OpenClaim := { program := "ytnfilklgogaheaa", sum := "636ef5f507699fee568fe6072969b71bf60f129a13ff2df6481cab44efdd8300", func := "amnesia/amnesialaw05.ClientOwn", spec := "clientOwn", unfollowed := true, recurses := true, apart := false, narrowed := true }
def ClientOwnUptoSaid : Prop := clientOwnUptoRow.holds Try.pinned (OpenSpec.upto clientOwnSpec)

end Rows
end Go.Proofs.Ytnfilklgogaheaa
