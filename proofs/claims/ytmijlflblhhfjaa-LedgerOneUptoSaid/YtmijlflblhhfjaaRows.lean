/-
  No cell of these rows narrows 'for every input' (looked for: loops, veiled, ifaces, maps, wideKeys, modest, calm, conditions, laid).
  DERIVED. THE GIVEN ROWS OF THIS SEAT. 9 by the template 'for every input the law returns true; each argument reads behind the call as it read before'; 0 by the template 'total and deterministic' (their statements: YtmijlflblhhfjaaTotals.lean).
  GIVEN WITH THE SEED: the statements are not yours to turn. If you find one false, say at which input.
  Laid BY PROGRAM, IN A SANDBOX (cutbox-rows.mjs): the forced cells as the released guide's own fill.sh prints them over the translation fae12cd00306ec42… (all of the seat's roots in one cut). By AI agents, Wed Nov 11 2026. No macro, syntax, notation, axiom, sorry.
-/
import Derived.Test.YtmijlflblhhfjaaChecked
import GoSem.Claim
import GoSem.ClaimJoined
import GoSem.ClaimMapViews
import Derived.JoinedTies
import Derived.KernelRfl
namespace Go.Proofs.Ytmijlflblhhfjaa
/- THE CELL 'sum', in the pinned program and in every row, IS THE sha256 OF THE DUMP (.gsa) THAT YtmijlflblhhfjaaProg.lean LOADS. Nothing in Lean hashes anything: it is a label: what it is worth is what the hold of that sum in a sandbox is worth. -/
noncomputable def Try.pinned : Pinned := { name := "ytmijlflblhhfjaa", sum := "fae12cd00306ec428e6a3208d9bdd17ae69b4714879ddab4e5ba1a8c7839039a", checked := Try.checked }
namespace Rows
def none {H : Type} : Left H := { results := [], args := [] }

/-- 'amnesialaw04.LedgerEach': WHATEVER THE INPUT: true; the input reads as it did. -/
def ledgerEachSpec : ChangeSpec := { name := "ledgerEach", fn := fun _ => fun
  | [d1, d2] => { results := [.lit (.bool true)], args := [d1, d2] }
  | _ => none }
def ledgerEachRow : OpenClaim := { program := "ytmijlflblhhfjaa", sum := "fae12cd00306ec428e6a3208d9bdd17ae69b4714879ddab4e5ba1a8c7839039a", func := "amnesia/amnesialaw04.LedgerEach", spec := "ledgerEach", unfollowed := true, recurses := true, apart := false }
def LedgerEachSaid : Prop := ledgerEachRow.holds Try.pinned (OpenSpec.ofChange ledgerEachSpec)

/-- ITS FALSE NEIGHBOUR: 'it returns false'. Refute it at one input. -/
def ledgerEachWrong : ChangeSpec := { name := "ledgerEach", fn := fun _ => fun
  | [d1, d2] => { results := [.lit (.bool false)], args := [d1, d2] }
  | _ => none }
def LedgerEachWrongFalsely : Prop := ledgerEachRow.holds Try.pinned (OpenSpec.ofChange ledgerEachWrong)

/-- 'amnesialaw04.LedgerApart': WHATEVER THE INPUT: true; the input reads as it did. -/
def ledgerApartSpec : ChangeSpec := { name := "ledgerApart", fn := fun _ => fun
  | [d1, d2, d3] => { results := [.lit (.bool true)], args := [d1, d2, d3] }
  | _ => none }
def ledgerApartRow : OpenClaim := { program := "ytmijlflblhhfjaa", sum := "fae12cd00306ec428e6a3208d9bdd17ae69b4714879ddab4e5ba1a8c7839039a", func := "amnesia/amnesialaw04.LedgerApart", spec := "ledgerApart", unfollowed := true, recurses := true, apart := false }
def LedgerApartSaid : Prop := ledgerApartRow.holds Try.pinned (OpenSpec.ofChange ledgerApartSpec)

/-- ITS FALSE NEIGHBOUR: 'it returns false'. Refute it at one input. -/
def ledgerApartWrong : ChangeSpec := { name := "ledgerApart", fn := fun _ => fun
  | [d1, d2, d3] => { results := [.lit (.bool false)], args := [d1, d2, d3] }
  | _ => none }
def LedgerApartWrongFalsely : Prop := ledgerApartRow.holds Try.pinned (OpenSpec.ofChange ledgerApartWrong)

/-- 'amnesialaw04.LedgerReplays': WHATEVER THE INPUT: true; the input reads as it did. -/
def ledgerReplaysSpec : ChangeSpec := { name := "ledgerReplays", fn := fun _ => fun
  | [d] => { results := [.lit (.bool true)], args := [d] }
  | _ => none }
def ledgerReplaysRow : OpenClaim := { program := "ytmijlflblhhfjaa", sum := "fae12cd00306ec428e6a3208d9bdd17ae69b4714879ddab4e5ba1a8c7839039a", func := "amnesia/amnesialaw04.LedgerReplays", spec := "ledgerReplays", unfollowed := true, recurses := true, apart := false }
def LedgerReplaysSaid : Prop := ledgerReplaysRow.holds Try.pinned (OpenSpec.ofChange ledgerReplaysSpec)

/-- ITS FALSE NEIGHBOUR: 'it returns false'. Refute it at one input. -/
def ledgerReplaysWrong : ChangeSpec := { name := "ledgerReplays", fn := fun _ => fun
  | [d] => { results := [.lit (.bool false)], args := [d] }
  | _ => none }
def LedgerReplaysWrongFalsely : Prop := ledgerReplaysRow.holds Try.pinned (OpenSpec.ofChange ledgerReplaysWrong)

/-- 'amnesialaw04.LedgerOwn': WHATEVER THE INPUT: true; the input reads as it did. -/
def ledgerOwnSpec : ChangeSpec := { name := "ledgerOwn", fn := fun _ => fun
  | [d1, d2] => { results := [.lit (.bool true)], args := [d1, d2] }
  | _ => none }
def ledgerOwnRow : OpenClaim := { program := "ytmijlflblhhfjaa", sum := "fae12cd00306ec428e6a3208d9bdd17ae69b4714879ddab4e5ba1a8c7839039a", func := "amnesia/amnesialaw04.LedgerOwn", spec := "ledgerOwn", unfollowed := true, recurses := true, apart := false }
def LedgerOwnSaid : Prop := ledgerOwnRow.holds Try.pinned (OpenSpec.ofChange ledgerOwnSpec)

/-- ITS FALSE NEIGHBOUR: 'it returns false'. Refute it at one input. -/
def ledgerOwnWrong : ChangeSpec := { name := "ledgerOwn", fn := fun _ => fun
  | [d1, d2] => { results := [.lit (.bool false)], args := [d1, d2] }
  | _ => none }
def LedgerOwnWrongFalsely : Prop := ledgerOwnRow.holds Try.pinned (OpenSpec.ofChange ledgerOwnWrong)

/-- 'amnesialaw04.LedgerRises': WHATEVER THE INPUT: true; the input reads as it did. -/
def ledgerRisesSpec : ChangeSpec := { name := "ledgerRises", fn := fun _ => fun
  | [d] => { results := [.lit (.bool true)], args := [d] }
  | _ => none }
def ledgerRisesRow : OpenClaim := { program := "ytmijlflblhhfjaa", sum := "fae12cd00306ec428e6a3208d9bdd17ae69b4714879ddab4e5ba1a8c7839039a", func := "amnesia/amnesialaw04.LedgerRises", spec := "ledgerRises", unfollowed := true, recurses := true, apart := false }
def LedgerRisesSaid : Prop := ledgerRisesRow.holds Try.pinned (OpenSpec.ofChange ledgerRisesSpec)

/-- ITS FALSE NEIGHBOUR: 'it returns false'. Refute it at one input. -/
def ledgerRisesWrong : ChangeSpec := { name := "ledgerRises", fn := fun _ => fun
  | [d] => { results := [.lit (.bool false)], args := [d] }
  | _ => none }
def LedgerRisesWrongFalsely : Prop := ledgerRisesRow.holds Try.pinned (OpenSpec.ofChange ledgerRisesWrong)

/-- 'amnesialaw04.LedgerFroms': WHATEVER THE INPUT: true; the input reads as it did. -/
def ledgerFromsSpec : ChangeSpec := { name := "ledgerFroms", fn := fun _ => fun
  | [d1, d2, d3] => { results := [.lit (.bool true)], args := [d1, d2, d3] }
  | _ => none }
def ledgerFromsRow : OpenClaim := { program := "ytmijlflblhhfjaa", sum := "fae12cd00306ec428e6a3208d9bdd17ae69b4714879ddab4e5ba1a8c7839039a", func := "amnesia/amnesialaw04.LedgerFroms", spec := "ledgerFroms", unfollowed := true, recurses := true, apart := false }
def LedgerFromsSaid : Prop := ledgerFromsRow.holds Try.pinned (OpenSpec.ofChange ledgerFromsSpec)

/-- ITS FALSE NEIGHBOUR: 'it returns false'. Refute it at one input. -/
def ledgerFromsWrong : ChangeSpec := { name := "ledgerFroms", fn := fun _ => fun
  | [d1, d2, d3] => { results := [.lit (.bool false)], args := [d1, d2, d3] }
  | _ => none }
def LedgerFromsWrongFalsely : Prop := ledgerFromsRow.holds Try.pinned (OpenSpec.ofChange ledgerFromsWrong)

/-- 'amnesialaw04.LedgerDoes': WHATEVER THE INPUT: true; the input reads as it did. -/
def ledgerDoesSpec : ChangeSpec := { name := "ledgerDoes", fn := fun _ => fun
  | [d1, d2, d3, d4] => { results := [.lit (.bool true)], args := [d1, d2, d3, d4] }
  | _ => none }
def ledgerDoesRow : OpenClaim := { program := "ytmijlflblhhfjaa", sum := "fae12cd00306ec428e6a3208d9bdd17ae69b4714879ddab4e5ba1a8c7839039a", func := "amnesia/amnesialaw04.LedgerDoes", spec := "ledgerDoes", unfollowed := true, recurses := true, apart := false }
def LedgerDoesSaid : Prop := ledgerDoesRow.holds Try.pinned (OpenSpec.ofChange ledgerDoesSpec)

/-- ITS FALSE NEIGHBOUR: 'it returns false'. Refute it at one input. -/
def ledgerDoesWrong : ChangeSpec := { name := "ledgerDoes", fn := fun _ => fun
  | [d1, d2, d3, d4] => { results := [.lit (.bool false)], args := [d1, d2, d3, d4] }
  | _ => none }
def LedgerDoesWrongFalsely : Prop := ledgerDoesRow.holds Try.pinned (OpenSpec.ofChange ledgerDoesWrong)

/-- 'amnesialaw04.LedgerNil': WHATEVER THE INPUT: true; the input reads as it did. -/
def ledgerNilSpec : ChangeSpec := { name := "ledgerNil", fn := fun _ => fun
  | [] => { results := [.lit (.bool true)], args := [] }
  | _ => none }
def ledgerNilRow : OpenClaim := { program := "ytmijlflblhhfjaa", sum := "fae12cd00306ec428e6a3208d9bdd17ae69b4714879ddab4e5ba1a8c7839039a", func := "amnesia/amnesialaw04.LedgerNil", spec := "ledgerNil", unfollowed := true, recurses := true, apart := false }
def LedgerNilSaid : Prop := ledgerNilRow.holds Try.pinned (OpenSpec.ofChange ledgerNilSpec)

/-- ITS FALSE NEIGHBOUR: 'it returns false'. Refute it at one input. -/
def ledgerNilWrong : ChangeSpec := { name := "ledgerNil", fn := fun _ => fun
  | [] => { results := [.lit (.bool false)], args := [] }
  | _ => none }
def LedgerNilWrongFalsely : Prop := ledgerNilRow.holds Try.pinned (OpenSpec.ofChange ledgerNilWrong)

/-- 'amnesialaw04.LedgerOne': WHATEVER THE INPUT: true; the input reads as it did. -/
def ledgerOneSpec : ChangeSpec := { name := "ledgerOne", fn := fun _ => fun
  | [d1, d2] => { results := [.lit (.bool true)], args := [d1, d2] }
  | _ => none }
def ledgerOneRow : OpenClaim := { program := "ytmijlflblhhfjaa", sum := "fae12cd00306ec428e6a3208d9bdd17ae69b4714879ddab4e5ba1a8c7839039a", func := "amnesia/amnesialaw04.LedgerOne", spec := "ledgerOne", unfollowed := true, recurses := true, apart := false }
def LedgerOneSaid : Prop := ledgerOneRow.holds Try.pinned (OpenSpec.ofChange ledgerOneSpec)

/-- ITS FALSE NEIGHBOUR: 'it returns false'. Refute it at one input. -/
def ledgerOneWrong : ChangeSpec := { name := "ledgerOne", fn := fun _ => fun
  | [d1, d2] => { results := [.lit (.bool false)], args := [d1, d2] }
  | _ => none }
def LedgerOneWrongFalsely : Prop := ledgerOneRow.holds Try.pinned (OpenSpec.ofChange ledgerOneWrong)

/- THE SECOND FORM. 'bulk': how many values and letters a reading holds, each counted each time it is reached (what is shared counts as often as it is met; a slice's spare places count too). A statement '..UptoSaid' is the law's where the arguments, and the package variables that the reading takes, are together of bulk at most 1048576: NARROWER than '..Said'. Prove '..Said' where nothing that the law and all that it calls make is longer than what came in: it says more and counts as full. Else prove '..UptoSaid'. A law counts once. -/
mutual
def uptoBulk {H : Type} : DataW H → Nat
  | .lit (.string bytes) => bytes.length + 1
  | .lit _ => 1
  | .nil => 1
  | .ptr d => uptoBulk d + 1
  | .slice elems spare => uptoBulkAll elems + uptoBulkAll spare + 1
  | .agg parts => uptoBulkAll parts + 1
  | .iface _ d => uptoBulk d + 1
  | .map entries => uptoBulkEntries entries + 1
  | .held _ => 1
def uptoBulkAll {H : Type} : List (DataW H) → Nat
  | [] => 0
  | d :: r => uptoBulk d + uptoBulkAll r
def uptoBulkEntries {H : Type} : List (Lit × DataW H) → Nat
  | [] => 0
  | x :: r => uptoBulkEntry x + uptoBulkEntries r
def uptoBulkEntry {H : Type} : Lit × DataW H → Nat
  | (.string bytes, d) => bytes.length + uptoBulk d + 1
  | (_, d) => uptoBulk d + 1
 end
def uptoSmall : (H : Type) → List (DataW H) → Bool := fun _ ds => decide (uptoBulkAll ds ≤ 1048576)
def OpenSpec.upto (s : _root_.Go.ChangeSpec) : _root_.Go.OpenSpec := { _root_.Go.OpenSpec.ofChange s with cond := some uptoSmall }

/-- 'amnesialaw04.LedgerEach', WHERE WHAT IT READS IS OF BULK AT MOST 1048576: true; the input reads as it did. -/
def ledgerEachUptoRow : OpenClaim := { program := "ytmijlflblhhfjaa", sum := "fae12cd00306ec428e6a3208d9bdd17ae69b4714879ddab4e5ba1a8c7839039a", func := "amnesia/amnesialaw04.LedgerEach", spec := "ledgerEach", unfollowed := true, recurses := true, apart := false, narrowed := true }
def LedgerEachUptoSaid : Prop := ledgerEachUptoRow.holds Try.pinned (OpenSpec.upto ledgerEachSpec)

/-- 'amnesialaw04.LedgerApart', WHERE WHAT IT READS IS OF BULK AT MOST 1048576: true; the input reads as it did. -/
def ledgerApartUptoRow : OpenClaim := { program := "ytmijlflblhhfjaa", sum := "fae12cd00306ec428e6a3208d9bdd17ae69b4714879ddab4e5ba1a8c7839039a", func := "amnesia/amnesialaw04.LedgerApart", spec := "ledgerApart", unfollowed := true, recurses := true, apart := false, narrowed := true }
def LedgerApartUptoSaid : Prop := ledgerApartUptoRow.holds Try.pinned (OpenSpec.upto ledgerApartSpec)

/-- 'amnesialaw04.LedgerReplays', WHERE WHAT IT READS IS OF BULK AT MOST 1048576: true; the input reads as it did. -/
def ledgerReplaysUptoRow : OpenClaim := { program := "ytmijlflblhhfjaa", sum := "fae12cd00306ec428e6a3208d9bdd17ae69b4714879ddab4e5ba1a8c7839039a", func := "amnesia/amnesialaw04.LedgerReplays", spec := "ledgerReplays", unfollowed := true, recurses := true, apart := false, narrowed := true }
def LedgerReplaysUptoSaid : Prop := ledgerReplaysUptoRow.holds Try.pinned (OpenSpec.upto ledgerReplaysSpec)

/-- 'amnesialaw04.LedgerOwn', WHERE WHAT IT READS IS OF BULK AT MOST 1048576: true; the input reads as it did. -/
def ledgerOwnUptoRow : OpenClaim := { program := "ytmijlflblhhfjaa", sum := "fae12cd00306ec428e6a3208d9bdd17ae69b4714879ddab4e5ba1a8c7839039a", func := "amnesia/amnesialaw04.LedgerOwn", spec := "ledgerOwn", unfollowed := true, recurses := true, apart := false, narrowed := true }
def LedgerOwnUptoSaid : Prop := ledgerOwnUptoRow.holds Try.pinned (OpenSpec.upto ledgerOwnSpec)

/-- 'amnesialaw04.LedgerRises', WHERE WHAT IT READS IS OF BULK AT MOST 1048576: true; the input reads as it did. -/
def ledgerRisesUptoRow : OpenClaim := { program := "ytmijlflblhhfjaa", sum := "fae12cd00306ec428e6a3208d9bdd17ae69b4714879ddab4e5ba1a8c7839039a", func := "amnesia/amnesialaw04.LedgerRises", spec := "ledgerRises", unfollowed := true, recurses := true, apart := false, narrowed := true }
def LedgerRisesUptoSaid : Prop := ledgerRisesUptoRow.holds Try.pinned (OpenSpec.upto ledgerRisesSpec)

/-- 'amnesialaw04.LedgerFroms', WHERE WHAT IT READS IS OF BULK AT MOST 1048576: true; the input reads as it did. -/
def ledgerFromsUptoRow : OpenClaim := { program := "ytmijlflblhhfjaa", sum := "fae12cd00306ec428e6a3208d9bdd17ae69b4714879ddab4e5ba1a8c7839039a", func := "amnesia/amnesialaw04.LedgerFroms", spec := "ledgerFroms", unfollowed := true, recurses := true, apart := false, narrowed := true }
def LedgerFromsUptoSaid : Prop := ledgerFromsUptoRow.holds Try.pinned (OpenSpec.upto ledgerFromsSpec)

/-- 'amnesialaw04.LedgerDoes', WHERE WHAT IT READS IS OF BULK AT MOST 1048576: true; the input reads as it did. -/
def ledgerDoesUptoRow : OpenClaim := { program := "ytmijlflblhhfjaa", sum := "fae12cd00306ec428e6a3208d9bdd17ae69b4714879ddab4e5ba1a8c7839039a", func := "amnesia/amnesialaw04.LedgerDoes", spec := "ledgerDoes", unfollowed := true, recurses := true, apart := false, narrowed := true }
def LedgerDoesUptoSaid : Prop := ledgerDoesUptoRow.holds Try.pinned (OpenSpec.upto ledgerDoesSpec)

/-- 'amnesialaw04.LedgerNil', WHERE WHAT IT READS IS OF BULK AT MOST 1048576: true; the input reads as it did. -/
def ledgerNilUptoRow : OpenClaim := { program := "ytmijlflblhhfjaa", sum := "fae12cd00306ec428e6a3208d9bdd17ae69b4714879ddab4e5ba1a8c7839039a", func := "amnesia/amnesialaw04.LedgerNil", spec := "ledgerNil", unfollowed := true, recurses := true, apart := false, narrowed := true }
def LedgerNilUptoSaid : Prop := ledgerNilUptoRow.holds Try.pinned (OpenSpec.upto ledgerNilSpec)

/-- 'amnesialaw04.LedgerOne', WHERE WHAT IT READS IS OF BULK AT MOST 1048576: true; the input reads as it did. -/
def ledgerOneUptoRow : OpenClaim := { program := "ytmijlflblhhfjaa", sum := "fae12cd00306ec428e6a3208d9bdd17ae69b4714879ddab4e5ba1a8c7839039a", func := "amnesia/amnesialaw04.LedgerOne", spec := "ledgerOne", unfollowed := true, recurses := true, apart := false, narrowed := true }
def LedgerOneUptoSaid : Prop := ledgerOneUptoRow.holds Try.pinned (OpenSpec.upto ledgerOneSpec)

end Rows
end Go.Proofs.Ytmijlflblhhfjaa
