/-
  No cell of these rows narrows 'for every input' (looked for: loops, veiled, ifaces, maps, wideKeys, modest, calm, conditions, laid).
  DERIVED. THE GIVEN ROWS OF THIS SEAT. 32 by the template 'for every input the law returns true; each argument reads behind the call as it read before'; 0 by the template 'total and deterministic' (their statements: YtdmeijemfneafaaTotals.lean).
  GIVEN WITH THE SEED: the statements are not yours to turn. If you find one false, say at which input.
  Laid BY PROGRAM, IN A SANDBOX (cutbox-rows.mjs): the forced cells as the released guide's own fill.sh prints them over the translation a88fe44002679f65… (all of the seat's roots in one cut). By AI agents, Wed Nov 11 2026. No macro, syntax, notation, axiom, sorry.
-/
import Derived.Test.YtdmeijemfneafaaChecked
import GoSem.Claim
import GoSem.ClaimJoined
import GoSem.ClaimMapViews
import Derived.JoinedTies
import Derived.KernelRfl
namespace Go.Proofs.Ytdmeijemfneafaa
/- THE CELL 'sum', in the pinned program and in every row, IS THE sha256 OF THE DUMP (.gsa) THAT YtdmeijemfneafaaProg.lean LOADS. Nothing in Lean hashes anything: it is a label: what it is worth is what the hold of that sum in a sandbox is worth. -/
noncomputable def Try.pinned : Pinned := { name := "ytdmeijemfneafaa", sum := "a88fe44002679f65c1613b3d97f3bc388342fd495c0f217bb5c8a0e0862d534b", checked := Try.checked }
namespace Rows
def none {H : Type} : Left H := { results := [], args := [] }

/-- 'amnesialaw04.LedgerChecks': WHATEVER THE INPUT: true; the input reads as it did. -/
def ledgerChecksSpec : ChangeSpec := { name := "ledgerChecks", fn := fun _ => fun
  | [d] => { results := [.lit (.bool true)], args := [d] }
  | _ => none }
def ledgerChecksRow : OpenClaim := { program := "ytdmeijemfneafaa", sum := "a88fe44002679f65c1613b3d97f3bc388342fd495c0f217bb5c8a0e0862d534b", func := "amnesia/amnesialaw04.LedgerChecks", spec := "ledgerChecks", apart := false }
def LedgerChecksSaid : Prop := ledgerChecksRow.holds Try.pinned (OpenSpec.ofChange ledgerChecksSpec)

/-- ITS FALSE NEIGHBOUR: 'it returns false'. Refute it at one input. -/
def ledgerChecksWrong : ChangeSpec := { name := "ledgerChecks", fn := fun _ => fun
  | [d] => { results := [.lit (.bool false)], args := [d] }
  | _ => none }
def LedgerChecksWrongFalsely : Prop := ledgerChecksRow.holds Try.pinned (OpenSpec.ofChange ledgerChecksWrong)

/-- 'amnesialaw04.LedgerBehind': WHATEVER THE INPUT: true; the input reads as it did. -/
def ledgerBehindSpec : ChangeSpec := { name := "ledgerBehind", fn := fun _ => fun
  | [d1, d2] => { results := [.lit (.bool true)], args := [d1, d2] }
  | _ => none }
def ledgerBehindRow : OpenClaim := { program := "ytdmeijemfneafaa", sum := "a88fe44002679f65c1613b3d97f3bc388342fd495c0f217bb5c8a0e0862d534b", func := "amnesia/amnesialaw04.LedgerBehind", spec := "ledgerBehind", apart := false }
def LedgerBehindSaid : Prop := ledgerBehindRow.holds Try.pinned (OpenSpec.ofChange ledgerBehindSpec)

/-- ITS FALSE NEIGHBOUR: 'it returns false'. Refute it at one input. -/
def ledgerBehindWrong : ChangeSpec := { name := "ledgerBehind", fn := fun _ => fun
  | [d1, d2] => { results := [.lit (.bool false)], args := [d1, d2] }
  | _ => none }
def LedgerBehindWrongFalsely : Prop := ledgerBehindRow.holds Try.pinned (OpenSpec.ofChange ledgerBehindWrong)

/-- 'amnesialaw04.LedgerEach': WHATEVER THE INPUT: true; the input reads as it did. -/
def ledgerEachSpec : ChangeSpec := { name := "ledgerEach", fn := fun _ => fun
  | [d1, d2] => { results := [.lit (.bool true)], args := [d1, d2] }
  | _ => none }
def ledgerEachRow : OpenClaim := { program := "ytdmeijemfneafaa", sum := "a88fe44002679f65c1613b3d97f3bc388342fd495c0f217bb5c8a0e0862d534b", func := "amnesia/amnesialaw04.LedgerEach", spec := "ledgerEach", unfollowed := true, recurses := true, apart := false }
def LedgerEachSaid : Prop := ledgerEachRow.holds Try.pinned (OpenSpec.ofChange ledgerEachSpec)

/-- ITS FALSE NEIGHBOUR: 'it returns false'. Refute it at one input. -/
def ledgerEachWrong : ChangeSpec := { name := "ledgerEach", fn := fun _ => fun
  | [d1, d2] => { results := [.lit (.bool false)], args := [d1, d2] }
  | _ => none }
def LedgerEachWrongFalsely : Prop := ledgerEachRow.holds Try.pinned (OpenSpec.ofChange ledgerEachWrong)

/-- 'amnesialaw04.LedgerFirst': WHATEVER THE INPUT: true; the input reads as it did. -/
def ledgerFirstSpec : ChangeSpec := { name := "ledgerFirst", fn := fun _ => fun
  | [d] => { results := [.lit (.bool true)], args := [d] }
  | _ => none }
def ledgerFirstRow : OpenClaim := { program := "ytdmeijemfneafaa", sum := "a88fe44002679f65c1613b3d97f3bc388342fd495c0f217bb5c8a0e0862d534b", func := "amnesia/amnesialaw04.LedgerFirst", spec := "ledgerFirst", apart := false }
def LedgerFirstSaid : Prop := ledgerFirstRow.holds Try.pinned (OpenSpec.ofChange ledgerFirstSpec)

/-- ITS FALSE NEIGHBOUR: 'it returns false'. Refute it at one input. -/
def ledgerFirstWrong : ChangeSpec := { name := "ledgerFirst", fn := fun _ => fun
  | [d] => { results := [.lit (.bool false)], args := [d] }
  | _ => none }
def LedgerFirstWrongFalsely : Prop := ledgerFirstRow.holds Try.pinned (OpenSpec.ofChange ledgerFirstWrong)

/-- 'amnesialaw04.LedgerApart': WHATEVER THE INPUT: true; the input reads as it did. -/
def ledgerApartSpec : ChangeSpec := { name := "ledgerApart", fn := fun _ => fun
  | [d1, d2, d3] => { results := [.lit (.bool true)], args := [d1, d2, d3] }
  | _ => none }
def ledgerApartRow : OpenClaim := { program := "ytdmeijemfneafaa", sum := "a88fe44002679f65c1613b3d97f3bc388342fd495c0f217bb5c8a0e0862d534b", func := "amnesia/amnesialaw04.LedgerApart", spec := "ledgerApart", unfollowed := true, recurses := true, apart := false }
def LedgerApartSaid : Prop := ledgerApartRow.holds Try.pinned (OpenSpec.ofChange ledgerApartSpec)

/-- ITS FALSE NEIGHBOUR: 'it returns false'. Refute it at one input. -/
def ledgerApartWrong : ChangeSpec := { name := "ledgerApart", fn := fun _ => fun
  | [d1, d2, d3] => { results := [.lit (.bool false)], args := [d1, d2, d3] }
  | _ => none }
def LedgerApartWrongFalsely : Prop := ledgerApartRow.holds Try.pinned (OpenSpec.ofChange ledgerApartWrong)

/-- 'amnesialaw04.LedgerReplays': WHATEVER THE INPUT: true; the input reads as it did. -/
def ledgerReplaysSpec : ChangeSpec := { name := "ledgerReplays", fn := fun _ => fun
  | [d] => { results := [.lit (.bool true)], args := [d] }
  | _ => none }
def ledgerReplaysRow : OpenClaim := { program := "ytdmeijemfneafaa", sum := "a88fe44002679f65c1613b3d97f3bc388342fd495c0f217bb5c8a0e0862d534b", func := "amnesia/amnesialaw04.LedgerReplays", spec := "ledgerReplays", unfollowed := true, recurses := true, apart := false }
def LedgerReplaysSaid : Prop := ledgerReplaysRow.holds Try.pinned (OpenSpec.ofChange ledgerReplaysSpec)

/-- ITS FALSE NEIGHBOUR: 'it returns false'. Refute it at one input. -/
def ledgerReplaysWrong : ChangeSpec := { name := "ledgerReplays", fn := fun _ => fun
  | [d] => { results := [.lit (.bool false)], args := [d] }
  | _ => none }
def LedgerReplaysWrongFalsely : Prop := ledgerReplaysRow.holds Try.pinned (OpenSpec.ofChange ledgerReplaysWrong)

/-- 'amnesialaw04.LedgerOwn': WHATEVER THE INPUT: true; the input reads as it did. -/
def ledgerOwnSpec : ChangeSpec := { name := "ledgerOwn", fn := fun _ => fun
  | [d1, d2] => { results := [.lit (.bool true)], args := [d1, d2] }
  | _ => none }
def ledgerOwnRow : OpenClaim := { program := "ytdmeijemfneafaa", sum := "a88fe44002679f65c1613b3d97f3bc388342fd495c0f217bb5c8a0e0862d534b", func := "amnesia/amnesialaw04.LedgerOwn", spec := "ledgerOwn", unfollowed := true, recurses := true, apart := false }
def LedgerOwnSaid : Prop := ledgerOwnRow.holds Try.pinned (OpenSpec.ofChange ledgerOwnSpec)

/-- ITS FALSE NEIGHBOUR: 'it returns false'. Refute it at one input. -/
def ledgerOwnWrong : ChangeSpec := { name := "ledgerOwn", fn := fun _ => fun
  | [d1, d2] => { results := [.lit (.bool false)], args := [d1, d2] }
  | _ => none }
def LedgerOwnWrongFalsely : Prop := ledgerOwnRow.holds Try.pinned (OpenSpec.ofChange ledgerOwnWrong)

/-- 'amnesialaw04.LedgerRises': WHATEVER THE INPUT: true; the input reads as it did. -/
def ledgerRisesSpec : ChangeSpec := { name := "ledgerRises", fn := fun _ => fun
  | [d] => { results := [.lit (.bool true)], args := [d] }
  | _ => none }
def ledgerRisesRow : OpenClaim := { program := "ytdmeijemfneafaa", sum := "a88fe44002679f65c1613b3d97f3bc388342fd495c0f217bb5c8a0e0862d534b", func := "amnesia/amnesialaw04.LedgerRises", spec := "ledgerRises", unfollowed := true, recurses := true, apart := false }
def LedgerRisesSaid : Prop := ledgerRisesRow.holds Try.pinned (OpenSpec.ofChange ledgerRisesSpec)

/-- ITS FALSE NEIGHBOUR: 'it returns false'. Refute it at one input. -/
def ledgerRisesWrong : ChangeSpec := { name := "ledgerRises", fn := fun _ => fun
  | [d] => { results := [.lit (.bool false)], args := [d] }
  | _ => none }
def LedgerRisesWrongFalsely : Prop := ledgerRisesRow.holds Try.pinned (OpenSpec.ofChange ledgerRisesWrong)

/-- 'amnesialaw04.LedgerFroms': WHATEVER THE INPUT: true; the input reads as it did. -/
def ledgerFromsSpec : ChangeSpec := { name := "ledgerFroms", fn := fun _ => fun
  | [d1, d2, d3] => { results := [.lit (.bool true)], args := [d1, d2, d3] }
  | _ => none }
def ledgerFromsRow : OpenClaim := { program := "ytdmeijemfneafaa", sum := "a88fe44002679f65c1613b3d97f3bc388342fd495c0f217bb5c8a0e0862d534b", func := "amnesia/amnesialaw04.LedgerFroms", spec := "ledgerFroms", unfollowed := true, recurses := true, apart := false }
def LedgerFromsSaid : Prop := ledgerFromsRow.holds Try.pinned (OpenSpec.ofChange ledgerFromsSpec)

/-- ITS FALSE NEIGHBOUR: 'it returns false'. Refute it at one input. -/
def ledgerFromsWrong : ChangeSpec := { name := "ledgerFroms", fn := fun _ => fun
  | [d1, d2, d3] => { results := [.lit (.bool false)], args := [d1, d2, d3] }
  | _ => none }
def LedgerFromsWrongFalsely : Prop := ledgerFromsRow.holds Try.pinned (OpenSpec.ofChange ledgerFromsWrong)

/-- 'amnesialaw04.LedgerDoes': WHATEVER THE INPUT: true; the input reads as it did. -/
def ledgerDoesSpec : ChangeSpec := { name := "ledgerDoes", fn := fun _ => fun
  | [d1, d2, d3, d4] => { results := [.lit (.bool true)], args := [d1, d2, d3, d4] }
  | _ => none }
def ledgerDoesRow : OpenClaim := { program := "ytdmeijemfneafaa", sum := "a88fe44002679f65c1613b3d97f3bc388342fd495c0f217bb5c8a0e0862d534b", func := "amnesia/amnesialaw04.LedgerDoes", spec := "ledgerDoes", unfollowed := true, recurses := true, apart := false }
def LedgerDoesSaid : Prop := ledgerDoesRow.holds Try.pinned (OpenSpec.ofChange ledgerDoesSpec)

/-- ITS FALSE NEIGHBOUR: 'it returns false'. Refute it at one input. -/
def ledgerDoesWrong : ChangeSpec := { name := "ledgerDoes", fn := fun _ => fun
  | [d1, d2, d3, d4] => { results := [.lit (.bool false)], args := [d1, d2, d3, d4] }
  | _ => none }
def LedgerDoesWrongFalsely : Prop := ledgerDoesRow.holds Try.pinned (OpenSpec.ofChange ledgerDoesWrong)

/-- 'amnesialaw04.LedgerNil': WHATEVER THE INPUT: true; the input reads as it did. -/
def ledgerNilSpec : ChangeSpec := { name := "ledgerNil", fn := fun _ => fun
  | [] => { results := [.lit (.bool true)], args := [] }
  | _ => none }
def ledgerNilRow : OpenClaim := { program := "ytdmeijemfneafaa", sum := "a88fe44002679f65c1613b3d97f3bc388342fd495c0f217bb5c8a0e0862d534b", func := "amnesia/amnesialaw04.LedgerNil", spec := "ledgerNil", unfollowed := true, recurses := true, apart := false }
def LedgerNilSaid : Prop := ledgerNilRow.holds Try.pinned (OpenSpec.ofChange ledgerNilSpec)

/-- ITS FALSE NEIGHBOUR: 'it returns false'. Refute it at one input. -/
def ledgerNilWrong : ChangeSpec := { name := "ledgerNil", fn := fun _ => fun
  | [] => { results := [.lit (.bool false)], args := [] }
  | _ => none }
def LedgerNilWrongFalsely : Prop := ledgerNilRow.holds Try.pinned (OpenSpec.ofChange ledgerNilWrong)

/-- 'amnesialaw04.LedgerOne': WHATEVER THE INPUT: true; the input reads as it did. -/
def ledgerOneSpec : ChangeSpec := { name := "ledgerOne", fn := fun _ => fun
  | [d1, d2] => { results := [.lit (.bool true)], args := [d1, d2] }
  | _ => none }
def ledgerOneRow : OpenClaim := { program := "ytdmeijemfneafaa", sum := "a88fe44002679f65c1613b3d97f3bc388342fd495c0f217bb5c8a0e0862d534b", func := "amnesia/amnesialaw04.LedgerOne", spec := "ledgerOne", unfollowed := true, recurses := true, apart := false }
def LedgerOneSaid : Prop := ledgerOneRow.holds Try.pinned (OpenSpec.ofChange ledgerOneSpec)

/-- ITS FALSE NEIGHBOUR: 'it returns false'. Refute it at one input. -/
def ledgerOneWrong : ChangeSpec := { name := "ledgerOne", fn := fun _ => fun
  | [d1, d2] => { results := [.lit (.bool false)], args := [d1, d2] }
  | _ => none }
def LedgerOneWrongFalsely : Prop := ledgerOneRow.holds Try.pinned (OpenSpec.ofChange ledgerOneWrong)

/-- 'amnesialaw05.ClientTables': WHATEVER THE INPUT: true; the input reads as it did. -/
def clientTablesSpec : ChangeSpec := { name := "clientTables", fn := fun _ => fun
  | [d1, d2] => { results := [.lit (.bool true)], args := [d1, d2] }
  | _ => none }
def clientTablesRow : OpenClaim := { program := "ytdmeijemfneafaa", sum := "a88fe44002679f65c1613b3d97f3bc388342fd495c0f217bb5c8a0e0862d534b", func := "amnesia/amnesialaw05.ClientTables", spec := "clientTables", unfollowed := true, recurses := true, apart := false }
def ClientTablesSaid : Prop := clientTablesRow.holds Try.pinned (OpenSpec.ofChange clientTablesSpec)

/-- ITS FALSE NEIGHBOUR: 'it returns false'. Refute it at one input. -/
def clientTablesWrong : ChangeSpec := { name := "clientTables", fn := fun _ => fun
  | [d1, d2] => { results := [.lit (.bool false)], args := [d1, d2] }
  | _ => none }
def ClientTablesWrongFalsely : Prop := clientTablesRow.holds Try.pinned (OpenSpec.ofChange clientTablesWrong)

/-- 'amnesialaw05.ClientBetween': WHATEVER THE INPUT: true; the input reads as it did. -/
def clientBetweenSpec : ChangeSpec := { name := "clientBetween", fn := fun _ => fun
  | [d1, d2, d3] => { results := [.lit (.bool true)], args := [d1, d2, d3] }
  | _ => none }
def clientBetweenRow : OpenClaim := { program := "ytdmeijemfneafaa", sum := "a88fe44002679f65c1613b3d97f3bc388342fd495c0f217bb5c8a0e0862d534b", func := "amnesia/amnesialaw05.ClientBetween", spec := "clientBetween", unfollowed := true, recurses := true, apart := false }
def ClientBetweenSaid : Prop := clientBetweenRow.holds Try.pinned (OpenSpec.ofChange clientBetweenSpec)

/-- ITS FALSE NEIGHBOUR: 'it returns false'. Refute it at one input. -/
def clientBetweenWrong : ChangeSpec := { name := "clientBetween", fn := fun _ => fun
  | [d1, d2, d3] => { results := [.lit (.bool false)], args := [d1, d2, d3] }
  | _ => none }
def ClientBetweenWrongFalsely : Prop := clientBetweenRow.holds Try.pinned (OpenSpec.ofChange clientBetweenWrong)

/-- 'amnesialaw05.ClientOnce': WHATEVER THE INPUT: true; the input reads as it did. -/
def clientOnceSpec : ChangeSpec := { name := "clientOnce", fn := fun _ => fun
  | [d] => { results := [.lit (.bool true)], args := [d] }
  | _ => none }
def clientOnceRow : OpenClaim := { program := "ytdmeijemfneafaa", sum := "a88fe44002679f65c1613b3d97f3bc388342fd495c0f217bb5c8a0e0862d534b", func := "amnesia/amnesialaw05.ClientOnce", spec := "clientOnce", unfollowed := true, recurses := true, apart := false }
def ClientOnceSaid : Prop := clientOnceRow.holds Try.pinned (OpenSpec.ofChange clientOnceSpec)

/-- ITS FALSE NEIGHBOUR: 'it returns false'. Refute it at one input. -/
def clientOnceWrong : ChangeSpec := { name := "clientOnce", fn := fun _ => fun
  | [d] => { results := [.lit (.bool false)], args := [d] }
  | _ => none }
def ClientOnceWrongFalsely : Prop := clientOnceRow.holds Try.pinned (OpenSpec.ofChange clientOnceWrong)

/-- 'amnesialaw05.ClientAsks': WHATEVER THE INPUT: true; the input reads as it did. -/
def clientAsksSpec : ChangeSpec := { name := "clientAsks", fn := fun _ => fun
  | [d1, d2, d3, d4] => { results := [.lit (.bool true)], args := [d1, d2, d3, d4] }
  | _ => none }
def clientAsksRow : OpenClaim := { program := "ytdmeijemfneafaa", sum := "a88fe44002679f65c1613b3d97f3bc388342fd495c0f217bb5c8a0e0862d534b", func := "amnesia/amnesialaw05.ClientAsks", spec := "clientAsks", unfollowed := true, recurses := true, apart := false }
def ClientAsksSaid : Prop := clientAsksRow.holds Try.pinned (OpenSpec.ofChange clientAsksSpec)

/-- ITS FALSE NEIGHBOUR: 'it returns false'. Refute it at one input. -/
def clientAsksWrong : ChangeSpec := { name := "clientAsks", fn := fun _ => fun
  | [d1, d2, d3, d4] => { results := [.lit (.bool false)], args := [d1, d2, d3, d4] }
  | _ => none }
def ClientAsksWrongFalsely : Prop := clientAsksRow.holds Try.pinned (OpenSpec.ofChange clientAsksWrong)

/-- 'amnesialaw05.ClientStays': WHATEVER THE INPUT: true; the input reads as it did. -/
def clientStaysSpec : ChangeSpec := { name := "clientStays", fn := fun _ => fun
  | [d1, d2, d3, d4] => { results := [.lit (.bool true)], args := [d1, d2, d3, d4] }
  | _ => none }
def clientStaysRow : OpenClaim := { program := "ytdmeijemfneafaa", sum := "a88fe44002679f65c1613b3d97f3bc388342fd495c0f217bb5c8a0e0862d534b", func := "amnesia/amnesialaw05.ClientStays", spec := "clientStays", unfollowed := true, recurses := true, apart := false }
def ClientStaysSaid : Prop := clientStaysRow.holds Try.pinned (OpenSpec.ofChange clientStaysSpec)

/-- ITS FALSE NEIGHBOUR: 'it returns false'. Refute it at one input. -/
def clientStaysWrong : ChangeSpec := { name := "clientStays", fn := fun _ => fun
  | [d1, d2, d3, d4] => { results := [.lit (.bool false)], args := [d1, d2, d3, d4] }
  | _ => none }
def ClientStaysWrongFalsely : Prop := clientStaysRow.holds Try.pinned (OpenSpec.ofChange clientStaysWrong)

/-- 'amnesialaw05.ClientOwn': WHATEVER THE INPUT: true; the input reads as it did. -/
def clientOwnSpec : ChangeSpec := { name := "clientOwn", fn := fun _ => fun
  | [d1, d2, d3] => { results := [.lit (.bool true)], args := [d1, d2, d3] }
  | _ => none }
def clientOwnRow : OpenClaim := { program := "ytdmeijemfneafaa", sum := "a88fe44002679f65c1613b3d97f3bc388342fd495c0f217bb5c8a0e0862d534b", func := "amnesia/amnesialaw05.ClientOwn", spec := "clientOwn", unfollowed := true, recurses := true, apart := false }
def ClientOwnSaid : Prop := clientOwnRow.holds Try.pinned (OpenSpec.ofChange clientOwnSpec)

/-- ITS FALSE NEIGHBOUR: 'it returns false'. Refute it at one input. -/
def clientOwnWrong : ChangeSpec := { name := "clientOwn", fn := fun _ => fun
  | [d1, d2, d3] => { results := [.lit (.bool false)], args := [d1, d2, d3] }
  | _ => none }
def ClientOwnWrongFalsely : Prop := clientOwnRow.holds Try.pinned (OpenSpec.ofChange clientOwnWrong)

/-- 'amnesialaw06.OplogCompares': WHATEVER THE INPUT: true; the input reads as it did. -/
def oplogComparesSpec : ChangeSpec := { name := "oplogCompares", fn := fun _ => fun
  | [d1, d2, d3] => { results := [.lit (.bool true)], args := [d1, d2, d3] }
  | _ => none }
def oplogComparesRow : OpenClaim := { program := "ytdmeijemfneafaa", sum := "a88fe44002679f65c1613b3d97f3bc388342fd495c0f217bb5c8a0e0862d534b", func := "amnesia/amnesialaw06.OplogCompares", spec := "oplogCompares", apart := false }
def OplogComparesSaid : Prop := oplogComparesRow.holds Try.pinned (OpenSpec.ofChange oplogComparesSpec)

/-- ITS FALSE NEIGHBOUR: 'it returns false'. Refute it at one input. -/
def oplogComparesWrong : ChangeSpec := { name := "oplogCompares", fn := fun _ => fun
  | [d1, d2, d3] => { results := [.lit (.bool false)], args := [d1, d2, d3] }
  | _ => none }
def OplogComparesWrongFalsely : Prop := oplogComparesRow.holds Try.pinned (OpenSpec.ofChange oplogComparesWrong)

/-- 'amnesialaw06.OplogChecks': WHATEVER THE INPUT: true; the input reads as it did. -/
def oplogChecksSpec : ChangeSpec := { name := "oplogChecks", fn := fun _ => fun
  | [d1, d2] => { results := [.lit (.bool true)], args := [d1, d2] }
  | _ => none }
def oplogChecksRow : OpenClaim := { program := "ytdmeijemfneafaa", sum := "a88fe44002679f65c1613b3d97f3bc388342fd495c0f217bb5c8a0e0862d534b", func := "amnesia/amnesialaw06.OplogChecks", spec := "oplogChecks", unfollowed := true, recurses := true, apart := false }
def OplogChecksSaid : Prop := oplogChecksRow.holds Try.pinned (OpenSpec.ofChange oplogChecksSpec)

/-- ITS FALSE NEIGHBOUR: 'it returns false'. Refute it at one input. -/
def oplogChecksWrong : ChangeSpec := { name := "oplogChecks", fn := fun _ => fun
  | [d1, d2] => { results := [.lit (.bool false)], args := [d1, d2] }
  | _ => none }
def OplogChecksWrongFalsely : Prop := oplogChecksRow.holds Try.pinned (OpenSpec.ofChange oplogChecksWrong)

/-- 'amnesialaw06.OplogAppends': WHATEVER THE INPUT: true; the input reads as it did. -/
def oplogAppendsSpec : ChangeSpec := { name := "oplogAppends", fn := fun _ => fun
  | [d1, d2, d3] => { results := [.lit (.bool true)], args := [d1, d2, d3] }
  | _ => none }
def oplogAppendsRow : OpenClaim := { program := "ytdmeijemfneafaa", sum := "a88fe44002679f65c1613b3d97f3bc388342fd495c0f217bb5c8a0e0862d534b", func := "amnesia/amnesialaw06.OplogAppends", spec := "oplogAppends", unfollowed := true, recurses := true, apart := false }
def OplogAppendsSaid : Prop := oplogAppendsRow.holds Try.pinned (OpenSpec.ofChange oplogAppendsSpec)

/-- ITS FALSE NEIGHBOUR: 'it returns false'. Refute it at one input. -/
def oplogAppendsWrong : ChangeSpec := { name := "oplogAppends", fn := fun _ => fun
  | [d1, d2, d3] => { results := [.lit (.bool false)], args := [d1, d2, d3] }
  | _ => none }
def OplogAppendsWrongFalsely : Prop := oplogAppendsRow.holds Try.pinned (OpenSpec.ofChange oplogAppendsWrong)

/-- 'amnesialaw06.OplogEach': WHATEVER THE INPUT: true; the input reads as it did. -/
def oplogEachSpec : ChangeSpec := { name := "oplogEach", fn := fun _ => fun
  | [d1, d2, d3] => { results := [.lit (.bool true)], args := [d1, d2, d3] }
  | _ => none }
def oplogEachRow : OpenClaim := { program := "ytdmeijemfneafaa", sum := "a88fe44002679f65c1613b3d97f3bc388342fd495c0f217bb5c8a0e0862d534b", func := "amnesia/amnesialaw06.OplogEach", spec := "oplogEach", unfollowed := true, recurses := true, apart := false }
def OplogEachSaid : Prop := oplogEachRow.holds Try.pinned (OpenSpec.ofChange oplogEachSpec)

/-- ITS FALSE NEIGHBOUR: 'it returns false'. Refute it at one input. -/
def oplogEachWrong : ChangeSpec := { name := "oplogEach", fn := fun _ => fun
  | [d1, d2, d3] => { results := [.lit (.bool false)], args := [d1, d2, d3] }
  | _ => none }
def OplogEachWrongFalsely : Prop := oplogEachRow.holds Try.pinned (OpenSpec.ofChange oplogEachWrong)

/-- 'amnesialaw06.OplogCuts': WHATEVER THE INPUT: true; the input reads as it did. -/
def oplogCutsSpec : ChangeSpec := { name := "oplogCuts", fn := fun _ => fun
  | [d1, d2] => { results := [.lit (.bool true)], args := [d1, d2] }
  | _ => none }
def oplogCutsRow : OpenClaim := { program := "ytdmeijemfneafaa", sum := "a88fe44002679f65c1613b3d97f3bc388342fd495c0f217bb5c8a0e0862d534b", func := "amnesia/amnesialaw06.OplogCuts", spec := "oplogCuts", unfollowed := true, recurses := true, apart := false }
def OplogCutsSaid : Prop := oplogCutsRow.holds Try.pinned (OpenSpec.ofChange oplogCutsSpec)

/-- ITS FALSE NEIGHBOUR: 'it returns false'. Refute it at one input. -/
def oplogCutsWrong : ChangeSpec := { name := "oplogCuts", fn := fun _ => fun
  | [d1, d2] => { results := [.lit (.bool false)], args := [d1, d2] }
  | _ => none }
def OplogCutsWrongFalsely : Prop := oplogCutsRow.holds Try.pinned (OpenSpec.ofChange oplogCutsWrong)

/-- 'amnesialaw06.OplogSplices': WHATEVER THE INPUT: true; the input reads as it did. -/
def oplogSplicesSpec : ChangeSpec := { name := "oplogSplices", fn := fun _ => fun
  | [d1, d2, d3, d4] => { results := [.lit (.bool true)], args := [d1, d2, d3, d4] }
  | _ => none }
def oplogSplicesRow : OpenClaim := { program := "ytdmeijemfneafaa", sum := "a88fe44002679f65c1613b3d97f3bc388342fd495c0f217bb5c8a0e0862d534b", func := "amnesia/amnesialaw06.OplogSplices", spec := "oplogSplices", unfollowed := true, recurses := true, apart := false }
def OplogSplicesSaid : Prop := oplogSplicesRow.holds Try.pinned (OpenSpec.ofChange oplogSplicesSpec)

/-- ITS FALSE NEIGHBOUR: 'it returns false'. Refute it at one input. -/
def oplogSplicesWrong : ChangeSpec := { name := "oplogSplices", fn := fun _ => fun
  | [d1, d2, d3, d4] => { results := [.lit (.bool false)], args := [d1, d2, d3, d4] }
  | _ => none }
def OplogSplicesWrongFalsely : Prop := oplogSplicesRow.holds Try.pinned (OpenSpec.ofChange oplogSplicesWrong)

/-- 'amnesialaw06.OplogGrows': WHATEVER THE INPUT: true; the input reads as it did. -/
def oplogGrowsSpec : ChangeSpec := { name := "oplogGrows", fn := fun _ => fun
  | [d1, d2, d3] => { results := [.lit (.bool true)], args := [d1, d2, d3] }
  | _ => none }
def oplogGrowsRow : OpenClaim := { program := "ytdmeijemfneafaa", sum := "a88fe44002679f65c1613b3d97f3bc388342fd495c0f217bb5c8a0e0862d534b", func := "amnesia/amnesialaw06.OplogGrows", spec := "oplogGrows", unfollowed := true, recurses := true, apart := false }
def OplogGrowsSaid : Prop := oplogGrowsRow.holds Try.pinned (OpenSpec.ofChange oplogGrowsSpec)

/-- ITS FALSE NEIGHBOUR: 'it returns false'. Refute it at one input. -/
def oplogGrowsWrong : ChangeSpec := { name := "oplogGrows", fn := fun _ => fun
  | [d1, d2, d3] => { results := [.lit (.bool false)], args := [d1, d2, d3] }
  | _ => none }
def OplogGrowsWrongFalsely : Prop := oplogGrowsRow.holds Try.pinned (OpenSpec.ofChange oplogGrowsWrong)

/-- 'amnesialaw06.OplogOrder': WHATEVER THE INPUT: true; the input reads as it did. -/
def oplogOrderSpec : ChangeSpec := { name := "oplogOrder", fn := fun _ => fun
  | [d1, d2, d3, d4, d5] => { results := [.lit (.bool true)], args := [d1, d2, d3, d4, d5] }
  | _ => none }
def oplogOrderRow : OpenClaim := { program := "ytdmeijemfneafaa", sum := "a88fe44002679f65c1613b3d97f3bc388342fd495c0f217bb5c8a0e0862d534b", func := "amnesia/amnesialaw06.OplogOrder", spec := "oplogOrder", unfollowed := true, recurses := true, apart := false }
def OplogOrderSaid : Prop := oplogOrderRow.holds Try.pinned (OpenSpec.ofChange oplogOrderSpec)

/-- ITS FALSE NEIGHBOUR: 'it returns false'. Refute it at one input. -/
def oplogOrderWrong : ChangeSpec := { name := "oplogOrder", fn := fun _ => fun
  | [d1, d2, d3, d4, d5] => { results := [.lit (.bool false)], args := [d1, d2, d3, d4, d5] }
  | _ => none }
def OplogOrderWrongFalsely : Prop := oplogOrderRow.holds Try.pinned (OpenSpec.ofChange oplogOrderWrong)

/-- 'amnesialaw06.OplogFinds': WHATEVER THE INPUT: true; the input reads as it did. -/
def oplogFindsSpec : ChangeSpec := { name := "oplogFinds", fn := fun _ => fun
  | [d1, d2, d3] => { results := [.lit (.bool true)], args := [d1, d2, d3] }
  | _ => none }
def oplogFindsRow : OpenClaim := { program := "ytdmeijemfneafaa", sum := "a88fe44002679f65c1613b3d97f3bc388342fd495c0f217bb5c8a0e0862d534b", func := "amnesia/amnesialaw06.OplogFinds", spec := "oplogFinds", unfollowed := true, recurses := true, apart := false }
def OplogFindsSaid : Prop := oplogFindsRow.holds Try.pinned (OpenSpec.ofChange oplogFindsSpec)

/-- ITS FALSE NEIGHBOUR: 'it returns false'. Refute it at one input. -/
def oplogFindsWrong : ChangeSpec := { name := "oplogFinds", fn := fun _ => fun
  | [d1, d2, d3] => { results := [.lit (.bool false)], args := [d1, d2, d3] }
  | _ => none }
def OplogFindsWrongFalsely : Prop := oplogFindsRow.holds Try.pinned (OpenSpec.ofChange oplogFindsWrong)

/-- 'amnesialaw06.OplogPlace': WHATEVER THE INPUT: true; the input reads as it did. -/
def oplogPlaceSpec : ChangeSpec := { name := "oplogPlace", fn := fun _ => fun
  | [d1, d2, d3] => { results := [.lit (.bool true)], args := [d1, d2, d3] }
  | _ => none }
def oplogPlaceRow : OpenClaim := { program := "ytdmeijemfneafaa", sum := "a88fe44002679f65c1613b3d97f3bc388342fd495c0f217bb5c8a0e0862d534b", func := "amnesia/amnesialaw06.OplogPlace", spec := "oplogPlace", unfollowed := true, recurses := true, apart := false }
def OplogPlaceSaid : Prop := oplogPlaceRow.holds Try.pinned (OpenSpec.ofChange oplogPlaceSpec)

/-- ITS FALSE NEIGHBOUR: 'it returns false'. Refute it at one input. -/
def oplogPlaceWrong : ChangeSpec := { name := "oplogPlace", fn := fun _ => fun
  | [d1, d2, d3] => { results := [.lit (.bool false)], args := [d1, d2, d3] }
  | _ => none }
def OplogPlaceWrongFalsely : Prop := oplogPlaceRow.holds Try.pinned (OpenSpec.ofChange oplogPlaceWrong)

/-- 'amnesialaw06.OplogWhole': WHATEVER THE INPUT: true; the input reads as it did. -/
def oplogWholeSpec : ChangeSpec := { name := "oplogWhole", fn := fun _ => fun
  | [d1, d2, d3, d4] => { results := [.lit (.bool true)], args := [d1, d2, d3, d4] }
  | _ => none }
def oplogWholeRow : OpenClaim := { program := "ytdmeijemfneafaa", sum := "a88fe44002679f65c1613b3d97f3bc388342fd495c0f217bb5c8a0e0862d534b", func := "amnesia/amnesialaw06.OplogWhole", spec := "oplogWhole", unfollowed := true, recurses := true, apart := false }
def OplogWholeSaid : Prop := oplogWholeRow.holds Try.pinned (OpenSpec.ofChange oplogWholeSpec)

/-- ITS FALSE NEIGHBOUR: 'it returns false'. Refute it at one input. -/
def oplogWholeWrong : ChangeSpec := { name := "oplogWhole", fn := fun _ => fun
  | [d1, d2, d3, d4] => { results := [.lit (.bool false)], args := [d1, d2, d3, d4] }
  | _ => none }
def OplogWholeWrongFalsely : Prop := oplogWholeRow.holds Try.pinned (OpenSpec.ofChange oplogWholeWrong)

/-- 'amnesialaw06.OplogReplays': WHATEVER THE INPUT: true; the input reads as it did. -/
def oplogReplaysSpec : ChangeSpec := { name := "oplogReplays", fn := fun _ => fun
  | [d1, d2] => { results := [.lit (.bool true)], args := [d1, d2] }
  | _ => none }
def oplogReplaysRow : OpenClaim := { program := "ytdmeijemfneafaa", sum := "a88fe44002679f65c1613b3d97f3bc388342fd495c0f217bb5c8a0e0862d534b", func := "amnesia/amnesialaw06.OplogReplays", spec := "oplogReplays", unfollowed := true, recurses := true, apart := false }
def OplogReplaysSaid : Prop := oplogReplaysRow.holds Try.pinned (OpenSpec.ofChange oplogReplaysSpec)

/-- ITS FALSE NEIGHBOUR: 'it returns false'. Refute it at one input. -/
def oplogReplaysWrong : ChangeSpec := { name := "oplogReplays", fn := fun _ => fun
  | [d1, d2] => { results := [.lit (.bool false)], args := [d1, d2] }
  | _ => none }
def OplogReplaysWrongFalsely : Prop := oplogReplaysRow.holds Try.pinned (OpenSpec.ofChange oplogReplaysWrong)

/-- 'amnesialaw06.OplogPlays': WHATEVER THE INPUT: true; the input reads as it did. -/
def oplogPlaysSpec : ChangeSpec := { name := "oplogPlays", fn := fun _ => fun
  | [d1, d2, d3] => { results := [.lit (.bool true)], args := [d1, d2, d3] }
  | _ => none }
def oplogPlaysRow : OpenClaim := { program := "ytdmeijemfneafaa", sum := "a88fe44002679f65c1613b3d97f3bc388342fd495c0f217bb5c8a0e0862d534b", func := "amnesia/amnesialaw06.OplogPlays", spec := "oplogPlays", unfollowed := true, recurses := true, apart := false }
def OplogPlaysSaid : Prop := oplogPlaysRow.holds Try.pinned (OpenSpec.ofChange oplogPlaysSpec)

/-- ITS FALSE NEIGHBOUR: 'it returns false'. Refute it at one input. -/
def oplogPlaysWrong : ChangeSpec := { name := "oplogPlays", fn := fun _ => fun
  | [d1, d2, d3] => { results := [.lit (.bool false)], args := [d1, d2, d3] }
  | _ => none }
def OplogPlaysWrongFalsely : Prop := oplogPlaysRow.holds Try.pinned (OpenSpec.ofChange oplogPlaysWrong)

/-- 'amnesialaw06.OplogOwn': WHATEVER THE INPUT: true; the input reads as it did. -/
def oplogOwnSpec : ChangeSpec := { name := "oplogOwn", fn := fun _ => fun
  | [d1, d2, d3] => { results := [.lit (.bool true)], args := [d1, d2, d3] }
  | _ => none }
def oplogOwnRow : OpenClaim := { program := "ytdmeijemfneafaa", sum := "a88fe44002679f65c1613b3d97f3bc388342fd495c0f217bb5c8a0e0862d534b", func := "amnesia/amnesialaw06.OplogOwn", spec := "oplogOwn", unfollowed := true, recurses := true, apart := false }
def OplogOwnSaid : Prop := oplogOwnRow.holds Try.pinned (OpenSpec.ofChange oplogOwnSpec)

/-- ITS FALSE NEIGHBOUR: 'it returns false'. Refute it at one input. -/
def oplogOwnWrong : ChangeSpec := { name := "oplogOwn", fn := fun _ => fun
  | [d1, d2, d3] => { results := [.lit (.bool false)], args := [d1, d2, d3] }
  | _ => none }
def OplogOwnWrongFalsely : Prop := oplogOwnRow.holds Try.pinned (OpenSpec.ofChange oplogOwnWrong)

/- THE SECOND FORM. 'bulk': how many values and letters a reading holds, each counted each time it is reached (what is shared counts as often as it is met; a slice's spare places count too). A statement '..UptoSaid' is the law's where the arguments, and the package variables that the reading takes, are together of bulk at most 1048576: NARROWER than '..Said'. Prove '..Said' where nothing that the law and all that it calls make is longer than what came in: it says more and counts as full. Else prove '..UptoSaid'. A law counts once. -/
mutual
def uptoBulk {H : Type} : DataW H → Nat
  | .lit (.string bytes) => bytes.length + 1
  | .lit _ => 1
  | .nil => 1
  | .ptr d => uptoBulk d + 1
  | .slice elems spare => uptoBulkAll elems + uptoBulkAll spare + 1
  | .agg parts => uptoBulkAll parts + 1
  | .iface _ d => uptoBulk d + 1
  | .map entries => uptoBulkEntries entries + 1
  | .held _ => 1
def uptoBulkAll {H : Type} : List (DataW H) → Nat
  | [] => 0
  | d :: r => uptoBulk d + uptoBulkAll r
def uptoBulkEntries {H : Type} : List (Lit × DataW H) → Nat
  | [] => 0
  | x :: r => uptoBulkEntry x + uptoBulkEntries r
def uptoBulkEntry {H : Type} : Lit × DataW H → Nat
  | (.string bytes, d) => bytes.length + uptoBulk d + 1
  | (_, d) => uptoBulk d + 1
 end
def uptoSmall : (H : Type) → List (DataW H) → Bool := fun _ ds => decide (uptoBulkAll ds ≤ 1048576)
def OpenSpec.upto (s : _root_.Go.ChangeSpec) : _root_.Go.OpenSpec := { _root_.Go.OpenSpec.ofChange s with cond := some uptoSmall }

/-- 'amnesialaw04.LedgerChecks', WHERE WHAT IT READS IS OF BULK AT MOST 1048576: true; the input reads as it did. -/
def ledgerChecksUptoRow : OpenClaim := { program := "ytdmeijemfneafaa", sum := "a88fe44002679f65c1613b3d97f3bc388342fd495c0f217bb5c8a0e0862d534b", func := "amnesia/amnesialaw04.LedgerChecks", spec := "ledgerChecks", apart := false, narrowed := true }
def LedgerChecksUptoSaid : Prop := ledgerChecksUptoRow.holds Try.pinned (OpenSpec.upto ledgerChecksSpec)

/-- 'amnesialaw04.LedgerBehind', WHERE WHAT IT READS IS OF BULK AT MOST 1048576: true; the input reads as it did. -/
def ledgerBehindUptoRow : OpenClaim := { program := "ytdmeijemfneafaa", sum := "a88fe44002679f65c1613b3d97f3bc388342fd495c0f217bb5c8a0e0862d534b", func := "amnesia/amnesialaw04.LedgerBehind", spec := "ledgerBehind", apart := false, narrowed := true }
def LedgerBehindUptoSaid : Prop := ledgerBehindUptoRow.holds Try.pinned (OpenSpec.upto ledgerBehindSpec)

/-- 'amnesialaw04.LedgerEach', WHERE WHAT IT READS IS OF BULK AT MOST 1048576: true; the input reads as it did. -/
def ledgerEachUptoRow : OpenClaim := { program := "ytdmeijemfneafaa", sum := "a88fe44002679f65c1613b3d97f3bc388342fd495c0f217bb5c8a0e0862d534b", func := "amnesia/amnesialaw04.LedgerEach", spec := "ledgerEach", unfollowed := true, recurses := true, apart := false, narrowed := true }
def LedgerEachUptoSaid : Prop := ledgerEachUptoRow.holds Try.pinned (OpenSpec.upto ledgerEachSpec)

/-- 'amnesialaw04.LedgerFirst', WHERE WHAT IT READS IS OF BULK AT MOST 1048576: true; the input reads as it did. -/
def ledgerFirstUptoRow : OpenClaim := { program := "ytdmeijemfneafaa", sum := "a88fe44002679f65c1613b3d97f3bc388342fd495c0f217bb5c8a0e0862d534b", func := "amnesia/amnesialaw04.LedgerFirst", spec := "ledgerFirst", apart := false, narrowed := true }
def LedgerFirstUptoSaid : Prop := ledgerFirstUptoRow.holds Try.pinned (OpenSpec.upto ledgerFirstSpec)

/-- 'amnesialaw04.LedgerApart', WHERE WHAT IT READS IS OF BULK AT MOST 1048576: true; the input reads as it did. -/
def ledgerApartUptoRow : OpenClaim := { program := "ytdmeijemfneafaa", sum := "a88fe44002679f65c1613b3d97f3bc388342fd495c0f217bb5c8a0e0862d534b", func := "amnesia/amnesialaw04.LedgerApart", spec := "ledgerApart", unfollowed := true, recurses := true, apart := false, narrowed := true }
def LedgerApartUptoSaid : Prop := ledgerApartUptoRow.holds Try.pinned (OpenSpec.upto ledgerApartSpec)

/-- 'amnesialaw04.LedgerReplays', WHERE WHAT IT READS IS OF BULK AT MOST 1048576: true; the input reads as it did. -/
def ledgerReplaysUptoRow : OpenClaim := { program := "ytdmeijemfneafaa", sum := "a88fe44002679f65c1613b3d97f3bc388342fd495c0f217bb5c8a0e0862d534b", func := "amnesia/amnesialaw04.LedgerReplays", spec := "ledgerReplays", unfollowed := true, recurses := true, apart := false, narrowed := true }
def LedgerReplaysUptoSaid : Prop := ledgerReplaysUptoRow.holds Try.pinned (OpenSpec.upto ledgerReplaysSpec)

/-- 'amnesialaw04.LedgerOwn', WHERE WHAT IT READS IS OF BULK AT MOST 1048576: true; the input reads as it did. -/
def ledgerOwnUptoRow : OpenClaim := { program := "ytdmeijemfneafaa", sum := "a88fe44002679f65c1613b3d97f3bc388342fd495c0f217bb5c8a0e0862d534b", func := "amnesia/amnesialaw04.LedgerOwn", spec := "ledgerOwn", unfollowed := true, recurses := true, apart := false, narrowed := true }
def LedgerOwnUptoSaid : Prop := ledgerOwnUptoRow.holds Try.pinned (OpenSpec.upto ledgerOwnSpec)

/-- 'amnesialaw04.LedgerRises', WHERE WHAT IT READS IS OF BULK AT MOST 1048576: true; the input reads as it did. -/
def ledgerRisesUptoRow : OpenClaim := { program := "ytdmeijemfneafaa", sum := "a88fe44002679f65c1613b3d97f3bc388342fd495c0f217bb5c8a0e0862d534b", func := "amnesia/amnesialaw04.LedgerRises", spec := "ledgerRises", unfollowed := true, recurses := true, apart := false, narrowed := true }
def LedgerRisesUptoSaid : Prop := ledgerRisesUptoRow.holds Try.pinned (OpenSpec.upto ledgerRisesSpec)

/-- 'amnesialaw04.LedgerFroms', WHERE WHAT IT READS IS OF BULK AT MOST 1048576: true; the input reads as it did. -/
def ledgerFromsUptoRow : OpenClaim := { program := "ytdmeijemfneafaa", sum := "a88fe44002679f65c1613b3d97f3bc388342fd495c0f217bb5c8a0e0862d534b", func := "amnesia/amnesialaw04.LedgerFroms", spec := "ledgerFroms", unfollowed := true, recurses := true, apart := false, narrowed := true }
def LedgerFromsUptoSaid : Prop := ledgerFromsUptoRow.holds Try.pinned (OpenSpec.upto ledgerFromsSpec)

/-- 'amnesialaw04.LedgerDoes', WHERE WHAT IT READS IS OF BULK AT MOST 1048576: true; the input reads as it did. -/
def ledgerDoesUptoRow : OpenClaim := { program := "ytdmeijemfneafaa", sum := "a88fe44002679f65c1613b3d97f3bc388342fd495c0f217bb5c8a0e0862d534b", func := "amnesia/amnesialaw04.LedgerDoes", spec := "ledgerDoes", unfollowed := true, recurses := true, apart := false, narrowed := true }
def LedgerDoesUptoSaid : Prop := ledgerDoesUptoRow.holds Try.pinned (OpenSpec.upto ledgerDoesSpec)

/-- 'amnesialaw04.LedgerNil', WHERE WHAT IT READS IS OF BULK AT MOST 1048576: true; the input reads as it did. -/
def ledgerNilUptoRow : OpenClaim := { program := "ytdmeijemfneafaa", sum := "a88fe44002679f65c1613b3d97f3bc388342fd495c0f217bb5c8a0e0862d534b", func := "amnesia/amnesialaw04.LedgerNil", spec := "ledgerNil", unfollowed := true, recurses := true, apart := false, narrowed := true }
def LedgerNilUptoSaid : Prop := ledgerNilUptoRow.holds Try.pinned (OpenSpec.upto ledgerNilSpec)

/-- 'amnesialaw04.LedgerOne', WHERE WHAT IT READS IS OF BULK AT MOST 1048576: true; the input reads as it did. -/
def ledgerOneUptoRow : OpenClaim := { program := "ytdmeijemfneafaa", sum := "a88fe44002679f65c1613b3d97f3bc388342fd495c0f217bb5c8a0e0862d534b", func := "amnesia/amnesialaw04.LedgerOne", spec := "ledgerOne", unfollowed := true, recurses := true, apart := false, narrowed := true }
def LedgerOneUptoSaid : Prop := ledgerOneUptoRow.holds Try.pinned (OpenSpec.upto ledgerOneSpec)

/-- 'amnesialaw05.ClientTables', WHERE WHAT IT READS IS OF BULK AT MOST 1048576: true; the input reads as it did. -/
def clientTablesUptoRow : OpenClaim := { program := "ytdmeijemfneafaa", sum := "a88fe44002679f65c1613b3d97f3bc388342fd495c0f217bb5c8a0e0862d534b", func := "amnesia/amnesialaw05.ClientTables", spec := "clientTables", unfollowed := true, recurses := true, apart := false, narrowed := true }
def ClientTablesUptoSaid : Prop := clientTablesUptoRow.holds Try.pinned (OpenSpec.upto clientTablesSpec)

/-- 'amnesialaw05.ClientBetween', WHERE WHAT IT READS IS OF BULK AT MOST 1048576: true; the input reads as it did. -/
def clientBetweenUptoRow : OpenClaim := { program := "ytdmeijemfneafaa", sum := "a88fe44002679f65c1613b3d97f3bc388342fd495c0f217bb5c8a0e0862d534b", func := "amnesia/amnesialaw05.ClientBetween", spec := "clientBetween", unfollowed := true, recurses := true, apart := false, narrowed := true }
def ClientBetweenUptoSaid : Prop := clientBetweenUptoRow.holds Try.pinned (OpenSpec.upto clientBetweenSpec)

/-- 'amnesialaw05.ClientOnce', WHERE WHAT IT READS IS OF BULK AT MOST 1048576: true; the input reads as it did. -/
def clientOnceUptoRow : OpenClaim := { program := "ytdmeijemfneafaa", sum := "a88fe44002679f65c1613b3d97f3bc388342fd495c0f217bb5c8a0e0862d534b", func := "amnesia/amnesialaw05.ClientOnce", spec := "clientOnce", unfollowed := true, recurses := true, apart := false, narrowed := true }
def ClientOnceUptoSaid : Prop := clientOnceUptoRow.holds Try.pinned (OpenSpec.upto clientOnceSpec)

/-- 'amnesialaw05.ClientAsks', WHERE WHAT IT READS IS OF BULK AT MOST 1048576: true; the input reads as it did. -/
def clientAsksUptoRow : OpenClaim := { program := "ytdmeijemfneafaa", sum := "a88fe44002679f65c1613b3d97f3bc388342fd495c0f217bb5c8a0e0862d534b", func := "amnesia/amnesialaw05.ClientAsks", spec := "clientAsks", unfollowed := true, recurses := true, apart := false, narrowed := true }
def ClientAsksUptoSaid : Prop := clientAsksUptoRow.holds Try.pinned (OpenSpec.upto clientAsksSpec)

/-- 'amnesialaw05.ClientStays', WHERE WHAT IT READS IS OF BULK AT MOST 1048576: true; the input reads as it did. -/
def clientStaysUptoRow : OpenClaim := { program := "ytdmeijemfneafaa", sum := "a88fe44002679f65c1613b3d97f3bc388342fd495c0f217bb5c8a0e0862d534b", func := "amnesia/amnesialaw05.ClientStays", spec := "clientStays", unfollowed := true, recurses := true, apart := false, narrowed := true }
def ClientStaysUptoSaid : Prop := clientStaysUptoRow.holds Try.pinned (OpenSpec.upto clientStaysSpec)

/-- 'amnesialaw05.ClientOwn', WHERE WHAT IT READS IS OF BULK AT MOST 1048576: true; the input reads as it did. -/
def clientOwnUptoRow : OpenClaim := { program := "ytdmeijemfneafaa", sum := "a88fe44002679f65c1613b3d97f3bc388342fd495c0f217bb5c8a0e0862d534b", func := "amnesia/amnesialaw05.ClientOwn", spec := "clientOwn", unfollowed := true, recurses := true, apart := false, narrowed := true }
def ClientOwnUptoSaid : Prop := clientOwnUptoRow.holds Try.pinned (OpenSpec.upto clientOwnSpec)

/-- 'amnesialaw06.OplogCompares', WHERE WHAT IT READS IS OF BULK AT MOST 1048576: true; the input reads as it did. -/
def oplogComparesUptoRow : OpenClaim := { program := "ytdmeijemfneafaa", sum := "a88fe44002679f65c1613b3d97f3bc388342fd495c0f217bb5c8a0e0862d534b", func := "amnesia/amnesialaw06.OplogCompares", spec := "oplogCompares", apart := false, narrowed := true }
def OplogComparesUptoSaid : Prop := oplogComparesUptoRow.holds Try.pinned (OpenSpec.upto oplogComparesSpec)

/-- 'amnesialaw06.OplogChecks', WHERE WHAT IT READS IS OF BULK AT MOST 1048576: true; the input reads as it did. -/
def oplogChecksUptoRow : OpenClaim := { program := "ytdmeijemfneafaa", sum := "a88fe44002679f65c1613b3d97f3bc388342fd495c0f217bb5c8a0e0862d534b", func := "amnesia/amnesialaw06.OplogChecks", spec := "oplogChecks", unfollowed := true, recurses := true, apart := false, narrowed := true }
def OplogChecksUptoSaid : Prop := oplogChecksUptoRow.holds Try.pinned (OpenSpec.upto oplogChecksSpec)

/-- 'amnesialaw06.OplogAppends', WHERE WHAT IT READS IS OF BULK AT MOST 1048576: true; the input reads as it did. -/
def oplogAppendsUptoRow : OpenClaim := { program := "ytdmeijemfneafaa", sum := "a88fe44002679f65c1613b3d97f3bc388342fd495c0f217bb5c8a0e0862d534b", func := "amnesia/amnesialaw06.OplogAppends", spec := "oplogAppends", unfollowed := true, recurses := true, apart := false, narrowed := true }
def OplogAppendsUptoSaid : Prop := oplogAppendsUptoRow.holds Try.pinned (OpenSpec.upto oplogAppendsSpec)

/-- 'amnesialaw06.OplogEach', WHERE WHAT IT READS IS OF BULK AT MOST 1048576: true; the input reads as it did. -/
def oplogEachUptoRow : OpenClaim := { program := "ytdmeijemfneafaa", sum := "a88fe44002679f65c1613b3d97f3bc388342fd495c0f217bb5c8a0e0862d534b", func := "amnesia/amnesialaw06.OplogEach", spec := "oplogEach", unfollowed := true, recurses := true, apart := false, narrowed := true }
def OplogEachUptoSaid : Prop := oplogEachUptoRow.holds Try.pinned (OpenSpec.upto oplogEachSpec)

/-- 'amnesialaw06.OplogCuts', WHERE WHAT IT READS IS OF BULK AT MOST 1048576: true; the input reads as it did. -/
def oplogCutsUptoRow : OpenClaim := { program := "ytdmeijemfneafaa", sum := "a88fe44002679f65c1613b3d97f3bc388342fd495c0f217bb5c8a0e0862d534b", func := "amnesia/amnesialaw06.OplogCuts", spec := "oplogCuts", unfollowed := true, recurses := true, apart := false, narrowed := true }
def OplogCutsUptoSaid : Prop := oplogCutsUptoRow.holds Try.pinned (OpenSpec.upto oplogCutsSpec)

/-- 'amnesialaw06.OplogSplices', WHERE WHAT IT READS IS OF BULK AT MOST 1048576: true; the input reads as it did. -/
def oplogSplicesUptoRow : OpenClaim := { program := "ytdmeijemfneafaa", sum := "a88fe44002679f65c1613b3d97f3bc388342fd495c0f217bb5c8a0e0862d534b", func := "amnesia/amnesialaw06.OplogSplices", spec := "oplogSplices", unfollowed := true, recurses := true, apart := false, narrowed := true }
def OplogSplicesUptoSaid : Prop := oplogSplicesUptoRow.holds Try.pinned (OpenSpec.upto oplogSplicesSpec)

/-- 'amnesialaw06.OplogGrows', WHERE WHAT IT READS IS OF BULK AT MOST 1048576: true; the input reads as it did. -/
def oplogGrowsUptoRow : OpenClaim := { program := "ytdmeijemfneafaa", sum := "a88fe44002679f65c1613b3d97f3bc388342fd495c0f217bb5c8a0e0862d534b", func := "amnesia/amnesialaw06.OplogGrows", spec := "oplogGrows", unfollowed := true, recurses := true, apart := false, narrowed := true }
def OplogGrowsUptoSaid : Prop := oplogGrowsUptoRow.holds Try.pinned (OpenSpec.upto oplogGrowsSpec)

/-- 'amnesialaw06.OplogOrder', WHERE WHAT IT READS IS OF BULK AT MOST 1048576: true; the input reads as it did. -/
def oplogOrderUptoRow : OpenClaim := { program := "ytdmeijemfneafaa", sum := "a88fe44002679f65c1613b3d97f3bc388342fd495c0f217bb5c8a0e0862d534b", func := "amnesia/amnesialaw06.OplogOrder", spec := "oplogOrder", unfollowed := true, recurses := true, apart := false, narrowed := true }
def OplogOrderUptoSaid : Prop := oplogOrderUptoRow.holds Try.pinned (OpenSpec.upto oplogOrderSpec)

/-- 'amnesialaw06.OplogFinds', WHERE WHAT IT READS IS OF BULK AT MOST 1048576: true; the input reads as it did. -/
def oplogFindsUptoRow : OpenClaim := { program := "ytdmeijemfneafaa", sum := "a88fe44002679f65c1613b3d97f3bc388342fd495c0f217bb5c8a0e0862d534b", func := "amnesia/amnesialaw06.OplogFinds", spec := "oplogFinds", unfollowed := true, recurses := true, apart := false, narrowed := true }
def OplogFindsUptoSaid : Prop := oplogFindsUptoRow.holds Try.pinned (OpenSpec.upto oplogFindsSpec)

/-- 'amnesialaw06.OplogPlace', WHERE WHAT IT READS IS OF BULK AT MOST 1048576: true; the input reads as it did. -/
def oplogPlaceUptoRow : OpenClaim := { program := "ytdmeijemfneafaa", sum := "a88fe44002679f65c1613b3d97f3bc388342fd495c0f217bb5c8a0e0862d534b", func := "amnesia/amnesialaw06.OplogPlace", spec := "oplogPlace", unfollowed := true, recurses := true, apart := false, narrowed := true }
def OplogPlaceUptoSaid : Prop := oplogPlaceUptoRow.holds Try.pinned (OpenSpec.upto oplogPlaceSpec)

/-- 'amnesialaw06.OplogWhole', WHERE WHAT IT READS IS OF BULK AT MOST 1048576: true; the input reads as it did. -/
def oplogWholeUptoRow : OpenClaim := { program := "ytdmeijemfneafaa", sum := "a88fe44002679f65c1613b3d97f3bc388342fd495c0f217bb5c8a0e0862d534b", func := "amnesia/amnesialaw06.OplogWhole", spec := "oplogWhole", unfollowed := true, recurses := true, apart := false, narrowed := true }
def OplogWholeUptoSaid : Prop := oplogWholeUptoRow.holds Try.pinned (OpenSpec.upto oplogWholeSpec)

/-- 'amnesialaw06.OplogReplays', WHERE WHAT IT READS IS OF BULK AT MOST 1048576: true; the input reads as it did. -/
def oplogReplaysUptoRow : OpenClaim := { program := "ytdmeijemfneafaa", sum := "a88fe44002679f65c1613b3d97f3bc388342fd495c0f217bb5c8a0e0862d534b", func := "amnesia/amnesialaw06.OplogReplays", spec := "oplogReplays", unfollowed := true, recurses := true, apart := false, narrowed := true }
def OplogReplaysUptoSaid : Prop := oplogReplaysUptoRow.holds Try.pinned (OpenSpec.upto oplogReplaysSpec)

/-- 'amnesialaw06.OplogPlays', WHERE WHAT IT READS IS OF BULK AT MOST 1048576: true; the input reads as it did. -/
def oplogPlaysUptoRow : OpenClaim := { program := "ytdmeijemfneafaa", sum := "a88fe44002679f65c1613b3d97f3bc388342fd495c0f217bb5c8a0e0862d534b", func := "amnesia/amnesialaw06.OplogPlays", spec := "oplogPlays", unfollowed := true, recurses := true, apart := false, narrowed := true }
def OplogPlaysUptoSaid : Prop := oplogPlaysUptoRow.holds Try.pinned (OpenSpec.upto oplogPlaysSpec)

/-- 'amnesialaw06.OplogOwn', WHERE WHAT IT READS IS OF BULK AT MOST 1048576: true; the input reads as it did. -/
def oplogOwnUptoRow : OpenClaim := { program := "ytdmeijemfneafaa", sum := "a88fe44002679f65c1613b3d97f3bc388342fd495c0f217bb5c8a0e0862d534b", func := "amnesia/amnesialaw06.OplogOwn", spec := "oplogOwn", unfollowed := true, recurses := true, apart := false, narrowed := true }
def OplogOwnUptoSaid : Prop := oplogOwnUptoRow.holds Try.pinned (OpenSpec.upto oplogOwnSpec)

end Rows
end Go.Proofs.Ytdmeijemfneafaa
