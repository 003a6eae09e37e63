/- The reference's Check. Conditions: sizes within Go's own limits. -/
import Derived.Test.YtbdcpoagdbkgeaaEntryRef
import Derived.StillTailTactics
namespace Go.Proofs.Ytbdcpoagdbkgeaa
open Go.RowKit
set_option linter.unusedVariables false
set_option linter.unusedSimpArgs false

theorem below_drew {B : Nat} {a w : World} (h : Below B a w) : Below B a w.drew := ⟨h.os, h.tape, h.output, h.size, h.block⟩
end Go.Proofs.Ytbdcpoagdbkgeaa
