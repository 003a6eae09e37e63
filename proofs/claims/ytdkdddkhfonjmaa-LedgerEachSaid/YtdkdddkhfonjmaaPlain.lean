/- amnesiaplain: copies and comparisons of entries. Conditions: lengths within Go's own limits. -/
import Derived.Test.YtdkdddkhfonjmaaEq
import Derived.Test.YtdkdddkhfonjmaaApp
import Derived.Deep.QuietTactic
import Derived.BigQuiet
import Derived.Deep.LoopGhost
namespace Go.Proofs.Ytdkdddkhfonjmaa
open Go.RowKit
set_option linter.unusedVariables false
set_option linter.unusedSimpArgs false

theorem rowEntry : RowT Try.prog 88 90 5 48 := RowT.of (z := .agg #[.int .i64 0, .int .i64 0, .int .i64 0, .int .i64 0, .string ⟨#[]⟩]) Try.underlying88 (by kernel_rfl) rfl (by omega)
theorem rowEntries : RowT Try.prog 42 88 1 24 := RowT.of (z := .slice none 0 0) Try.underlying42 (by kernel_rfl) rfl (by omega)

end Go.Proofs.Ytdkdddkhfonjmaa
