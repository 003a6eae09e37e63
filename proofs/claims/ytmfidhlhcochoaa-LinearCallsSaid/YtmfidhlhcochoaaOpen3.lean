/- Rows of operations, cells, raw entries; a raw entry as a law's argument. Conditions: none. -/
import Derived.Test.YtmfidhlhcochoaaOpen2
namespace Go.Proofs.Ytmfidhlhcochoaa
open Go.ChangeShapes Go.WideShapes Go.ChangeAt Go.RowKit Go.Deep
set_option linter.unusedVariables false
set_option linter.unusedSimpArgs false
theorem rowCell : RowT Try.prog 35 107 2 24 := RowT.of (z := .agg #[.int .i64 0, .string ⟨#[]⟩]) Try.underlying35 (by kernel_rfl) rfl (by omega)
theorem rowRes : RowT Try.prog 165 40 3 32 := RowT.of (z := .agg #[.int .i64 0, .int .i64 0, .string ⟨#[]⟩]) Try.underlying165 (by kernel_rfl) rfl (by omega)
structure Raw where
  client : Int
  up : Int
  op : Op
def Raw.cells (r : Raw) : List Value := [.int .i64 r.client, .int .i64 r.up, .int .i64 r.op.kind, .int .i64 r.op.slot, .string r.op.value]
structure Raw.wf (e : Raw) : Prop where
  client : I64 e.client
  up : I64 e.up
  op : e.op.wf
theorem encRaw : Enc Raw.cells 5 := ⟨fun _ => rfl, fun x u hu => by simp [Raw.cells] at hu; rcases hu with rfl | rfl | rfl | rfl | rfl <;> rfl⟩
end Go.Proofs.Ytmfidhlhcochoaa
