/- An operation as a law's argument, opened. Conditions: none. -/
import Derived.Test.YtmfidhlhcochoaaOpen
namespace Go.Proofs.Ytmfidhlhcochoaa
open Go.ChangeShapes Go.WideShapes Go.ChangeAt Go.RowKit Go.Deep
set_option linter.unusedVariables false
set_option linter.unusedSimpArgs false
set_option maxRecDepth 100000 in
theorem open_op {H : Type} {en : TypeId × Value → H} {W : World} {v : Value} {d : DataW H} {p : List MemPlace} {base : Nat} {r : Reach}
    (hv : Value.okWide Try.prog W r base 38 v) (h : DataW.Trod en Try.prog W 0 (fun _ => true) true 38 v d p) : ∃ o : Op, v = .agg #[.int .i64 o.kind, .int .i64 o.slot, .string o.value] ∧ o.wf := by
  obtain ⟨cs, rfl, hsz⟩ := okWide_struct Try.underlying38 hv
  obtain ⟨fuel, hf⟩ := h
  obtain ⟨o, ho, hw⟩ := trod_op hf
  refine ⟨o, ?_, hw⟩
  have : cs.toList = o.cells := ho
  rw [show cs = #[.int .i64 o.kind, .int .i64 o.slot, .string o.value] from Array.toList_inj.1 this]
set_option maxRecDepth 100000 in
theorem open_entry {H : Type} {en : TypeId × Value → H} {W : World} {v : Value} {d : DataW H} {p : List MemPlace} {base : Nat} {r : Reach}
    (hv : Value.okWide Try.prog W r base 119 v) (h : DataW.Trod en Try.prog W 0 (fun _ => true) true 119 v d p) : ∃ o : Entry, v = .agg #[.int .i64 o.client, .int .i64 o.number, .int .i64 o.op.kind, .int .i64 o.op.slot, .string o.op.value] ∧ o.wf := by
  obtain ⟨cs, rfl, hsz⟩ := okWide_struct Try.underlying119 hv
  obtain ⟨fuel, hf⟩ := h
  obtain ⟨o, ho, hw⟩ := trod_entry hf
  refine ⟨o, ?_, hw⟩
  have : cs.toList = o.cells := ho
  rw [show cs = #[.int .i64 o.client, .int .i64 o.number, .int .i64 o.op.kind, .int .i64 o.op.slot, .string o.op.value] from Array.toList_inj.1 this]
end Go.Proofs.Ytmfidhlhcochoaa
