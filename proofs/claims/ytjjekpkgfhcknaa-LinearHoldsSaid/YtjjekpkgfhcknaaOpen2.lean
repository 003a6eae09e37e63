/- An operation as a law's argument, opened. Conditions: none. -/
import Derived.Test.YtjjekpkgfhcknaaOpen
namespace Go.Proofs.Ytjjekpkgfhcknaa
open Go.ChangeShapes Go.WideShapes Go.ChangeAt Go.RowKit Go.Deep
set_option linter.unusedVariables false
set_option linter.unusedSimpArgs false
set_option maxRecDepth 100000 in
theorem open_op {H : Type} {en : TypeId × Value → H} {W : World} {v : Value} {d : DataW H} {p : List MemPlace} {base : Nat} {r : Reach}
    (hv : Value.okWide Try.prog W r base 24 v) (h : DataW.Trod en Try.prog W 0 (fun _ => true) true 24 v d p) : ∃ o : Op, v = .agg #[.int .i64 o.kind, .int .i64 o.slot, .string o.value] ∧ o.wf := by
  obtain ⟨cs, rfl, hsz⟩ := okWide_struct Try.underlying24 hv
  obtain ⟨fuel, hf⟩ := h
  obtain ⟨o, ho, hw⟩ := trod_op hf
  refine ⟨o, ?_, hw⟩
  have : cs.toList = o.cells := ho
  rw [show cs = #[.int .i64 o.kind, .int .i64 o.slot, .string o.value] from Array.toList_inj.1 this]
set_option maxRecDepth 100000 in
theorem open_entry {H : Type} {en : TypeId × Value → H} {W : World} {v : Value} {d : DataW H} {p : List MemPlace} {base : Nat} {r : Reach}
    (hv : Value.okWide Try.prog W r base 99 v) (h : DataW.Trod en Try.prog W 0 (fun _ => true) true 99 v d p) : ∃ o : Entry, v = .agg #[.int .i64 o.client, .int .i64 o.number, .int .i64 o.op.kind, .int .i64 o.op.slot, .string o.op.value] ∧ o.wf := by
  obtain ⟨cs, rfl, hsz⟩ := okWide_struct Try.underlying99 hv
  obtain ⟨fuel, hf⟩ := h
  obtain ⟨o, ho, hw⟩ := trod_entry hf
  refine ⟨o, ?_, hw⟩
  have : cs.toList = o.cells := ho
  rw [show cs = #[.int .i64 o.client, .int .i64 o.number, .int .i64 o.op.kind, .int .i64 o.op.slot, .string o.op.value] from Array.toList_inj.1 this]
end Go.Proofs.Ytjjekpkgfhcknaa
