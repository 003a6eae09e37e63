/- Rows of operations, cells, raw entries; a raw entry as a law's argument. Conditions: none. -/
import Derived.Test.YtnfilklgogaheaaOpen2
namespace Go.Proofs.Ytnfilklgogaheaa
open Go.ChangeShapes Go.WideShapes Go.ChangeAt Go.RowKit Go.Deep
set_option linter.unusedVariables false
set_option linter.unusedSimpArgs false
theorem rowOp : RowT Try.prog 104 30 3 32 := RowT.of (z := .agg #[.int .i64 0, .int .i64 0, .string ⟨#[]⟩]) Try.underlying104 (by kernel_rfl) rfl (by omega)
theorem rowCell : RowT Try.prog 41 56 2 24 := RowT.of (z := .agg #[.int .i64 0, .string ⟨#[]⟩]) Try.underlying41 (by kernel_rfl) rfl (by omega)
theorem rowRes : RowT Try.prog 42 58 3 32 := RowT.of (z := .agg #[.int .i64 0, .int .i64 0, .string ⟨#[]⟩]) Try.underlying42 (by kernel_rfl) rfl (by omega)
structure Raw where
  client : Int
  up : Int
  op : Op
def Raw.cells (r : Raw) : List Value := [.int .i64 r.client, .int .i64 r.up, .int .i64 r.op.kind, .int .i64 r.op.slot, .string r.op.value]
structure Raw.wf (e : Raw) : Prop where
  client : I64 e.client
  up : I64 e.up
  op : e.op.wf
theorem encRaw : Enc Raw.cells 5 := ⟨fun _ => rfl, fun x u hu => by simp [Raw.cells] at hu; rcases hu with rfl | rfl | rfl | rfl | rfl <;> rfl⟩
theorem rowRaw : RowT Try.prog 51 125 5 48 := RowT.of (z := .agg #[.int .i64 0, .int .i64 0, .int .i64 0, .int .i64 0, .string ⟨#[]⟩]) Try.underlying51 (by kernel_rfl) rfl (by omega)
set_option maxRecDepth 100000 in
theorem trod_raw {H : Type} {enc : TypeId × Value → H} {w : World} {base : Nat} {spare : Nat → Bool} {held : Bool} {fuel : Nat} {cs : List Value} {x : DataW H × List MemPlace}
    (h : DataW.trod enc Try.prog w base spare held fuel 125 cs = some x) : ∃ e : Raw, cs = e.cells ∧ e.wf := by
  obtain ⟨xs, n, _, _, hl, hxl, hf⟩ := DataW.trod_struct Try.underlying125 h
  have hl5 : cs.length = 5 := hl.trans (by kernel_rfl)
  match cs, hl5 with
  | [a, b, c, d, e], _ =>
    match xs, hxl with
    | [x0, x1, x2], _ =>
      have c3 : Try.prog.cellsOf 3 = 1 := by kernel_rfl
      have c9 : Try.prog.cellsOf 30 = 3 := by kernel_rfl
      have h0 := hf 0 _ rfl
      have h1 := hf 1 _ rfl
      have h2 := hf 2 _ rfl
      simp [c3, c9] at h0 h1 h2
      obtain ⟨k, e0, _, w0⟩ := DataW.trod_int Try.underlying3 h0
      obtain ⟨s, e1, _, w1⟩ := DataW.trod_int Try.underlying3 h1
      obtain ⟨o, e2, w2⟩ := trod_op h2
      simp at e0 e1
      exact ⟨⟨k, s, o⟩, by rw [e0, e1, e2]; rfl, bounds_i64 w0, bounds_i64 w1, w2⟩
end Go.Proofs.Ytnfilklgogaheaa
