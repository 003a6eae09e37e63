/- Steps as a law's argument, opened. Conditions: none. -/
import Derived.Test.YtmfidhlhcochoaaOpen18
import Derived.Test.YtmfidhlhcochoaaOneSt18
namespace Go.Proofs.Ytmfidhlhcochoaa
open Go.ChangeShapes Go.WideShapes Go.ChangeAt Go.RowKit Go.Deep
set_option linter.unusedVariables false
set_option linter.unusedSimpArgs false
structure Step.wf (x : Step) : Prop where
  op : x.op.wf
  wait : I64 x.wait
  last : I64 x.last
  res : x.res.wf
set_option maxRecDepth 100000 in
theorem trod_step {H : Type} {enc : TypeId × Value → H} {w : World} {base : Nat} {spare : Nat → Bool} {held : Bool} {fuel : Nat} {cs : List Value} {x : DataW H × List MemPlace} (h : DataW.trod enc Try.prog w base spare held fuel 42 cs = some x) : ∃ e : Step, cs = e.cells ∧ e.wf := by
  obtain ⟨xs, n, _, _, hl, hxl, hf⟩ := DataW.trod_struct Try.underlying42 h
  have hl5 : cs.length = 9 := hl.trans (by kernel_rfl)
  match cs, hl5 with
  | [a, b, c, d, e, f, g, i, j], _ =>
    match xs, hxl with
    | [x0, x1, x2, x3, x4], _ =>
      have c3 : Try.prog.cellsOf 3 = 1 := by kernel_rfl
      have c4 : Try.prog.cellsOf 4 = 1 := by kernel_rfl
      have c9 : Try.prog.cellsOf 38 = 3 := by kernel_rfl
      have c8 : Try.prog.cellsOf 40 = 3 := by kernel_rfl
      have h0 := hf 0 _ rfl
      have h1 := hf 1 _ rfl
      have h2 := hf 2 _ rfl
      have h3 := hf 3 _ rfl
      have h4 := hf 4 _ rfl
      simp [c3, c4, c8, c9] at h0 h1 h2 h3 h4
      obtain ⟨o, e0, w0⟩ := trod_op h0
      obtain ⟨v1, e1, _, w1⟩ := DataW.trod_int Try.underlying3 h1
      obtain ⟨v2, e2, _, w2⟩ := DataW.trod_int Try.underlying3 h2
      obtain ⟨v3, e3, _⟩ := DataW.trod_bool Try.underlying4 h3
      obtain ⟨r, e4, w4⟩ := trod_res h4
      simp [Op.cells] at e0
      simp [Res.cells] at e4
      simp at e1 e2 e3
      obtain ⟨q0, q1, q2⟩ := e0
      obtain ⟨p0, p1, p2⟩ := e4
      exact ⟨⟨o, v1, v2, v3, r⟩, by rw [q0, q1, q2, e1, e2, e3, p0, p1, p2]; rfl, w0, bounds_i64 w1, bounds_i64 w2, w4⟩
theorem rowStep : RowT Try.prog 34 42 9 88 := RowT.of (z := .agg #[.int .i64 0, .int .i64 0, .string ⟨#[]⟩, .int .i64 0, .int .i64 0, .bool false, .int .i64 0, .int .i64 0, .string ⟨#[]⟩]) Try.underlying34 (by kernel_rfl) rfl (by omega)
theorem rdS : Rdb 34 := ⟨by kernel_rfl, of_decide_eq_true (by kernel_rfl)⟩
end Go.Proofs.Ytmfidhlhcochoaa
