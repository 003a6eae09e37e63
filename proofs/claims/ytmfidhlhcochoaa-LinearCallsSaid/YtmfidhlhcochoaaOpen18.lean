/- Calls, and lists of numbers, as a law's arguments, opened. Conditions: none. -/
import Derived.Test.YtmfidhlhcochoaaOpen3
import Derived.Test.YtmfidhlhcochoaaLinM1
namespace Go.Proofs.Ytmfidhlhcochoaa
open Go.ChangeShapes Go.WideShapes Go.ChangeAt Go.RowKit Go.Deep
set_option linter.unusedVariables false
set_option linter.unusedSimpArgs false
structure Res.wf (r : Res) : Prop where
  code : I64 r.code
  slot : I64 r.slot
  value : r.value.size ≤ 9223372036854775807
structure Call.wf (x : Call) : Prop where
  client : I64 x.client
  number : I64 x.number
  op : x.op.wf
  beg : I64 x.beg
  fin : I64 x.fin
  res : x.res.wf
section
variable {H : Type} {enc : TypeId × Value → H} {w : World} {base : Nat} {spare : Nat → Bool} {held : Bool} {fuel : Nat} {cs : List Value} {x : DataW H × List MemPlace}
set_option maxRecDepth 100000 in
theorem trod_res (h : DataW.trod enc Try.prog w base spare held fuel 40 cs = some x) : ∃ o : Res, cs = o.cells ∧ o.wf := by
  obtain ⟨xs, n, _, _, hl, hxl, hf⟩ := DataW.trod_struct Try.underlying40 h
  have hl3 : cs.length = 3 := hl.trans (by kernel_rfl)
  match cs, hl3 with
  | [a, b, c], _ =>
    match xs, hxl with
    | [x0, x1, x2], _ =>
      have c3 : Try.prog.cellsOf 3 = 1 := by kernel_rfl
      have c9 : Try.prog.cellsOf 9 = 1 := by kernel_rfl
      have h0 := hf 0 _ rfl
      have h1 := hf 1 _ rfl
      have h2 := hf 2 _ rfl
      simp [c3, c9] at h0 h1 h2
      obtain ⟨k, e0, _, w0⟩ := DataW.trod_int Try.underlying3 h0
      obtain ⟨s, e1, _, w1⟩ := DataW.trod_int Try.underlying3 h1
      obtain ⟨v, e2, _, w2⟩ := DataW.trod_string Try.underlying9 h2
      simp at e0 e1 e2
      exact ⟨⟨k, s, v⟩, by rw [e0, e1, e2]; rfl, bounds_i64 w0, bounds_i64 w1, lenLe w2⟩
set_option maxRecDepth 100000 in
theorem trod_call (h : DataW.trod enc Try.prog w base spare held fuel 45 cs = some x) : ∃ e : Call, cs = e.cells ∧ e.wf := by
  obtain ⟨xs, n, _, _, hl, hxl, hf⟩ := DataW.trod_struct Try.underlying45 h
  have hl5 : cs.length = 10 := hl.trans (by kernel_rfl)
  match cs, hl5 with
  | [a, b, c, d, e, f, g, i, j, k], _ =>
    match xs, hxl with
    | [x0, x1, x2, x3, x4, x5], _ =>
      have c3 : Try.prog.cellsOf 3 = 1 := by kernel_rfl
      have c9 : Try.prog.cellsOf 38 = 3 := by kernel_rfl
      have c8 : Try.prog.cellsOf 40 = 3 := by kernel_rfl
      have h0 := hf 0 _ rfl
      have h1 := hf 1 _ rfl
      have h2 := hf 2 _ rfl
      have h3 := hf 3 _ rfl
      have h4 := hf 4 _ rfl
      have h5 := hf 5 _ rfl
      simp [c3, c8, c9] at h0 h1 h2 h3 h4 h5
      obtain ⟨v0, e0, _, w0⟩ := DataW.trod_int Try.underlying3 h0
      obtain ⟨v1, e1, _, w1⟩ := DataW.trod_int Try.underlying3 h1
      obtain ⟨o, e2, w2⟩ := trod_op h2
      obtain ⟨v3, e3, _, w3⟩ := DataW.trod_int Try.underlying3 h3
      obtain ⟨v4, e4, _, w4⟩ := DataW.trod_int Try.underlying3 h4
      obtain ⟨r, e5, w5⟩ := trod_res h5
      simp [Op.cells] at e2
      simp [Res.cells] at e5
      simp at e0 e1 e3 e4
      obtain ⟨q0, q1, q2⟩ := e2
      obtain ⟨p0, p1, p2⟩ := e5
      exact ⟨⟨v0, v1, o, v3, v4, r⟩, by rw [e0, e1, q0, q1, q2, e3, e4, p0, p1, p2]; rfl, bounds_i64 w0, bounds_i64 w1, w2, bounds_i64 w3, bounds_i64 w4, w5⟩
end
set_option maxRecDepth 100000 in
theorem open_call {H : Type} {en : TypeId × Value → H} {W : World} {v : Value} {d : DataW H} {p : List MemPlace} {base : Nat} {r : Reach}
    (hv : Value.okWide Try.prog W r base 45 v) (h : DataW.Trod en Try.prog W 0 (fun _ => true) true 45 v d p) : ∃ x : Call, v = .agg #[.int .i64 x.client, .int .i64 x.number, .int .i64 x.op.kind, .int .i64 x.op.slot, .string x.op.value, .int .i64 x.beg, .int .i64 x.fin, .int .i64 x.res.code, .int .i64 x.res.slot, .string x.res.value] ∧ x.wf := by
  obtain ⟨cs, rfl, hsz⟩ := okWide_struct Try.underlying45 hv
  obtain ⟨fuel, hf⟩ := h
  obtain ⟨x, ho, hw⟩ := trod_call hf
  refine ⟨x, ?_, hw⟩
  have : cs.toList = x.cells := ho
  rw [show cs = #[.int .i64 x.client, .int .i64 x.number, .int .i64 x.op.kind, .int .i64 x.op.slot, .string x.op.value, .int .i64 x.beg, .int .i64 x.fin, .int .i64 x.res.code, .int .i64 x.res.slot, .string x.res.value] from Array.toList_inj.1 this]
theorem rdL : Rdb 22 := ⟨by kernel_rfl, of_decide_eq_true (by kernel_rfl)⟩
theorem rdc : Rdb 45 := ⟨by kernel_rfl, of_decide_eq_true (by kernel_rfl)⟩
end Go.Proofs.Ytmfidhlhcochoaa
