/- Calls of a history: plain data, '==' of two calls. Conditions: none. -/
import Derived.Test.YtjjekpkgfhcknaaLinPlain
import Derived.Test.YtjjekpkgfhcknaaEq
import Derived.Test.YtjjekpkgfhcknaaApp
import Derived.Deep.QuietTactic
import Derived.BigQuiet
import Derived.Deep.LoopGhost
namespace Go.Proofs.Ytjjekpkgfhcknaa
open Go.RowKit
set_option linter.unusedVariables false
set_option linter.unusedSimpArgs false

theorem encCall : Enc Call.cells 10 := ⟨fun _ => rfl, fun x u hu => by simp [Call.cells] at hu; rcases hu with rfl | rfl | rfl | rfl | rfl | rfl | rfl | rfl | rfl | rfl <;> rfl⟩
theorem rowCall : RowT Try.prog 22 28 10 96 := RowT.of (z := .agg #[.int .i64 0, .int .i64 0, .int .i64 0, .int .i64 0, .string ⟨#[]⟩, .int .i64 0, .int .i64 0, .int .i64 0, .int .i64 0, .string ⟨#[]⟩]) Try.underlying22 (by kernel_rfl) rfl (by omega)
def Call.v (x : Call) : Value := .agg #[.int .i64 x.client, .int .i64 x.number, .int .i64 x.op.kind, .int .i64 x.op.slot, .string x.op.value, .int .i64 x.beg, .int .i64 x.fin, .int .i64 x.res.code, .int .i64 x.res.slot, .string x.res.value]
theorem equalIn_call (d : Nat) (w : World) (x y : Call) : (Op.equalIn (d + 3) 28 (.agg #[.int .i64 x.client, .int .i64 x.number, .int .i64 x.op.kind, .int .i64 x.op.slot, .string x.op.value, .int .i64 x.beg, .int .i64 x.fin, .int .i64 x.res.code, .int .i64 x.res.slot, .string x.res.value]) (.agg #[.int .i64 y.client, .int .i64 y.number, .int .i64 y.op.kind, .int .i64 y.op.slot, .string y.op.value, .int .i64 y.beg, .int .i64 y.fin, .int .i64 y.res.code, .int .i64 y.res.slot, .string y.res.value])).run Try.prog w = .ok (decide (x = y)) w := by
  have e : decide (x = y) = (x.client == y.client && (x.number == y.number && (decide (x.op = y.op) && (x.beg == y.beg && (x.fin == y.fin && decide (x.res = y.res)))))) := by
    rw [Bool.eq_iff_iff]
    cases x; cases y; simp
  rw [e]
  refine eqA_of Try.underlying28 (by kernel_rfl) ?_
  refine eqf_cons (by rfl) (by go_simp; rfl) (by go_simp; rfl) (by go_simp) ?_
  refine eqf_cons (by rfl) (by go_simp; rfl) (by go_simp; rfl) (by go_simp) ?_
  refine eqf_cons (by rfl) (by go_simp) (by go_simp) (equalIn_op d w x.op y.op) ?_
  refine eqf_cons (by rfl) (by go_simp; rfl) (by go_simp; rfl) (by go_simp) ?_
  refine eqf_cons (by rfl) (by go_simp; rfl) (by go_simp; rfl) (by go_simp) ?_
  exact eqf_last (by rfl) (by go_simp) (by go_simp) (equalIn_res d w x.res y.res)
theorem guard_call : Try.prog.eqGuardType Try.prog.depth 28 = false := by kernel_rfl
theorem neq_call (x y : Call) (w : World) : (binOp .neq 28 (.agg #[.int .i64 x.client, .int .i64 x.number, .int .i64 x.op.kind, .int .i64 x.op.slot, .string x.op.value, .int .i64 x.beg, .int .i64 x.fin, .int .i64 x.res.code, .int .i64 x.res.slot, .string x.res.value]) (.agg #[.int .i64 y.client, .int .i64 y.number, .int .i64 y.op.kind, .int .i64 y.op.slot, .string y.op.value, .int .i64 y.beg, .int .i64 y.fin, .int .i64 y.res.code, .int .i64 y.res.slot, .string y.res.value])).run Try.prog w = .ok (.bool (!decide (x = y))) w := by
  rw [run_neq_struct, equalIn_call 9997]; rfl
structure CallAt (w : World) (p : Addr) (r : Call) : Prop where
  c0 : w.cell? p = some (.int .i64 r.client)
  c1 : w.cell? ⟨p.block, p.off + 1, none⟩ = some (.int .i64 r.number)
  c2 : w.cell? ⟨p.block, p.off + 2, none⟩ = some (.int .i64 r.op.kind)
  c3 : w.cell? ⟨p.block, p.off + 3, none⟩ = some (.int .i64 r.op.slot)
  c4 : w.cell? ⟨p.block, p.off + 4, none⟩ = some (.string r.op.value)
  c5 : w.cell? ⟨p.block, p.off + 5, none⟩ = some (.int .i64 r.beg)
  c6 : w.cell? ⟨p.block, p.off + 6, none⟩ = some (.int .i64 r.fin)
  c7 : w.cell? ⟨p.block, p.off + 7, none⟩ = some (.int .i64 r.res.code)
  c8 : w.cell? ⟨p.block, p.off + 8, none⟩ = some (.int .i64 r.res.slot)
  c9 : w.cell? ⟨p.block, p.off + 9, none⟩ = some (.string r.res.value)
theorem At.call {w : World} {p : Addr} {r : Call} (h : At w p r.cells) : CallAt w p r :=
  ⟨h 0 _ rfl, h 1 _ rfl, h 2 _ rfl, h 3 _ rfl, h 4 _ rfl, h 5 _ rfl, h 6 _ rfl, h 7 _ rfl, h 8 _ rfl, h 9 _ rfl⟩
end Go.Proofs.Ytjjekpkgfhcknaa
