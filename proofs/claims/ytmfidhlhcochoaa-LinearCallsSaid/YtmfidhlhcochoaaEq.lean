/- '==' of two operations, entries, cells, results of the program, as one test. Conditions: none. -/
import Derived.Test.YtmfidhlhcochoaaProg
import Derived.Test.YtmfidhlhcochoaaMem
import Derived.KernelRfl
namespace Go.Proofs.Ytmfidhlhcochoaa
open Go.RowKit
set_option linter.unusedVariables false
set_option linter.unusedSimpArgs false

theorem equalIn_op (d : Nat) (w : World) (x y : Op) : (Op.equalIn (d + 2) 38 (.agg #[.int .i64 x.kind, .int .i64 x.slot, .string x.value]) (.agg #[.int .i64 y.kind, .int .i64 y.slot, .string y.value])).run Try.prog w = .ok (decide (x = y)) w := by
  have e : decide (x = y) = (x.kind == y.kind && (x.slot == y.slot && (x.value.toList == y.value.toList))) := by
    rw [beq_bytes, Bool.eq_iff_iff]
    cases x; cases y; simp
  rw [e]
  refine eqA_of Try.underlying38 (by kernel_rfl) ?_
  refine eqf_cons (by rfl) (by go_simp; rfl) (by go_simp; rfl) (by go_simp) ?_
  refine eqf_cons (by rfl) (by go_simp; rfl) (by go_simp; rfl) (by go_simp) ?_
  exact eqf_last (by rfl) (by go_simp; rfl) (by go_simp; rfl) (by go_simp)
theorem equalIn_entry (d : Nat) (w : World) (x y : Entry) : (Op.equalIn (d + 3) 119 (.agg #[.int .i64 x.client, .int .i64 x.number, .int .i64 x.op.kind, .int .i64 x.op.slot, .string x.op.value]) (.agg #[.int .i64 y.client, .int .i64 y.number, .int .i64 y.op.kind, .int .i64 y.op.slot, .string y.op.value])).run Try.prog w = .ok (decide (x = y)) w := by
  have e : decide (x = y) = (x.client == y.client && (x.number == y.number && decide (x.op = y.op))) := by
    rw [Bool.eq_iff_iff]
    cases x; cases y; simp
  rw [e]
  refine eqA_of Try.underlying119 (by kernel_rfl) ?_
  refine eqf_cons (by rfl) (by go_simp; rfl) (by go_simp; rfl) (by go_simp) ?_
  refine eqf_cons (by rfl) (by go_simp; rfl) (by go_simp; rfl) (by go_simp) ?_
  exact eqf_last (by rfl) (by go_simp) (by go_simp) (equalIn_op d w x.op y.op)
theorem equalIn_cell (d : Nat) (w : World) (x y : Cell) : (Op.equalIn (d + 2) 107 (.agg #[.int .i64 x.slot, .string x.value]) (.agg #[.int .i64 y.slot, .string y.value])).run Try.prog w = .ok (decide (x = y)) w := by
  have e : decide (x = y) = (x.slot == y.slot && (x.value.toList == y.value.toList)) := by
    rw [beq_bytes, Bool.eq_iff_iff]
    cases x; cases y; simp
  rw [e]
  refine eqA_of Try.underlying107 (by kernel_rfl) ?_
  refine eqf_cons (by rfl) (by go_simp; rfl) (by go_simp; rfl) (by go_simp) ?_
  exact eqf_last (by rfl) (by go_simp; rfl) (by go_simp; rfl) (by go_simp)
theorem equalIn_res (d : Nat) (w : World) (x y : Res) : (Op.equalIn (d + 2) 40 (.agg #[.int .i64 x.code, .int .i64 x.slot, .string x.value]) (.agg #[.int .i64 y.code, .int .i64 y.slot, .string y.value])).run Try.prog w = .ok (decide (x = y)) w := by
  have e : decide (x = y) = (x.code == y.code && (x.slot == y.slot && (x.value.toList == y.value.toList))) := by
    rw [beq_bytes, Bool.eq_iff_iff]
    cases x; cases y; simp
  rw [e]
  refine eqA_of Try.underlying40 (by kernel_rfl) ?_
  refine eqf_cons (by rfl) (by go_simp; rfl) (by go_simp; rfl) (by go_simp) ?_
  refine eqf_cons (by rfl) (by go_simp; rfl) (by go_simp; rfl) (by go_simp) ?_
  exact eqf_last (by rfl) (by go_simp; rfl) (by go_simp; rfl) (by go_simp)

theorem guard_op : Try.prog.eqGuardType Try.prog.depth 38 = false := by kernel_rfl
theorem guard_entry : Try.prog.eqGuardType Try.prog.depth 119 = false := by kernel_rfl
theorem guard_cell : Try.prog.eqGuardType Try.prog.depth 107 = false := by kernel_rfl
theorem guard_res : Try.prog.eqGuardType Try.prog.depth 40 = false := by kernel_rfl

/-- The tests as equations on the operation's run. -/
theorem eql_op (x y : Op) (w : World) : (binOp .eql 38 (.agg #[.int .i64 x.kind, .int .i64 x.slot, .string x.value]) (.agg #[.int .i64 y.kind, .int .i64 y.slot, .string y.value])).run Try.prog w = .ok (.bool (decide (x = y))) w := by
  rw [run_eql_struct, equalIn_op 9998]; rfl
theorem neq_op (x y : Op) (w : World) : (binOp .neq 38 (.agg #[.int .i64 x.kind, .int .i64 x.slot, .string x.value]) (.agg #[.int .i64 y.kind, .int .i64 y.slot, .string y.value])).run Try.prog w = .ok (.bool (!decide (x = y))) w := by
  rw [run_neq_struct, equalIn_op 9998]; rfl
theorem eql_entry (x y : Entry) (w : World) : (binOp .eql 119 (.agg #[.int .i64 x.client, .int .i64 x.number, .int .i64 x.op.kind, .int .i64 x.op.slot, .string x.op.value]) (.agg #[.int .i64 y.client, .int .i64 y.number, .int .i64 y.op.kind, .int .i64 y.op.slot, .string y.op.value])).run Try.prog w = .ok (.bool (decide (x = y))) w := by
  rw [run_eql_struct, equalIn_entry 9997]; rfl
theorem neq_entry (x y : Entry) (w : World) : (binOp .neq 119 (.agg #[.int .i64 x.client, .int .i64 x.number, .int .i64 x.op.kind, .int .i64 x.op.slot, .string x.op.value]) (.agg #[.int .i64 y.client, .int .i64 y.number, .int .i64 y.op.kind, .int .i64 y.op.slot, .string y.op.value])).run Try.prog w = .ok (.bool (!decide (x = y))) w := by
  rw [run_neq_struct, equalIn_entry 9997]; rfl
theorem eql_cell (x y : Cell) (w : World) : (binOp .eql 107 (.agg #[.int .i64 x.slot, .string x.value]) (.agg #[.int .i64 y.slot, .string y.value])).run Try.prog w = .ok (.bool (decide (x = y))) w := by
  rw [run_eql_struct, equalIn_cell 9998]; rfl
theorem neq_cell (x y : Cell) (w : World) : (binOp .neq 107 (.agg #[.int .i64 x.slot, .string x.value]) (.agg #[.int .i64 y.slot, .string y.value])).run Try.prog w = .ok (.bool (!decide (x = y))) w := by
  rw [run_neq_struct, equalIn_cell 9998]; rfl
theorem eql_res (x y : Res) (w : World) : (binOp .eql 40 (.agg #[.int .i64 x.code, .int .i64 x.slot, .string x.value]) (.agg #[.int .i64 y.code, .int .i64 y.slot, .string y.value])).run Try.prog w = .ok (.bool (decide (x = y))) w := by
  rw [run_eql_struct, equalIn_res 9998]; rfl
theorem neq_res (x y : Res) (w : World) : (binOp .neq 40 (.agg #[.int .i64 x.code, .int .i64 x.slot, .string x.value]) (.agg #[.int .i64 y.code, .int .i64 y.slot, .string y.value])).run Try.prog w = .ok (.bool (!decide (x = y))) w := by
  rw [run_neq_struct, equalIn_res 9998]; rfl
end Go.Proofs.Ytmfidhlhcochoaa
