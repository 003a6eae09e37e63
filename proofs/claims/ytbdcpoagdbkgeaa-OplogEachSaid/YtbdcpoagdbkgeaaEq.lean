/- '==' of two operations, entries, cells, results of the program, as one test. Conditions: none. -/
import Derived.Test.YtbdcpoagdbkgeaaProg
import Derived.Test.YtbdcpoagdbkgeaaMem
import Derived.KernelRfl
namespace Go.Proofs.Ytbdcpoagdbkgeaa
open Go.RowKit
set_option linter.unusedVariables false
set_option linter.unusedSimpArgs false

theorem equalIn_op (d : Nat) (w : World) (x y : Op) : (Op.equalIn (d + 2) 30 (.agg #[.int .i64 x.kind, .int .i64 x.slot, .string x.value]) (.agg #[.int .i64 y.kind, .int .i64 y.slot, .string y.value])).run Try.prog w = .ok (decide (x = y)) w := by
  have e : decide (x = y) = (x.kind == y.kind && (x.slot == y.slot && (x.value.toList == y.value.toList))) := by
    rw [beq_bytes, Bool.eq_iff_iff]
    cases x; cases y; simp
  rw [e]
  refine eqA_of Try.underlying30 (by kernel_rfl) ?_
  refine eqf_cons (by rfl) (by go_simp; rfl) (by go_simp; rfl) (by go_simp) ?_
  refine eqf_cons (by rfl) (by go_simp; rfl) (by go_simp; rfl) (by go_simp) ?_
  exact eqf_last (by rfl) (by go_simp; rfl) (by go_simp; rfl) (by go_simp)
theorem equalIn_entry (d : Nat) (w : World) (x y : Entry) : (Op.equalIn (d + 3) 32 (.agg #[.int .i64 x.client, .int .i64 x.number, .int .i64 x.op.kind, .int .i64 x.op.slot, .string x.op.value]) (.agg #[.int .i64 y.client, .int .i64 y.number, .int .i64 y.op.kind, .int .i64 y.op.slot, .string y.op.value])).run Try.prog w = .ok (decide (x = y)) w := by
  have e : decide (x = y) = (x.client == y.client && (x.number == y.number && decide (x.op = y.op))) := by
    rw [Bool.eq_iff_iff]
    cases x; cases y; simp
  rw [e]
  refine eqA_of Try.underlying32 (by kernel_rfl) ?_
  refine eqf_cons (by rfl) (by go_simp; rfl) (by go_simp; rfl) (by go_simp) ?_
  refine eqf_cons (by rfl) (by go_simp; rfl) (by go_simp; rfl) (by go_simp) ?_
  exact eqf_last (by rfl) (by go_simp) (by go_simp) (equalIn_op d w x.op y.op)
theorem guard_op : Try.prog.eqGuardType Try.prog.depth 30 = false := by kernel_rfl
theorem guard_entry : Try.prog.eqGuardType Try.prog.depth 32 = false := by kernel_rfl
/-- The tests as equations on the operation's run. -/
theorem eql_op (x y : Op) (w : World) : (binOp .eql 30 (.agg #[.int .i64 x.kind, .int .i64 x.slot, .string x.value]) (.agg #[.int .i64 y.kind, .int .i64 y.slot, .string y.value])).run Try.prog w = .ok (.bool (decide (x = y))) w := by
  rw [run_eql_struct, equalIn_op 9998]; rfl
theorem neq_op (x y : Op) (w : World) : (binOp .neq 30 (.agg #[.int .i64 x.kind, .int .i64 x.slot, .string x.value]) (.agg #[.int .i64 y.kind, .int .i64 y.slot, .string y.value])).run Try.prog w = .ok (.bool (!decide (x = y))) w := by
  rw [run_neq_struct, equalIn_op 9998]; rfl
theorem eql_entry (x y : Entry) (w : World) : (binOp .eql 32 (.agg #[.int .i64 x.client, .int .i64 x.number, .int .i64 x.op.kind, .int .i64 x.op.slot, .string x.op.value]) (.agg #[.int .i64 y.client, .int .i64 y.number, .int .i64 y.op.kind, .int .i64 y.op.slot, .string y.op.value])).run Try.prog w = .ok (.bool (decide (x = y))) w := by
  rw [run_eql_struct, equalIn_entry 9997]; rfl
theorem neq_entry (x y : Entry) (w : World) : (binOp .neq 32 (.agg #[.int .i64 x.client, .int .i64 x.number, .int .i64 x.op.kind, .int .i64 x.op.slot, .string x.op.value]) (.agg #[.int .i64 y.client, .int .i64 y.number, .int .i64 y.op.kind, .int .i64 y.op.slot, .string y.op.value])).run Try.prog w = .ok (.bool (!decide (x = y))) w := by
  rw [run_neq_struct, equalIn_entry 9997]; rfl
end Go.Proofs.Ytbdcpoagdbkgeaa
