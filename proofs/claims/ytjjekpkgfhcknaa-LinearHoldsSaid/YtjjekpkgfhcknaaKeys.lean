/- The keys of linear's maps. Conditions: none. -/
import Derived.Test.YtjjekpkgfhcknaaMapK
import Derived.Test.YtjjekpkgfhcknaaEq
namespace Go.Proofs.Ytjjekpkgfhcknaa
open Go.RowKit
set_option linter.unusedVariables false
set_option linter.unusedSimpArgs false

theorem zeroI (w : World) : (zeroValue 3).run Try.prog w = .ok (.int .i64 0) w := by kernel_rfl
theorem beq_self_bytes (b : ByteArray) : (b == b) = true := by
  obtain ⟨x⟩ := b
  show ByteArray.beq _ _ = true
  simp [ByteArray.beq]
def ekReq (k : Int × Int) : Value := .agg #[.int .i64 k.1, .int .i64 k.2]
def ekTried (k : Int × ByteArray) : Value := .agg #[.int .i64 k.1, .string k.2]
def evInt (n : Int) : Value := .int .i64 n

theorem checkKey_int (em : Bool) (n : Nat) (v : Int) (w : World) : (Instr.checkKey em (n + 1) 3 (.int .i64 v)).run Try.prog w = .ok () w := by
  unfold Instr.checkKey
  simp only [Sem.run_bind, run_underlying Try.underlying3, Result.andThen]
  rfl
theorem checkKey_str (em : Bool) (n : Nat) (v : ByteArray) (w : World) : (Instr.checkKey em (n + 1) 9 (.string v)).run Try.prog w = .ok () w := by
  unfold Instr.checkKey
  simp only [Sem.run_bind, run_underlying Try.underlying9, Result.andThen]
  rfl
theorem keyReq : KeyT Try.prog 95 ekReq where
  check := fun em k w => by
    unfold Instr.checkKey ekReq
    simp only [Sem.run_bind, run_underlying Try.underlying95, Result.andThen]
    have h1 : (part 3 #[Value.int IntKind.i64 k.1, Value.int IntKind.i64 k.2] 0).run Try.prog w = .ok (.int .i64 k.1) w := by go_simp
    have h2 : (part 3 #[Value.int IntKind.i64 k.1, Value.int IntKind.i64 k.2] 1).run Try.prog w = .ok (.int .i64 k.2) w := by go_simp
    have h3 := fun v w => checkKey_int em 9998 v w
    simp [Sem.run_bind, h1, h2, h3, Result.andThen]
  eq := fun k j w => by
    have e : decide (k = j) = (k.1 == j.1 && k.2 == j.2) := by
      rw [Bool.eq_iff_iff]
      cases k; cases j; simp
    rw [e]
    refine eqA_of Try.underlying95 (by kernel_rfl) ?_
    refine eqf_cons (by rfl) (by go_simp; rfl) (by go_simp; rfl) (by go_simp) ?_
    exact eqf_last (by rfl) (by go_simp; rfl) (by go_simp; rfl) (by go_simp)
  under := ⟨_, Try.underlying95⟩
  bits := fun k => by simp [Instr.sameBits, ekReq]

theorem keyTried : KeyT Try.prog 127 ekTried where
  check := fun em k w => by
    unfold Instr.checkKey ekTried
    simp only [Sem.run_bind, run_underlying Try.underlying127, Result.andThen]
    have h1 : (part 3 #[Value.int IntKind.i64 k.1, Value.string k.2] 0).run Try.prog w = .ok (.int .i64 k.1) w := by go_simp
    have h2 : (part 9 #[Value.int IntKind.i64 k.1, Value.string k.2] 1).run Try.prog w = .ok (.string k.2) w := by go_simp
    have h3 := fun v w => checkKey_int em 9998 v w
    have h4 := fun v w => checkKey_str em 9998 v w
    simp [Sem.run_bind, h1, h2, h3, h4, Result.andThen]
  eq := fun k j w => by
    have e : decide (k = j) = (k.1 == j.1 && (k.2.toList == j.2.toList)) := by
      rw [beq_bytes, Bool.eq_iff_iff]
      cases k; cases j; simp
    rw [e]
    refine eqA_of Try.underlying127 (by kernel_rfl) ?_
    refine eqf_cons (by rfl) (by go_simp; rfl) (by go_simp; rfl) (by go_simp) ?_
    exact eqf_last (by rfl) (by go_simp; rfl) (by go_simp; rfl) (by go_simp)
  under := ⟨_, Try.underlying127⟩
  bits := fun k => by simp [Instr.sameBits, ekTried, beq_self_bytes]

def ekEntry (k : Entry) : Value := .agg #[.int .i64 k.client, .int .i64 k.number, .int .i64 k.op.kind, .int .i64 k.op.slot, .string k.op.value]
theorem checkKey_op (em : Bool) (n : Nat) (o : Op) (w : World) : (Instr.checkKey em (n + 2) 24 (.agg #[.int .i64 o.kind, .int .i64 o.slot, .string o.value])).run Try.prog w = .ok () w := by
  unfold Instr.checkKey
  simp only [Sem.run_bind, run_underlying Try.underlying24, Result.andThen]
  have h1 : (part 3 #[Value.int IntKind.i64 o.kind, Value.int IntKind.i64 o.slot, Value.string o.value] 0).run Try.prog w = .ok (.int .i64 o.kind) w := by go_simp
  have h2 : (part 3 #[Value.int IntKind.i64 o.kind, Value.int IntKind.i64 o.slot, Value.string o.value] 1).run Try.prog w = .ok (.int .i64 o.slot) w := by go_simp
  have h5 : (part 9 #[Value.int IntKind.i64 o.kind, Value.int IntKind.i64 o.slot, Value.string o.value] 2).run Try.prog w = .ok (.string o.value) w := by go_simp
  have h3 := fun v w => checkKey_int em n v w
  have h4 := fun v w => checkKey_str em n v w
  simp [Sem.run_bind, h1, h2, h5, h3, h4, Result.andThen]
theorem keyEntry : KeyT Try.prog 99 ekEntry where
  check := fun em k w => by
    unfold Instr.checkKey ekEntry
    simp only [Sem.run_bind, run_underlying Try.underlying99, Result.andThen]
    have h1 : (part 3 #[Value.int IntKind.i64 k.client, Value.int IntKind.i64 k.number, Value.int IntKind.i64 k.op.kind, Value.int IntKind.i64 k.op.slot, Value.string k.op.value] 0).run Try.prog w = .ok (.int .i64 k.client) w := by go_simp
    have h2 : (part 3 #[Value.int IntKind.i64 k.client, Value.int IntKind.i64 k.number, Value.int IntKind.i64 k.op.kind, Value.int IntKind.i64 k.op.slot, Value.string k.op.value] 1).run Try.prog w = .ok (.int .i64 k.number) w := by go_simp
    have h5 : (part 24 #[Value.int IntKind.i64 k.client, Value.int IntKind.i64 k.number, Value.int IntKind.i64 k.op.kind, Value.int IntKind.i64 k.op.slot, Value.string k.op.value] 2).run Try.prog w = .ok (.agg #[.int .i64 k.op.kind, .int .i64 k.op.slot, .string k.op.value]) w := by go_simp
    have h3 := fun v w => checkKey_int em 9998 v w
    have h4 := fun w => checkKey_op em 9997 k.op w
    simp [Sem.run_bind, h1, h2, h5, h3, h4, Result.andThen]
  eq := fun k j w => by
    show (Op.equalIn (9997 + 3) 99 _ _).run Try.prog w = _
    exact equalIn_entry 9997 w k j
  under := ⟨_, Try.underlying99⟩
  bits := fun k => by simp [Instr.sameBits, ekEntry, beq_self_bytes]
end Go.Proofs.Ytjjekpkgfhcknaa
