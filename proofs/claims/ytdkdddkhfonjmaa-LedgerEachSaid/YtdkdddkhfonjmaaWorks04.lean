/- amnesialaw04.works: true. Conditions: none. -/
import Derived.Test.YtdkdddkhfonjmaaDo
namespace Go.Proofs.Ytdkdddkhfonjmaa
open Go.RowKit
set_option linter.unusedVariables false
set_option linter.unusedSimpArgs false

theorem Kept.ledger_below {S : Nat → Prop} {w w1 w2 : World} (h : Below w.heap.size w w1) (k : Kept S w1 w2) (hs : ∀ j, S j → w.heap.size ≤ j) : Below w.heap.size w w2 :=
  ⟨k.os.trans h.os, k.tape.trans h.tape, k.output.trans h.output, Nat.le_trans h.size k.size, fun j hj => (k.block j (Nat.lt_of_lt_of_le hj h.size) (fun q => by have := hs j q; omega)).trans (h.block j hj)⟩
theorem ptr_nil (w : World) (b : Nat) : (binOp .eql 32 (.pointer (some ⟨b, 0, none⟩)) (.pointer none)).run Try.prog w = .ok (.bool false) w := by
  simp [go_sem]

theorem eqW1 (w : World) : (binOp .eql 35 (.agg #[.int .i64 1, .int .i64 7, .string ⟨#[97]⟩]) (.agg #[.int .i64 1, .int .i64 7, .string ⟨#[97]⟩])).run Try.prog w = .ok (.bool true) w := by
  have := eql_res ⟨1, 7, ⟨#[97]⟩⟩ ⟨1, 7, ⟨#[97]⟩⟩ w
  simpa using this
theorem eqW2 (w : World) : (binOp .eql 35 (.agg #[.int .i64 2, .int .i64 7, .string ⟨#[97]⟩]) (.agg #[.int .i64 2, .int .i64 7, .string ⟨#[97]⟩])).run Try.prog w = .ok (.bool true) w := by
  have := eql_res ⟨2, 7, ⟨#[97]⟩⟩ ⟨2, 7, ⟨#[97]⟩⟩ w
  simpa using this

set_option maxHeartbeats 1000000 in
theorem works04 (w : World) : Calls Try.prog 8 #[] w fun e w' => e = .returned (.bool true) ∧ Below w.heap.size w w' := by
  have hg := guard_res
  have q1 := eqW1
  have q2 := eqW2
  go_enter Try.func8, Try.ntmps8
  go_wp2_with fail
  refine (newLedger w).mono ?_
  rintro e w1 ⟨b, mb, rfl, hl, hbb, hmb, hB⟩
  go_wp2_with fail
  refine (check_prog ⟨1, 7, ⟨#[97]⟩⟩ (by decide) w1).mono ?_
  rintro e w2 ⟨rfl, hb2⟩
  have hk : checkOp ⟨1, 7, ⟨#[97]⟩⟩ = 0 := by decide
  rw [hk]
  clear hk
  have hl2 := hl.below hb2
  have hB2 : Below w.heap.size w w2 := hB.trans (hb2.mono hB.size)
  clear hl hb2 hB
  go_wp2_with fail
  refine (check_prog ⟨9, 0, ⟨#[]⟩⟩ (by decide) w2).mono ?_
  rintro e w3 ⟨rfl, hb3⟩
  have hk : checkOp ⟨9, 0, ⟨#[]⟩⟩ = 40 := by decide
  rw [hk]
  clear hk
  have hl3 := hl2.below hb3
  have hB3 : Below w.heap.size w w3 := hB2.trans (hb3.mono hB2.size)
  clear hl2 hb3 hB2
  go_wp2_with fail
  refine (doLedger b mb [] ⟨1, 7, ⟨#[97]⟩⟩ (by decide) w3 hl3).mono ?_
  rintro e w4 ⟨rfl, hl4, hk4⟩
  have e1 : would [] ⟨1, 7, ⟨#[97]⟩⟩ = ⟨1, 7, ⟨#[97]⟩⟩ := by decide
  have e2 : after [] ⟨1, 7, ⟨#[97]⟩⟩ = [⟨7, ⟨#[97]⟩⟩] := by decide
  rw [e2] at hl4
  rw [e1]
  have hB4 : Below w.heap.size w w4 := Kept.ledger_below hB3 hk4 (fun j hj => by rcases hj with rfl | rfl <;> assumption)
  clear e1 e2 hl3 hk4 hB3
  go_wp2_with fail
  refine (doLedger b mb [⟨7, ⟨#[97]⟩⟩] ⟨1, 7, ⟨#[98]⟩⟩ (by decide) w4 hl4).mono ?_
  rintro e w5 ⟨rfl, hl5, hk5⟩
  have e1 : would [⟨7, ⟨#[97]⟩⟩] ⟨1, 7, ⟨#[98]⟩⟩ = ⟨2, 7, ⟨#[97]⟩⟩ := by decide
  rw [e1]
  have hB5 : Below w.heap.size w w5 := Kept.ledger_below hB4 hk5 (fun j hj => by rcases hj with rfl | rfl <;> assumption)
  clear e1 hl4 hl5 hk5 hB4
  go_wp2
  go_ret
  exact ⟨rfl, hB5⟩
end Go.Proofs.Ytdkdddkhfonjmaa
