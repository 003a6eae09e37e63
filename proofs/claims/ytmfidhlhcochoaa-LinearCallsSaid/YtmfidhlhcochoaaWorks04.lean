/- amnesialaw04.works: true. Conditions: none. -/
import Derived.Test.YtmfidhlhcochoaaDo
namespace Go.Proofs.Ytmfidhlhcochoaa
open Go.RowKit
set_option linter.unusedVariables false
set_option linter.unusedSimpArgs false

theorem Kept.ledger_below {S : Nat → Prop} {w w1 w2 : World} (h : Below w.heap.size w w1) (k : Kept S w1 w2) (hs : ∀ j, S j → w.heap.size ≤ j) : Below w.heap.size w w2 :=
  ⟨k.os.trans h.os, k.tape.trans h.tape, k.output.trans h.output, Nat.le_trans h.size k.size, fun j hj => (k.block j (Nat.lt_of_lt_of_le hj h.size) (fun q => by have := hs j q; omega)).trans (h.block j hj)⟩
theorem ptr_nil (w : World) (b : Nat) : (binOp .eql 94 (.pointer (some ⟨b, 0, none⟩)) (.pointer none)).run Try.prog w = .ok (.bool false) w := by
  simp [go_sem]

theorem eqW1 (w : World) : (binOp .eql 40 (.agg #[.int .i64 1, .int .i64 7, .string ⟨#[97]⟩]) (.agg #[.int .i64 1, .int .i64 7, .string ⟨#[97]⟩])).run Try.prog w = .ok (.bool true) w := by
  have := eql_res ⟨1, 7, ⟨#[97]⟩⟩ ⟨1, 7, ⟨#[97]⟩⟩ w
  simpa using this
theorem eqW2 (w : World) : (binOp .eql 40 (.agg #[.int .i64 2, .int .i64 7, .string ⟨#[97]⟩]) (.agg #[.int .i64 2, .int .i64 7, .string ⟨#[97]⟩])).run Try.prog w = .ok (.bool true) w := by
  have := eql_res ⟨2, 7, ⟨#[97]⟩⟩ ⟨2, 7, ⟨#[97]⟩⟩ w
  simpa using this

end Go.Proofs.Ytmfidhlhcochoaa
