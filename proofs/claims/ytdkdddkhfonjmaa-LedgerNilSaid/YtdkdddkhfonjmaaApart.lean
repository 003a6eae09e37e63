/- LedgerApart answers true, whatever the script and the two operations. Conditions: Go lengths. -/
import Derived.Test.YtdkdddkhfonjmaaRisesA
import Derived.Test.YtdkdddkhfonjmaaLedCells
import Derived.Test.YtdkdddkhfonjmaaSame04
import Derived.Deep.RegionHeld3
namespace Go.Proofs.Ytdkdddkhfonjmaa
open Go.RowKit
set_option linter.unusedVariables false
set_option linter.unusedSimpArgs false

/-- Two ledgers of the same cells, in blocks of their own above B. -/
structure Two (W : World) (B b mb b2 mb2 : Nat) (cs ds : List Cell) : Prop where
  one : Ledger W b mb cs
  two : Ledger W b2 mb2 ds
  hb : B ≤ b ∧ B ≤ mb ∧ B ≤ b2 ∧ B ≤ mb2
  ne : b ≠ b2 ∧ b ≠ mb2 ∧ mb ≠ b2 ∧ mb ≠ mb2
section
variable {W W' : World} {B b mb b2 mb2 : Nat} {cs ds es : List Cell}
theorem Two.below (h : Two W B b mb b2 mb2 cs ds) (hb : Below W.heap.size W W') : Two W' B b mb b2 mb2 cs ds := ⟨h.one.below hb, h.two.below hb, h.hb, h.ne⟩
theorem Two.at1 (h : Two W B b mb b2 mb2 cs ds) (hl : Ledger W' b mb es) (hk : Kept (LedS b mb) W W') : Two W' B b mb b2 mb2 es ds :=
  ⟨hl, h.two.same (hk.block b2 h.two.lt.1 (fun q => by have := h.ne; rcases q with q | q <;> omega)) (hk.block mb2 h.two.lt.2 (fun q => by have := h.ne; rcases q with q | q <;> omega)), h.hb, h.ne⟩
theorem Two.at2 (h : Two W B b mb b2 mb2 cs ds) (hl : Ledger W' b2 mb2 es) (hk : Kept (LedS b2 mb2) W W') : Two W' B b mb b2 mb2 cs es :=
  ⟨h.one.same (hk.block b h.one.lt.1 (fun q => by have := h.ne; rcases q with q | q <;> omega)) (hk.block mb h.one.lt.2 (fun q => by have := h.ne; rcases q with q | q <;> omega)), hl, h.hb, h.ne⟩
end
theorem keptA {S : Nat → Prop} {B : Nat} {w w1 w2 : World} (h : Below B w w1) (k : Kept S w1 w2) (hs : ∀ j, S j → B ≤ j) (hB : B ≤ w.heap.size) : Below B w w2 :=
  ⟨k.os.trans h.os, k.tape.trans h.tape, k.output.trans h.output, Nat.le_trans h.size k.size, fun j hj => (k.block j (by have := h.size; omega) (fun q => by have := hs j q; omega)).trans (h.block j hj)⟩
theorem eqR_ (r : Res) (w : World) : (binOp .eql 35 (.agg #[.int .i64 r.code, .int .i64 r.slot, .string r.value]) (.agg #[.int .i64 r.code, .int .i64 r.slot, .string r.value])).run Try.prog w = .ok (.bool true) w := by
  have := eql_res r r w
  simpa using this
theorem neqR_ (r : Res) (w : World) : (binOp .neq 35 (.agg #[.int .i64 r.code, .int .i64 r.slot, .string r.value]) (.agg #[.int .i64 r.code, .int .i64 r.slot, .string r.value])).run Try.prog w = .ok (.bool false) w := by
  have := neq_res r r w
  simpa using this

end Go.Proofs.Ytdkdddkhfonjmaa
