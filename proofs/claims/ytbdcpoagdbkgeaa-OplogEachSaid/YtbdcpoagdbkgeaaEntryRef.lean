/- The reference's entry: may an entry stand behind others; its Find and Last. Conditions: sizes within Go's own limits. -/
import Derived.Test.YtbdcpoagdbkgeaaFits
import Derived.Test.YtbdcpoagdbkgeaaFind
import Derived.Deep.LoopGhost
namespace Go.Proofs.Ytbdcpoagdbkgeaa
open Go.RowKit
set_option linter.unusedVariables false
set_option linter.unusedSimpArgs false

theorem twice_take {xs : List Entry} {k : Nat} (h : k < xs.length) (x : Entry) : twice (xs.take (k + 1)) x = (twice (xs.take k) x || decide (xs[k].client = x.client ∧ x.number ≤ xs[k].number)) := by
  unfold twice
  rw [take_snoc h, List.any_append]
  simp
theorem twice_mono {xs : List Entry} {k : Nat} {x : Entry} (h : twice (xs.take k) x = true) : twice xs x = true := by
  simp only [twice, List.any_eq_true] at *
  obtain ⟨y, hy, h⟩ := h
  exact ⟨y, List.mem_of_mem_take hy, h⟩

end Go.Proofs.Ytbdcpoagdbkgeaa
