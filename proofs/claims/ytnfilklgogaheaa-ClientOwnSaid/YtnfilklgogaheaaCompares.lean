/- OplogCompares answers true, whatever the two lists and the number. Conditions: sizes within the form's own reach. -/
import Derived.Test.YtnfilklgogaheaaCommon
import Derived.Test.YtnfilklgogaheaaIntact
namespace Go.Proofs.Ytnfilklgogaheaa
open Go.RowKit
set_option linter.unusedVariables false
set_option linter.unusedSimpArgs false

theorem given_new (w : World) (base : Nat) (hb : base ≤ w.heap.size) : Given (w.alloc (.cells #[.slice none 0 0, .slice none 0 0, .slice none 0 0, .slice none 0 0, .slice none 0 0, .slice none 0 0, .slice none 0 0, .slice none 0 0, .slice none 0 0, .slice none 0 0] 40)) w.heap.size base [] :=
  ⟨.slice none 0 0, .slice none 0 0, [], heap_alloc_new w _, hb, Made.nil _ _ _, Made.nil _ _ _, fun b h => by simp [Value.ownBlock] at h, rfl, fun g hg => by simp at hg⟩
theorem Given.get {w : World} {gb base : Nat} {G : List Gv} (h : Given w gb base G) {g : Gv} (hg : g ∈ G) : Rd Entry.cells 5 w w.heap.size g.A g.l := by
  obtain ⟨ve, vw, W, hgb, hbase, hve, hvw, hne, hWG, hall⟩ := h
  have hm := hall g (by simp [hg])
  have := Made.rd' (A := g.A) (n := g.l.length + 1) (c := g.c) encEntry.len hm
  have h2 := this.take g.l.length
  simpa using h2

end Go.Proofs.Ytnfilklgogaheaa
