/- The reference's Do: it answers 'after' and 'would'. Conditions: rising cells; sizes within Go's own limits. -/
import Derived.Test.YtdkdddkhfonjmaaRef04
import Derived.Test.YtdkdddkhfonjmaaCells3
import Derived.Deep.RegionHeld3
import Derived.Laws.ResultCell
namespace Go.Proofs.Ytdkdddkhfonjmaa
open Go.RowKit
set_option linter.unusedVariables false
set_option linter.unusedSimpArgs false

theorem results_tmp_cell_row {P : Program} {fn : Func} {p u : Tmp} {ty : TypeId} (h : fn.results = #[.tmp u, .cell p ty]) (tmps : Array Value) (w : World) (g : Nat) (t : TypeId) (cs : Array Value) (fr : Nat × Nat) (d : TypeDesc)
    (hp : tmps.getD p undef = .pointer (some ⟨g, 0, none⟩)) (hg : w.heap[g]? = some (.cells cs t fr))
    (hu : P.underlying ty = some d) (hd : (match d with | .struct _ | .array _ _ => true | _ => false) = true) (hi : (P.info? ty).map (·.size) = some cs.size) :
    (results fn tmps).run P w = .ok (.tuple #[tmps.getD u undef, .agg cs]) w := by
  have hp' : tmps[p]?.getD undef = .pointer (some ⟨g, 0, none⟩) := by simpa using hp
  simp [results, h, hp', asAddr, run_loadVar_row w g t ty cs fr d hg hu hd hi]

theorem sizeResR : (Try.prog.info? 35).map (·.size) = some 3 := by kernel_rfl
theorem res2_end {fn : Func} {p u : Tmp} (hres : fn.results = #[.tmp u, .cell p 35]) {R : Ending → World → Prop} {a : Act} {w : World} {B : Nat} {r : Res} {T : TypeId} {v : Value} (hv : a.tmps.getD u undef = v) (hp : a.tmps.getD p undef = .pointer (some ⟨B, 0, none⟩)) (hd : a.defers = [])
    (h : w.heap[B]? = some (.cells #[.int .i64 r.code, .int .i64 r.slot, .string r.value] T (0, 0))) (hR : R (.returned (.tuple #[v, .agg #[.int .i64 r.code, .int .i64 r.slot, .string r.value]])) w) : bodyPost Try.prog fn R .ret a w := by
  subst hv
  exact bodyPost_ret (results_tmp_cell_row hres a.tmps w B T _ (0, 0) _ hp h Try.underlying35 rfl sizeResR) hd hR

theorem row3R {w : World} {B : Nat} {x y z : Value} {T : TypeId} (h : w.heap[B]? = some (.cells #[x, y, z] T (0, 0))) (a b c : Value) : (((w.setCell ⟨B, 0, none⟩ a).setCell ⟨B, 1, none⟩ b).setCell ⟨B, 2, none⟩ c).heap[B]? = some (.cells #[a, b, c] T (0, 0)) := by
  rw [heap_setCell_same _ _ _ _ _ _ (heap_setCell_same _ _ _ _ _ _ (heap_setCell_same _ _ _ _ _ _ h))]
  rfl
theorem below3R {W w : World} {B : Nat} (h : Below W.heap.size W w) (hB : W.heap.size ≤ B) (a b c : Value) : Below W.heap.size W (((w.setCell ⟨B, 0, none⟩ a).setCell ⟨B, 1, none⟩ b).setCell ⟨B, 2, none⟩ c) :=
  ((h.setCell (p := ⟨B, 0, none⟩) hB a).setCell (p := ⟨B, 1, none⟩) hB b).setCell (p := ⟨B, 2, none⟩) hB c

/-- Behind Check: the two blocks that Do lays, and what was there. -/
theorem doRef_start (o : Op) (w w1 : World)
    (hb1 : Below ((w.alloc (.cells #[.int .i64 o.kind, .int .i64 o.slot, .string o.value] 38)).alloc (.cells #[.int .i64 0, .int .i64 0, .string ⟨#[]⟩] 35)).heap.size ((w.alloc (.cells #[.int .i64 o.kind, .int .i64 o.slot, .string o.value] 38)).alloc (.cells #[.int .i64 0, .int .i64 0, .string ⟨#[]⟩] 35)) w1) :
    w1.heap[w.heap.size]? = some (.cells #[.int .i64 o.kind, .int .i64 o.slot, .string o.value] 38 (0, 0)) ∧ w1.heap[w.heap.size + 1]? = some (.cells #[.int .i64 0, .int .i64 0, .string ⟨#[]⟩] 35 (0, 0)) ∧ w.heap.size + 2 ≤ w1.heap.size ∧ Below w.heap.size w w1 := by
  have hs : ((w.alloc (.cells #[.int .i64 o.kind, .int .i64 o.slot, .string o.value] 38)).alloc (.cells #[.int .i64 0, .int .i64 0, .string ⟨#[]⟩] 35)).heap.size = w.heap.size + 2 := by simp
  have hB : Below w.heap.size w ((w.alloc (.cells #[.int .i64 o.kind, .int .i64 o.slot, .string o.value] 38)).alloc (.cells #[.int .i64 0, .int .i64 0, .string ⟨#[]⟩] 35)) := ((Below.refl _ _).alloc (Nat.le_refl _) _).alloc (by simp) _
  rw [hs] at hb1
  exact ⟨(hb1.block _ (by omega)).trans (heap_alloc2_old w _ _), (hb1.block _ (by omega)).trans (heap_alloc2_new w _ _), by have := hb1.size; omega, hB.trans (hb1.mono (by omega))⟩

/-- What Do answers: its cells, its result, and nothing old turned. -/
def DoRefPost (A : Option Addr) (w : World) (cs' : List Cell) (r : Res) (e : Ending) (w' : World) : Prop :=
  ∃ A' c', e = .returned (.tuple #[.slice A' cs'.length c', .agg #[.int .i64 r.code, .int .i64 r.slot, .string r.value]]) ∧ Rd Cell.cells 2 w' w'.heap.size A' cs' ∧ (A' = A ∨ ∀ ad, A' = some ad → w.heap.size ≤ ad.block ∧ ad.block < w'.heap.size) ∧ Below w.heap.size w w'

theorem nextC_snoc (xs : List Cell) (c : Cell) : nextC (xs ++ [c]) = c.slot + 1 := by
  induction xs with
  | nil => rfl
  | cons d ds ih =>
    cases ds with
    | nil => rfl
    | cons e es => simpa [nextC] using ih
theorem nextC_take {cs : List Cell} (h : Rising cs) {k : Nat} (hk : k < cs.length) : nextC (cs.take k) ≤ cs[k].slot ∧ nextC (cs.take (k + 1)) = cs[k].slot + 1 := by
  refine ⟨?_, by rw [List.take_succ_eq_append_getElem hk, nextC_snoc]⟩
  by_cases h0 : cs.take k = []
  · rw [h0]; exact (h.good cs[k] (by simp)).1
  · obtain ⟨d, hd, h1⟩ := nextC_mem h0
    have hs := h.sorted
    rw [← List.take_append_drop k cs, List.pairwise_append] at hs
    have h2 := hs.2.2 d hd cs[k] (by rw [List.drop_eq_getElem_cons hk]; exact List.mem_cons_self ..)
    omega


end Go.Proofs.Ytdkdddkhfonjmaa
