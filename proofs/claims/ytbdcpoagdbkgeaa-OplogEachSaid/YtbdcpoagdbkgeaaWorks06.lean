/- works of chapter 06 answers true. Conditions: none. -/
import Derived.Test.YtbdcpoagdbkgeaaAppend
import Derived.Deep.QuietTactic
import Derived.BigQuiet
namespace Go.Proofs.Ytbdcpoagdbkgeaa
open Go.RowKit
set_option linter.unusedVariables false
set_option linter.unusedSimpArgs false

def aE : Entry := ⟨0, 1, ⟨1, 1, ⟨#[97]⟩⟩⟩
def bE : Entry := ⟨1, 1, ⟨3, 1, ⟨#[]⟩⟩⟩
def cE : Entry := ⟨2, 1, ⟨1, 1, ⟨#[97]⟩⟩⟩
theorem app_ab : appE [aE] 2 bE = 0 := by decide
theorem app_abc : appE [aE, bE] 2 cE = 60 := by decide

set_option maxRecDepth 100000 in
set_option maxHeartbeats 2000000 in
theorem works06 (w : World) : Calls Try.prog 7 #[] w fun e w' => e = .returned (.bool true) ∧ Below w.heap.size w w' := by
  have ga := eql_entry aE aE
  have gb := eql_entry bE bE
  simp only [decide_true] at ga gb
  have hge := guard_entry
  obtain ⟨W1, hW1⟩ : ∃ W1, W1 = (w.alloc (.cells #[.int .i64 0, .int .i64 1, .int .i64 1, .int .i64 1, .string ⟨#[97]⟩] 32)).alloc (.cells #[.int .i64 1, .int .i64 1, .int .i64 3, .int .i64 1, .string ⟨#[]⟩] 32) := ⟨_, rfl⟩
  have hb1 : Below w.heap.size w W1 := by rw [hW1]; exact ((Below.refl _ _).alloc (Nat.le_refl _) _).alloc (by simp) _
  have hs1 : W1.heap.size = w.heap.size + 2 := by rw [hW1]; simp
  have k0 : W1.heap[w.heap.size]? = some (.cells #[.int .i64 0, .int .i64 1, .int .i64 1, .int .i64 1, .string ⟨#[97]⟩] 32 (0, 0)) := by rw [hW1, heap_alloc_old _ _ (by simp)]; exact heap_alloc_new _ _
  have k1 : W1.heap[w.heap.size + 1]? = some (.cells #[.int .i64 1, .int .i64 1, .int .i64 3, .int .i64 1, .string ⟨#[]⟩] 32 (0, 0)) := by rw [hW1]; exact heap_alloc2_new w _ _
  obtain ⟨W2, hW2⟩ : ∃ W2, W2 = W1.alloc (.cells #[.int .i64 0, .int .i64 1, .int .i64 1, .int .i64 1, .string ⟨#[97]⟩] 32) := ⟨_, rfl⟩
  have hb2 : Below w.heap.size w W2 := by rw [hW2]; exact hb1.alloc hb1.size _
  have hs2 : W2.heap.size = w.heap.size + 3 := by rw [hW2]; simp [hs1]
  have hra : Rd Entry.cells 5 W2 W2.heap.size (some ⟨w.heap.size + 2, 0, none⟩) [aE] := by
    have := rd_one encEntry W1 aE #[.int .i64 0, .int .i64 1, .int .i64 1, .int .i64 1, .string ⟨#[97]⟩] rfl 32
    rw [← hW2, hs1] at this
    exact this.more (by omega)
  have hb12 : Below W1.heap.size W1 W2 := by rw [hW2]; exact (Below.refl _ _).alloc (Nat.le_refl _) _
  have j0 := (hb12.block w.heap.size (by omega)).trans k0
  have j1 := (hb12.block (w.heap.size + 1) (by omega)).trans k1
  go_enter Try.func7, Try.ntmps7
  go_wp2_with fail
  rw [← hW1, ← hW2]
  refine (append_prog (some ⟨w.heap.size + 2, 0, none⟩) 1 1 [aE] 2 bE rfl W2 (by simp) (by decide) (by decide) hra).mono ?_
  rintro e W3 ⟨v, rfl, hm3, hb3⟩
  rw [app_ab] at hm3 ⊢
  rw [if_pos rfl] at hm3
  obtain ⟨A3, c3, rfl, hc3⟩ := hm3.form
  have hrab : Rd Entry.cells 5 W3 W3.heap.size A3 [aE, bE] := hm3.rd' encEntry.len
  have hbw3 := hb2.trans (hb3.mono hb2.size)
  have m0 := (hb3.block w.heap.size (by omega)).trans j0
  have m1 := (hb3.block (w.heap.size + 1) (by omega)).trans j1
  have hs3 : w.heap.size + 3 ≤ W3.heap.size := by have := hb3.size; omega
  obtain ⟨x0, x1, x2, x3, x4⟩ : W3.cell? ⟨w.heap.size, 0, none⟩ = some (.int .i64 0) ∧ W3.cell? ⟨w.heap.size, 1, none⟩ = some (.int .i64 1) ∧ W3.cell? ⟨w.heap.size, 2, none⟩ = some (.int .i64 1) ∧ W3.cell? ⟨w.heap.size, 3, none⟩ = some (.int .i64 1) ∧ W3.cell? ⟨w.heap.size, 4, none⟩ = some (.string ⟨#[97]⟩) :=
    ⟨cell_of_row _ _ 0 _ _ _ m0, cell_of_row _ _ 1 _ _ _ m0, cell_of_row _ _ 2 _ _ _ m0, cell_of_row _ _ 3 _ _ _ m0, cell_of_row _ _ 4 _ _ _ m0⟩
  dsimp only
  clear hW1 hW2 k0 k1 j0 j1 hra hb12 hs1 hs2 hb1 hb2 hb3
  go_wp2_with fail
  refine (append_prog A3 c3 2 [aE, bE] 2 cE rfl W3 (by simp) (by decide) (by decide) hrab).mono ?_
  rintro e W4 ⟨v, rfl, hm4, hb4⟩
  rw [app_abc] at hm4 ⊢
  rw [if_neg (by decide)] at hm4
  obtain ⟨A4, c4, rfl, hc4⟩ := hm4.form
  have n0 := (hb4.block w.heap.size (by omega)).trans m0
  have n1 := (hb4.block (w.heap.size + 1) (by omega)).trans m1
  obtain ⟨y0, y1, y2, y3, y4⟩ : W4.cell? ⟨w.heap.size, 0, none⟩ = some (.int .i64 0) ∧ W4.cell? ⟨w.heap.size, 1, none⟩ = some (.int .i64 1) ∧ W4.cell? ⟨w.heap.size, 2, none⟩ = some (.int .i64 1) ∧ W4.cell? ⟨w.heap.size, 3, none⟩ = some (.int .i64 1) ∧ W4.cell? ⟨w.heap.size, 4, none⟩ = some (.string ⟨#[97]⟩) :=
    ⟨cell_of_row _ _ 0 _ _ _ n0, cell_of_row _ _ 1 _ _ _ n0, cell_of_row _ _ 2 _ _ _ n0, cell_of_row _ _ 3 _ _ _ n0, cell_of_row _ _ 4 _ _ _ n0⟩
  obtain ⟨z0, z1, z2, z3, z4⟩ : W4.cell? ⟨w.heap.size + 1, 0, none⟩ = some (.int .i64 1) ∧ W4.cell? ⟨w.heap.size + 1, 1, none⟩ = some (.int .i64 1) ∧ W4.cell? ⟨w.heap.size + 1, 2, none⟩ = some (.int .i64 3) ∧ W4.cell? ⟨w.heap.size + 1, 3, none⟩ = some (.int .i64 1) ∧ W4.cell? ⟨w.heap.size + 1, 4, none⟩ = some (.string ⟨#[]⟩) :=
    ⟨cell_of_row _ _ 0 _ _ _ n1, cell_of_row _ _ 1 _ _ _ n1, cell_of_row _ _ 2 _ _ _ n1, cell_of_row _ _ 3 _ _ _ n1, cell_of_row _ _ 4 _ _ _ n1⟩
  have hrab4 := hrab.below hb4
  obtain ⟨ad, rfl, _, hp0⟩ := hrab4.at_ (i := 0) (by decide)
  obtain ⟨ad', e', _, hp1⟩ := hrab4.at_ (i := 1) (by decide)
  cases e'
  obtain ⟨p0, p1, p2, p3, p4⟩ := hp0.five
  obtain ⟨q0, q1, q2, q3, q4⟩ := hp1.five
  have hbw4 := hbw3.trans (hb4.mono hbw3.size)
  simp only [List.getElem_cons_zero, List.getElem_cons_succ, aE, bE, Nat.zero_mul, Nat.one_mul, List.length_cons, List.length_nil, Nat.zero_add, Nat.reduceAdd] at p0 p1 p2 p3 p4 q0 q1 q2 q3 q4 ga gb ⊢
  have ez : ad.add 0 = ad := by simp [Addr.add]
  rw [ez] at p0 p1 p2 p3 p4
  have ef : ad.add 5 = ⟨ad.block, ad.off + 5, none⟩ := by simp [Addr.add]
  rw [ef] at q0 q1 q2 q3 q4
  clear ef ez hp0 hp1 hrab hrab4 hm3 hm4 x0 x1 x2 x3 x4 n0 n1 m0 m1 hb4 hbw3
  go_wp2_with fail
  go_quiet (fail)
  go_wp2
  go_ret
  exact ⟨rfl, below_drewN hbw4 _⟩
end Go.Proofs.Ytbdcpoagdbkgeaa
