/- The example of layer 18 comes out. Conditions: none. -/
import Derived.Test.YtmfidhlhcochoaaHolds
import Derived.Test.YtmfidhlhcochoaaStore
namespace Go.Proofs.Ytmfidhlhcochoaa
open Go.RowKit
set_option linter.unusedVariables false
set_option linter.unusedSimpArgs false

def exW : Call := ⟨0, 1, ⟨1, 7, ⟨#[97]⟩⟩, 0, 5, ⟨1, 7, ⟨#[97]⟩⟩⟩
def exR : Call := ⟨1, 1, ⟨3, 7, ⟨#[]⟩⟩, 2, 3, ⟨5, 7, ⟨#[]⟩⟩⟩
def exL : Call := ⟨1, 1, ⟨3, 7, ⟨#[]⟩⟩, 6, 7, ⟨5, 7, ⟨#[]⟩⟩⟩
theorem ex_search : searchL [exW, exR] = ([1, 0], true, 0) := by decide +kernel
theorem ex_late : searchL [exW, exL] = ([], false, 0) := by decide +kernel
theorem ex_holds : holdsL [exW, exR] [0, 1] = (1, 0) := by decide +kernel
section
variable {α : Type} {enc : α → List Value} {k : Nat}
theorem rd_many18 (E : Enc enc k) (w : World) (xs : List α) (cs : Array Value) (hcs : cs.toList = flat enc xs) (t' : TypeId) : Rd enc k (w.alloc (.cells cs t')) (w.heap.size + 1) (some ⟨w.heap.size, 0, none⟩) xs := by
  refine Rd.of_flat E.len (by simp) ?_
  intro j u hu
  have hadd : (⟨w.heap.size, 0, none⟩ : Addr).add j = ⟨w.heap.size, j, none⟩ := by unfold Addr.add; split <;> simp_all
  rw [hadd, cell_of_row (w.alloc (.cells cs t')) w.heap.size j cs t' (0, 0) (heap_alloc_new w _)]
  rw [← hcs] at hu
  simpa using hu
end
theorem ex_sizes : (∀ x ∈ [exW, exR], x.op.value.size ≤ 9223372036854775807) ∧ (∀ x ∈ [exW, exL], x.op.value.size ≤ 9223372036854775807) := by
  constructor <;> intro x hx <;> simp only [List.mem_cons, List.not_mem_nil, or_false] at hx <;> rcases hx with rfl | rfl <;> decide

set_option maxRecDepth 100000 in
set_option maxHeartbeats 4000000 in
theorem works18 (w : World) : Calls Try.prog 12 #[] w fun e w' => e = .returned (.bool true) ∧ Below w.heap.size w w' := by
  have hrd := fun (W : World) => rd_many18 encCall W [exW, exR] #[.int .i64 0, .int .i64 1, .int .i64 1, .int .i64 7, .string ⟨#[97]⟩, .int .i64 0, .int .i64 5, .int .i64 1, .int .i64 7, .string ⟨#[97]⟩, .int .i64 1, .int .i64 1, .int .i64 3, .int .i64 7, .string ⟨#[]⟩, .int .i64 2, .int .i64 3, .int .i64 5, .int .i64 7, .string ⟨#[]⟩] rfl 45
  have hrd2 := fun (W : World) => rd_many18 encCall W [exW, exL] #[.int .i64 0, .int .i64 1, .int .i64 1, .int .i64 7, .string ⟨#[97]⟩, .int .i64 0, .int .i64 5, .int .i64 1, .int .i64 7, .string ⟨#[97]⟩, .int .i64 1, .int .i64 1, .int .i64 3, .int .i64 7, .string ⟨#[]⟩, .int .i64 6, .int .i64 7, .int .i64 5, .int .i64 7, .string ⟨#[]⟩] rfl 45
  have hrdo := fun (W : World) => rd_many18 encZ W [0, 1] #[.int .i64 0, .int .i64 1] rfl 3
  have HRD := Lib.hid hrd
  have HRD2 := Lib.hid hrd2
  have HRDO := Lib.hid hrdo
  clear hrd hrd2 hrdo
  go_enter Try.func12, Try.ntmps12
  go_wp2_with fail
  obtain ⟨W1, hW1⟩ : ∃ W1, W1 = (w.alloc (.cells #[.int .i64 0, .int .i64 1, .int .i64 1, .int .i64 7, .string ⟨#[97]⟩, .int .i64 0, .int .i64 5, .int .i64 1, .int .i64 7, .string ⟨#[97]⟩] 45)).alloc (.cells #[.int .i64 1, .int .i64 1, .int .i64 3, .int .i64 7, .string ⟨#[]⟩, .int .i64 2, .int .i64 3, .int .i64 5, .int .i64 7, .string ⟨#[]⟩] 45) := ⟨_, rfl⟩
  have hz1 : W1.heap.size = w.heap.size + 1 + 1 := by rw [hW1]; simp
  have hb1 : Below w.heap.size w W1 := by rw [hW1]; exact ((Below.refl _ _).alloc (Nat.le_refl _) _).alloc (by simp) _
  have r1 : W1.heap[w.heap.size]? = some (.cells #[.int .i64 0, .int .i64 1, .int .i64 1, .int .i64 7, .string ⟨#[97]⟩, .int .i64 0, .int .i64 5, .int .i64 1, .int .i64 7, .string ⟨#[97]⟩] 45 (0, 0)) := by rw [hW1, heap_alloc_old _ _ (by simp)]; exact heap_alloc_new _ _
  have r2 : W1.heap[w.heap.size + 1]? = some (.cells #[.int .i64 1, .int .i64 1, .int .i64 3, .int .i64 7, .string ⟨#[]⟩, .int .i64 2, .int .i64 3, .int .i64 5, .int .i64 7, .string ⟨#[]⟩] 45 (0, 0)) := by rw [hW1]; exact heap_alloc2_new w _ _
  have hrd1 := HRD.out W1
  have hb2 : Below W1.heap.size W1 (W1.alloc (.cells #[.int .i64 0, .int .i64 1, .int .i64 1, .int .i64 7, .string ⟨#[97]⟩, .int .i64 0, .int .i64 5, .int .i64 1, .int .i64 7, .string ⟨#[97]⟩, .int .i64 1, .int .i64 1, .int .i64 3, .int .i64 7, .string ⟨#[]⟩, .int .i64 2, .int .i64 3, .int .i64 5, .int .i64 7, .string ⟨#[]⟩] 45)) := (Below.refl _ _).alloc (Nat.le_refl _) _
  rw [hz1] at hrd1
  rw [← hW1]
  refine (search_prog (some ⟨w.heap.size + 1 + 1, 0, none⟩) 2 2 [exW, exR] rfl _ (by decide) ex_sizes.1 (hrd1.more (by simp [hz1]))).mono ?_
  rintro e w3 ⟨v3, rfl, hm3, hb3⟩
  simp only [ex_search] at hm3 ⊢
  obtain ⟨A3, c3, rfl, hc3⟩ := hm3.form
  have hb13 : Below W1.heap.size W1 w3 := hb2.trans (hb3.mono hb2.size)
  have r13 := (hb13.block _ (by omega)).trans r1
  have r23 := (hb13.block _ (by omega)).trans r2
  have HM3 := Lib.hid hm3
  have HZ1 : Hid (w.heap.size + 2 ≤ (W1.alloc (.cells #[.int .i64 0, .int .i64 1, .int .i64 1, .int .i64 7, .string ⟨#[97]⟩, .int .i64 0, .int .i64 5, .int .i64 1, .int .i64 7, .string ⟨#[97]⟩, .int .i64 1, .int .i64 1, .int .i64 3, .int .i64 7, .string ⟨#[]⟩, .int .i64 2, .int .i64 3, .int .i64 5, .int .i64 7, .string ⟨#[]⟩] 45)).heap.size) := by show _ ≤ _; simp [hz1]
  have HB3 := Lib.hid (hb1.trans (hb13.mono hb1.size))
  have HRA := Lib.hid r13
  have HRB := Lib.hid r23
  have hw3 : w.heap.size + 2 ≤ w3.heap.size := by have := hb13.size; omega
  have a0 : w3.cell? ⟨w.heap.size, 0, none⟩ = some (.int .i64 0) := cell_of_row _ _ 0 _ _ _ r13
  have a1 : w3.cell? ⟨w.heap.size, 1, none⟩ = some (.int .i64 1) := cell_of_row _ _ 1 _ _ _ r13
  have a2 : w3.cell? ⟨w.heap.size, 2, none⟩ = some (.int .i64 1) := cell_of_row _ _ 2 _ _ _ r13
  have a3 : w3.cell? ⟨w.heap.size, 3, none⟩ = some (.int .i64 7) := cell_of_row _ _ 3 _ _ _ r13
  have a4 : w3.cell? ⟨w.heap.size, 4, none⟩ = some (.string ⟨#[97]⟩) := cell_of_row _ _ 4 _ _ _ r13
  have a5 : w3.cell? ⟨w.heap.size, 5, none⟩ = some (.int .i64 0) := cell_of_row _ _ 5 _ _ _ r13
  have a6 : w3.cell? ⟨w.heap.size, 6, none⟩ = some (.int .i64 5) := cell_of_row _ _ 6 _ _ _ r13
  have a7 : w3.cell? ⟨w.heap.size, 7, none⟩ = some (.int .i64 1) := cell_of_row _ _ 7 _ _ _ r13
  have a8 : w3.cell? ⟨w.heap.size, 8, none⟩ = some (.int .i64 7) := cell_of_row _ _ 8 _ _ _ r13
  have a9 : w3.cell? ⟨w.heap.size, 9, none⟩ = some (.string ⟨#[97]⟩) := cell_of_row _ _ 9 _ _ _ r13
  have b0 : w3.cell? ⟨w.heap.size + 1, 0, none⟩ = some (.int .i64 1) := cell_of_row _ _ 0 _ _ _ r23
  have b1 : w3.cell? ⟨w.heap.size + 1, 1, none⟩ = some (.int .i64 1) := cell_of_row _ _ 1 _ _ _ r23
  have b2 : w3.cell? ⟨w.heap.size + 1, 2, none⟩ = some (.int .i64 3) := cell_of_row _ _ 2 _ _ _ r23
  have b3 : w3.cell? ⟨w.heap.size + 1, 3, none⟩ = some (.int .i64 7) := cell_of_row _ _ 3 _ _ _ r23
  have b4 : w3.cell? ⟨w.heap.size + 1, 4, none⟩ = some (.string ⟨#[]⟩) := cell_of_row _ _ 4 _ _ _ r23
  have b5 : w3.cell? ⟨w.heap.size + 1, 5, none⟩ = some (.int .i64 2) := cell_of_row _ _ 5 _ _ _ r23
  have b6 : w3.cell? ⟨w.heap.size + 1, 6, none⟩ = some (.int .i64 3) := cell_of_row _ _ 6 _ _ _ r23
  have b7 : w3.cell? ⟨w.heap.size + 1, 7, none⟩ = some (.int .i64 5) := cell_of_row _ _ 7 _ _ _ r23
  have b8 : w3.cell? ⟨w.heap.size + 1, 8, none⟩ = some (.int .i64 7) := cell_of_row _ _ 8 _ _ _ r23
  have b9 : w3.cell? ⟨w.heap.size + 1, 9, none⟩ = some (.string ⟨#[]⟩) := cell_of_row _ _ 9 _ _ _ r23
  clear hm3 hb3 hb13 r13 r23 r1 r2 hrd1 hb2 hb1 hW1 hz1
  simp only [List.length_cons, List.length_nil, Nat.zero_add, Nat.reduceAdd]
  go_wp2_with fail
  obtain ⟨W3a, hW3a⟩ : ∃ W, W = w3.alloc (.cells #[.int .i64 0, .int .i64 1, .int .i64 1, .int .i64 7, .string ⟨#[97]⟩, .int .i64 0, .int .i64 5, .int .i64 1, .int .i64 7, .string ⟨#[97]⟩, .int .i64 1, .int .i64 1, .int .i64 3, .int .i64 7, .string ⟨#[]⟩, .int .i64 2, .int .i64 3, .int .i64 5, .int .i64 7, .string ⟨#[]⟩] 45) := ⟨_, rfl⟩
  obtain ⟨W4, hW4⟩ : ∃ W, W = W3a.alloc (.cells #[.int .i64 0, .int .i64 1] 3) := ⟨_, rfl⟩
  have hz3a : W3a.heap.size = w3.heap.size + 1 := by rw [hW3a]; simp
  have hb34 : Below w3.heap.size w3 W4 := by rw [hW4, hW3a]; exact ((Below.refl _ _).alloc (Nat.le_refl _) _).alloc (by simp) _
  have hz4 : W4.heap.size = w3.heap.size + 2 := by rw [hW4]; simp [hz3a]
  have hrl : Rd Call.cells 10 W4 W4.heap.size (some ⟨w3.heap.size, 0, none⟩) [exW, exR] := by
    have h1 := HRD.out w3
    rw [← hW3a] at h1
    have h2 : Below (w3.heap.size + 1) W3a W4 := by rw [hW4, ← hz3a]; exact (Below.refl _ _).alloc (Nat.le_refl _) _
    exact (h1.below h2).more (by omega)
  have hro : Rd zcell 1 W4 W4.heap.size (some ⟨w3.heap.size + 1, 0, none⟩) [0, 1] := by
    have h1 := HRDO.out W3a
    rw [← hW4, hz3a] at h1
    exact h1.more (by omega)
  rw [← hW3a, ← hW4]
  refine (holds_prog (some ⟨w3.heap.size, 0, none⟩) 2 2 [exW, exR] rfl (some ⟨w3.heap.size + 1, 0, none⟩) 2 2 [0, 1] rfl W4 (by decide) (by decide) ex_sizes.1 hrl hro).mono ?_
  rintro e w5 ⟨rfl, hb5⟩
  simp only [ex_holds]
  have hb35 : Below w3.heap.size w3 w5 := hb34.trans (hb5.mono hb34.size)
  have r15 := (hb35.block _ (by omega)).trans HRA.out
  have r25 := (hb35.block _ (by omega)).trans HRB.out
  have hm5 := HM3.out.below hb35 (fun b e => (HM3.out.lt b e).2)
  have HB5 := Lib.hid (HB3.out.trans (hb35.mono HB3.out.size))
  have hw5 : w.heap.size + 2 ≤ w5.heap.size := by have := hb35.size; omega
  have HM5 := Lib.hid hm5
  have HR5 := Lib.hid r25
  have b5 : w5.cell? ⟨w.heap.size + 1, 5, none⟩ = some (.int .i64 2) := cell_of_row _ _ 5 _ _ _ r25
  have b6 : w5.cell? ⟨w.heap.size + 1, 6, none⟩ = some (.int .i64 3) := cell_of_row _ _ 6 _ _ _ r25
  have fb : ∀ o, w5.frozen? ⟨w.heap.size + 1, o, none⟩ = false := fun o => frozen_of_row _ _ _ _ _ r25
  obtain ⟨W6, hW6⟩ : ∃ W, W = (w5.setCell ⟨w.heap.size + 1, 5, none⟩ (.int .i64 6)).setCell ⟨w.heap.size + 1, 6, none⟩ (.int .i64 7) := ⟨_, rfl⟩
  have r26 : W6.heap[w.heap.size + 1]? = some (.cells #[.int .i64 1, .int .i64 1, .int .i64 3, .int .i64 7, .string ⟨#[]⟩, .int .i64 6, .int .i64 7, .int .i64 5, .int .i64 7, .string ⟨#[]⟩] 45 (0, 0)) := by rw [hW6, heap_setCell_same _ (w.heap.size + 1) 6 _ _ _ (heap_setCell_same w5 (w.heap.size + 1) 5 _ _ _ r25)]; rfl
  have r16 : W6.heap[w.heap.size]? = some (.cells #[.int .i64 0, .int .i64 1, .int .i64 1, .int .i64 7, .string ⟨#[97]⟩, .int .i64 0, .int .i64 5, .int .i64 1, .int .i64 7, .string ⟨#[97]⟩] 45 (0, 0)) := by rw [hW6, Below.heap_setCell _ _ _ _ (by show w.heap.size ≠ w.heap.size + 1; omega), Below.heap_setCell _ _ _ _ (by show w.heap.size ≠ w.heap.size + 1; omega)]; exact r15
  have p0 : W6.cell? ⟨w.heap.size, 0, none⟩ = some (.int .i64 0) := cell_of_row _ _ 0 _ _ _ r16
  have p1 : W6.cell? ⟨w.heap.size, 1, none⟩ = some (.int .i64 1) := cell_of_row _ _ 1 _ _ _ r16
  have p2 : W6.cell? ⟨w.heap.size, 2, none⟩ = some (.int .i64 1) := cell_of_row _ _ 2 _ _ _ r16
  have p3 : W6.cell? ⟨w.heap.size, 3, none⟩ = some (.int .i64 7) := cell_of_row _ _ 3 _ _ _ r16
  have p4 : W6.cell? ⟨w.heap.size, 4, none⟩ = some (.string ⟨#[97]⟩) := cell_of_row _ _ 4 _ _ _ r16
  have p5 : W6.cell? ⟨w.heap.size, 5, none⟩ = some (.int .i64 0) := cell_of_row _ _ 5 _ _ _ r16
  have p6 : W6.cell? ⟨w.heap.size, 6, none⟩ = some (.int .i64 5) := cell_of_row _ _ 6 _ _ _ r16
  have p7 : W6.cell? ⟨w.heap.size, 7, none⟩ = some (.int .i64 1) := cell_of_row _ _ 7 _ _ _ r16
  have p8 : W6.cell? ⟨w.heap.size, 8, none⟩ = some (.int .i64 7) := cell_of_row _ _ 8 _ _ _ r16
  have p9 : W6.cell? ⟨w.heap.size, 9, none⟩ = some (.string ⟨#[97]⟩) := cell_of_row _ _ 9 _ _ _ r16
  have q0 : W6.cell? ⟨w.heap.size + 1, 0, none⟩ = some (.int .i64 1) := cell_of_row _ _ 0 _ _ _ r26
  have q1 : W6.cell? ⟨w.heap.size + 1, 1, none⟩ = some (.int .i64 1) := cell_of_row _ _ 1 _ _ _ r26
  have q2 : W6.cell? ⟨w.heap.size + 1, 2, none⟩ = some (.int .i64 3) := cell_of_row _ _ 2 _ _ _ r26
  have q3 : W6.cell? ⟨w.heap.size + 1, 3, none⟩ = some (.int .i64 7) := cell_of_row _ _ 3 _ _ _ r26
  have q4 : W6.cell? ⟨w.heap.size + 1, 4, none⟩ = some (.string ⟨#[]⟩) := cell_of_row _ _ 4 _ _ _ r26
  have q5 : W6.cell? ⟨w.heap.size + 1, 5, none⟩ = some (.int .i64 6) := cell_of_row _ _ 5 _ _ _ r26
  have q6 : W6.cell? ⟨w.heap.size + 1, 6, none⟩ = some (.int .i64 7) := cell_of_row _ _ 6 _ _ _ r26
  have q7 : W6.cell? ⟨w.heap.size + 1, 7, none⟩ = some (.int .i64 5) := cell_of_row _ _ 7 _ _ _ r26
  have q8 : W6.cell? ⟨w.heap.size + 1, 8, none⟩ = some (.int .i64 7) := cell_of_row _ _ 8 _ _ _ r26
  have q9 : W6.cell? ⟨w.heap.size + 1, 9, none⟩ = some (.string ⟨#[]⟩) := cell_of_row _ _ 9 _ _ _ r26
  have hz6 : W6.heap.size = w5.heap.size := by rw [hW6]; simp [World.setCell]
  have hb56 : Below w.heap.size w5 W6 := by rw [hW6]; exact ((Below.refl _ _).setCell (p := ⟨w.heap.size + 1, 5, none⟩) (by show w.heap.size ≤ w.heap.size + 1; omega) _).setCell (p := ⟨w.heap.size + 1, 6, none⟩) (by show w.heap.size ≤ w.heap.size + 1; omega) _
  have hm6 : Made icell 1 3 W4.heap.size W6 (.slice none 0 0) ([] : List Nat) := Made.nil _ _ _
  have HM6 : Hid (∀ b, (Value.slice A3 [1, 0].length c3).ownBlock = some b → W6.heap[b]? = w5.heap[b]?) := fun b e => by
    have h1 := (HM3.out.lt b e).1
    have h2 : w.heap.size + 2 ≤ b := by have := HZ1.out; omega
    rw [hW6, Below.heap_setCell _ _ _ _ (by show b ≠ w.heap.size + 1; omega), Below.heap_setCell _ _ _ _ (by show b ≠ w.heap.size + 1; omega)]
  have HW6 := Lib.hid hW6
  have HZ6 := Lib.hid hz6
  have HB6 := Lib.hid (HB5.out.trans hb56)
  rw [hW6] at p0 p1 p2 p3 p4 p5 p6 p7 p8 p9 q0 q1 q2 q3 q4 q5 q6 q7 q8 q9
  clear hb34 hb35 hb5 r15 r25 hm5 hrl hro hz3a hz4 hW3a hW4 r26 r16 hW6 hz6 hb56 hm6 a0 a1 a2 a3 a4 a5 a6 a7 a8 a9 b0 b1 b2 b3 b4 b7 b8 b9
  go_wp2_with fail
  rw [← HW6.out]
  have hb67 : Below W6.heap.size W6 (W6.alloc (.cells #[.int .i64 0, .int .i64 1, .int .i64 1, .int .i64 7, .string ⟨#[97]⟩, .int .i64 0, .int .i64 5, .int .i64 1, .int .i64 7, .string ⟨#[97]⟩, .int .i64 1, .int .i64 1, .int .i64 3, .int .i64 7, .string ⟨#[]⟩, .int .i64 6, .int .i64 7, .int .i64 5, .int .i64 7, .string ⟨#[]⟩] 45)) := (Below.refl _ _).alloc (Nat.le_refl _) _
  have hrd6 := HRD2.out W6
  have hz6 := HZ6.out
  rw [hz6] at hrd6
  refine (search_prog (some ⟨w5.heap.size, 0, none⟩) 2 2 [exW, exL] rfl _ (by decide) ex_sizes.2 (hrd6.more (by simp [hz6]))).mono ?_
  rintro e w8 ⟨v8, rfl, _, hb8⟩
  simp only [ex_late]
  have hb68 : Below W6.heap.size W6 w8 := hb67.trans (hb8.mono hb67.size)
  have hm6 : Made icell 1 3 (W1.alloc (.cells #[.int .i64 0, .int .i64 1, .int .i64 1, .int .i64 7, .string ⟨#[97]⟩, .int .i64 0, .int .i64 5, .int .i64 1, .int .i64 7, .string ⟨#[97]⟩, .int .i64 1, .int .i64 1, .int .i64 3, .int .i64 7, .string ⟨#[]⟩, .int .i64 2, .int .i64 3, .int .i64 5, .int .i64 7, .string ⟨#[]⟩] 45)).heap.size W6 (.slice A3 [1, 0].length c3) [1, 0] := HM5.out.same HM6.out
  have hm8 := hm6.below hb68 (fun b e => (hm6.lt b e).2)
  have hrd8 := Made.rd' encI.len hm8
  obtain ⟨ad, hA8, _, h0⟩ := hrd8.at_ (i := 0) (by decide)
  obtain ⟨ad', hA8', _, h1⟩ := hrd8.at_ (i := 1) (by decide)
  have hadd : ad' = ad := by rw [hA8] at hA8'; injection hA8' with q; exact q.symm
  subst hadd hA8
  obtain ⟨g, hg, _⟩ := hm8.head
  subst hg
  have x0 : w8.cell? ⟨g, 0, none⟩ = some (.int .i64 1) := h0.one
  have x1 : w8.cell? ⟨g, 1, none⟩ = some (.int .i64 0) := h1.one
  have HB8 := Lib.hid (HB6.out.trans (hb68.mono HB6.out.size))
  clear hb67 hrd6 hz6 hb8 hb68 hm6 hm8 hrd8 h0 h1 hA8' HM6
  go_wp2_with fail
  go_ret
  exact ⟨rfl, HB8.out⟩
end Go.Proofs.Ytmfidhlhcochoaa
