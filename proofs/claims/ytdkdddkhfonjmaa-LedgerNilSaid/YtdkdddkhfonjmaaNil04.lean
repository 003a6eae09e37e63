/- Calls on a nil ledger, and on a ledger that no call made. Conditions: none. -/
import Derived.Test.YtdkdddkhfonjmaaClone2
import Derived.Test.YtdkdddkhfonjmaaWorks04
import Derived.Test.YtdkdddkhfonjmaaDoRef
import Derived.Maps.OwnSet
namespace Go.Proofs.Ytdkdddkhfonjmaa
open Go.RowKit Go.Shelf
set_option linter.unusedVariables false
set_option linter.unusedSimpArgs false

/-- The zero ledger: a nil map. -/
def Zero (W : World) (b : Nat) : Prop := W.heap[b]? = some (.cells #[.map none, .int .i64 0] 67 (0, 0))

set_option maxRecDepth 100000 in
theorem lookZero (W : World) (k : Value) (hk : ∃ j : Int, k = .int .i64 j := by exact ⟨_, rfl⟩) : (Instr.lookup 65 (.map none) k true).run Try.prog W = .ok (.tuple #[.agg #[.string ⟨#[]⟩], .bool false]) W := by
  obtain ⟨j, rfl⟩ := hk
  exact lookup_nil undMap undInt (zeroV W) j true
theorem nilGet (w : World) : Calls Try.prog 17 #[.pointer none, .int .i64 0] w fun e w' => e = .returned (.tuple #[.string ⟨#[]⟩, .bool false]) ∧ Below w.heap.size w w' := by
  go_enter Try.func17, Try.ntmps17
  go_wp2_with fail
  go_ret2
  exact ⟨rfl, by first | exact Below.refl _ _ | exact (Below.refl _ _).alloc (Nat.le_refl _) _⟩
theorem nilLen (w : World) : Calls Try.prog 20 #[.pointer none] w fun e w' => e = .returned (.int .i64 0) ∧ Below w.heap.size w w' := by
  go_enter Try.func20, Try.ntmps20
  go_wp2_with fail
  go_ret
  exact ⟨rfl, Below.refl _ _⟩
theorem nilCells (w : World) : Calls Try.prog 11 #[.pointer none] w fun e w' => e = .returned (.slice none 0 0) ∧ Below w.heap.size w w' := by
  go_enter Try.func11, Try.ntmps11
  go_wp2_with fail
  go_ret
  exact ⟨rfl, by first | exact Below.refl _ _ | exact (Below.refl _ _).alloc (Nat.le_refl _) _⟩
set_option maxRecDepth 100000 in
theorem nilWould (w : World) : Calls Try.prog 19 #[.pointer none, .agg #[.int .i64 4, .int .i64 0, .string ⟨#[]⟩]] w fun e w' => e = .returned (.agg #[.int .i64 0, .int .i64 0, .string ⟨#[]⟩]) ∧ Below w.heap.size w w' := by
  go_enter Try.func19, Try.ntmps19
  go_wp2_with fail
  exact res_end (r := ⟨0, 0, ⟨#[]⟩⟩) (B := w.heap.size + 1) Try.results19 rfl rfl (heap_alloc2_new w _ _) ⟨rfl, ((Below.refl _ _).alloc (Nat.le_refl _) _).alloc (by simp) _⟩

set_option maxRecDepth 100000 in
set_option maxHeartbeats 2000000 in
theorem wouldZeroR (b : Nat) (w : World) (h : Zero w b) :
    Calls Try.prog 19 #[.pointer (some ⟨b, 0, none⟩), .agg #[.int .i64 3, .int .i64 0, .string ⟨#[]⟩]] w fun e w' => e = .returned (.agg #[.int .i64 (⟨5, 0, ⟨#[]⟩⟩ : Res).code, .int .i64 (⟨5, 0, ⟨#[]⟩⟩ : Res).slot, .string (⟨5, 0, ⟨#[]⟩⟩ : Res).value]) ∧ Below w.heap.size w w' := by
  have HZ := Lib.hid h
  clear h
  go_enter Try.func19, Try.ntmps19
  go_wp2_with fail
  refine (check_prog ⟨3, 0, ⟨#[]⟩⟩ (by simp [ByteArray.size]) _).mono ?_
  rintro e w1 ⟨rfl, hb1⟩
  obtain ⟨h1, h2, hs, hB⟩ := doRef_start ⟨3, 0, ⟨#[]⟩⟩ w w1 hb1
  have hz := (hB.block b (Array.getElem?_eq_some_iff.1 HZ.out).1).trans HZ.out
  rw [show checkOp ⟨3, 0, ⟨#[]⟩⟩ = 0 from by decide]
  have b0 := cell_of_row w1 b 0 _ _ _ hz
  have b1 := cell_of_row w1 b 1 _ _ _ hz
  have f0 : w1.frozen? ⟨w.heap.size + 1, 0, none⟩ = false := frozen_of_row w1 _ 0 _ _ h2
  have f1 : w1.frozen? ⟨w.heap.size + 1, 1, none⟩ = false := frozen_of_row w1 _ 1 _ _ h2
  have f2 : w1.frozen? ⟨w.heap.size + 1, 2, none⟩ = false := frozen_of_row w1 _ 2 _ _ h2
  have c0 : w1.cell? ⟨w.heap.size + 1, 0, none⟩ = some (.int .i64 0) := cell_of_row w1 _ 0 _ _ _ h2
  have c1 : w1.cell? ⟨w.heap.size + 1, 1, none⟩ = some (.int .i64 0) := cell_of_row w1 _ 1 _ _ _ h2
  have c2 : w1.cell? ⟨w.heap.size + 1, 2, none⟩ = some (.string ⟨#[]⟩) := cell_of_row w1 _ 2 _ _ _ h2
  have d0 : w1.cell? ⟨w.heap.size, 0, none⟩ = some (.int .i64 3) := cell_of_row w1 _ 0 _ _ _ h1
  have d1 : w1.cell? ⟨w.heap.size, 1, none⟩ = some (.int .i64 0) := cell_of_row w1 _ 1 _ _ _ h1
  have d2 : w1.cell? ⟨w.heap.size, 2, none⟩ = some (.string ⟨#[]⟩) := cell_of_row w1 _ 2 _ _ _ h1
  have H2 := Lib.hid h2
  have HB := Lib.hid hB
  have HO := Lib.hid h1
  have HZ1 := Lib.hid hz
  have HBL : Hid (b < w1.heap.size) := (Array.getElem?_eq_some_iff.1 hz).1
  clear hb1 h1 h2 hz hB
  dsimp only
  have l1 := lookZero w1.drew (.int .i64 0)
  have l2 := lookZero (w1.alloc (.cells #[.string ⟨#[]⟩] 70)).drew (.int .i64 0)
  have hbl : b < w1.heap.size := HBL.out
  have d1a : (w1.alloc (.cells #[.string ⟨#[]⟩] 70)).cell? ⟨w.heap.size, 1, none⟩ = some (.int .i64 0) := (World.cell?_alloc_lt _ _ _ (by show w.heap.size < w1.heap.size; omega)).trans d1
  have e0a : (w1.alloc (.cells #[.string ⟨#[]⟩] 70)).cell? ⟨b, 0, none⟩ = some (.map none) := (World.cell?_alloc_lt _ _ _ hbl).trans b0
  obtain ⟨W2, hW2⟩ : ∃ W2, W2 = (w1.alloc (.cells #[.string ⟨#[]⟩] 70)).drew := ⟨_, rfl⟩
  have hk2 : ∀ k, k < w1.heap.size → W2.heap[k]? = w1.heap[k]? := fun k hk => by rw [hW2]; exact Below.heap_alloc _ _ _ hk
  have H1 := Lib.hid ((hk2 w.heap.size (by omega)).trans HO.out)
  have H2' := Lib.hid ((hk2 (w.heap.size + 1) (by omega)).trans H2.out)
  have H3 := Lib.hid ((hk2 b hbl).trans HZ1.out)
  have H4 : Hid (W2.heap[w1.heap.size]? = some (.cells #[.string ⟨#[]⟩] 70 (0, 0))) := by show _ = _; rw [hW2]; exact heap_alloc_new _ _
  have HB2 : Hid (Below w.heap.size w W2) := by rw [hW2]; exact (HB.out.alloc HB.out.size _).drew
  have hln := fun (W : World) (ty : TypeId) => Maps.len_nil (w := W) undMap ty
  have HW2 := Lib.hid hW2
  clear hW2 hk2
  go_wp2_with fail
  go_region
  all_goals
    clear l1 l2 d1a e0a d1 b0 b1 f0 f1 f2 c0 c1 c2 d0 d2
    rw [← HW2.out]
    have g0 : W2.cell? ⟨w1.heap.size, 0, none⟩ = some (.string ⟨#[]⟩) := cell_of_row W2 _ 0 _ _ _ H4.out
    have f0 : W2.frozen? ⟨w.heap.size + 1, 0, none⟩ = false := frozen_of_row W2 _ 0 _ _ H2'.out
    have f1 : W2.frozen? ⟨w.heap.size + 1, 1, none⟩ = false := frozen_of_row W2 _ 1 _ _ H2'.out
    have f2 : W2.frozen? ⟨w.heap.size + 1, 2, none⟩ = false := frozen_of_row W2 _ 2 _ _ H2'.out
    have c0 : W2.cell? ⟨w.heap.size + 1, 0, none⟩ = some (.int .i64 0) := cell_of_row W2 _ 0 _ _ _ H2'.out
    have c1 : W2.cell? ⟨w.heap.size + 1, 1, none⟩ = some (.int .i64 0) := cell_of_row W2 _ 1 _ _ _ H2'.out
    have c2 : W2.cell? ⟨w.heap.size + 1, 2, none⟩ = some (.string ⟨#[]⟩) := cell_of_row W2 _ 2 _ _ _ H2'.out
    have d0 : W2.cell? ⟨w.heap.size, 0, none⟩ = some (.int .i64 3) := cell_of_row W2 _ 0 _ _ _ H1.out
    have d1 : W2.cell? ⟨w.heap.size, 1, none⟩ = some (.int .i64 0) := cell_of_row W2 _ 1 _ _ _ H1.out
    have d2 : W2.cell? ⟨w.heap.size, 2, none⟩ = some (.string ⟨#[]⟩) := cell_of_row W2 _ 2 _ _ _ H1.out
    have e0 : W2.cell? ⟨b, 0, none⟩ = some (.map none) := cell_of_row W2 b 0 _ _ _ H3.out
    have e1 : W2.cell? ⟨b, 1, none⟩ = some (.int .i64 0) := cell_of_row W2 b 1 _ _ _ H3.out
    go_wp2
    exact res_end (r := ⟨5, 0, ⟨#[]⟩⟩) Try.results19 rfl rfl (row3 (B := w.heap.size + 1) H2'.out _ _ _) ⟨rfl, below3 HB2.out (by omega) _ _ _⟩

set_option maxRecDepth 100000 in
set_option maxHeartbeats 2000000 in
theorem wouldZeroW (b : Nat) (w : World) (h : Zero w b) :
    Calls Try.prog 19 #[.pointer (some ⟨b, 0, none⟩), .agg #[.int .i64 1, .int .i64 3, .string ⟨#[97]⟩]] w fun e w' => e = .returned (.agg #[.int .i64 (⟨1, 3, ⟨#[97]⟩⟩ : Res).code, .int .i64 (⟨1, 3, ⟨#[97]⟩⟩ : Res).slot, .string (⟨1, 3, ⟨#[97]⟩⟩ : Res).value]) ∧ Below w.heap.size w w' := by
  have HZ := Lib.hid h
  clear h
  go_enter Try.func19, Try.ntmps19
  go_wp2_with fail
  refine (check_prog ⟨1, 3, ⟨#[97]⟩⟩ (by simp [ByteArray.size]) _).mono ?_
  rintro e w1 ⟨rfl, hb1⟩
  obtain ⟨h1, h2, hs, hB⟩ := doRef_start ⟨1, 3, ⟨#[97]⟩⟩ w w1 hb1
  have hz := (hB.block b (Array.getElem?_eq_some_iff.1 HZ.out).1).trans HZ.out
  rw [show checkOp ⟨1, 3, ⟨#[97]⟩⟩ = 0 from by decide]
  have b0 := cell_of_row w1 b 0 _ _ _ hz
  have b1 := cell_of_row w1 b 1 _ _ _ hz
  have f0 : w1.frozen? ⟨w.heap.size + 1, 0, none⟩ = false := frozen_of_row w1 _ 0 _ _ h2
  have f1 : w1.frozen? ⟨w.heap.size + 1, 1, none⟩ = false := frozen_of_row w1 _ 1 _ _ h2
  have f2 : w1.frozen? ⟨w.heap.size + 1, 2, none⟩ = false := frozen_of_row w1 _ 2 _ _ h2
  have c0 : w1.cell? ⟨w.heap.size + 1, 0, none⟩ = some (.int .i64 0) := cell_of_row w1 _ 0 _ _ _ h2
  have c1 : w1.cell? ⟨w.heap.size + 1, 1, none⟩ = some (.int .i64 0) := cell_of_row w1 _ 1 _ _ _ h2
  have c2 : w1.cell? ⟨w.heap.size + 1, 2, none⟩ = some (.string ⟨#[]⟩) := cell_of_row w1 _ 2 _ _ _ h2
  have d0 : w1.cell? ⟨w.heap.size, 0, none⟩ = some (.int .i64 1) := cell_of_row w1 _ 0 _ _ _ h1
  have d1 : w1.cell? ⟨w.heap.size, 1, none⟩ = some (.int .i64 3) := cell_of_row w1 _ 1 _ _ _ h1
  have d2 : w1.cell? ⟨w.heap.size, 2, none⟩ = some (.string ⟨#[97]⟩) := cell_of_row w1 _ 2 _ _ _ h1
  have H2 := Lib.hid h2
  have HB := Lib.hid hB
  have HO := Lib.hid h1
  have HZ1 := Lib.hid hz
  have HBL : Hid (b < w1.heap.size) := (Array.getElem?_eq_some_iff.1 hz).1
  clear hb1 h1 h2 hz hB
  dsimp only
  have l1 := lookZero w1.drew (.int .i64 3)
  have l2 := lookZero (w1.alloc (.cells #[.string ⟨#[]⟩] 70)).drew (.int .i64 3)
  have hbl : b < w1.heap.size := HBL.out
  have d1a : (w1.alloc (.cells #[.string ⟨#[]⟩] 70)).cell? ⟨w.heap.size, 1, none⟩ = some (.int .i64 3) := (World.cell?_alloc_lt _ _ _ (by show w.heap.size < w1.heap.size; omega)).trans d1
  have e0a : (w1.alloc (.cells #[.string ⟨#[]⟩] 70)).cell? ⟨b, 0, none⟩ = some (.map none) := (World.cell?_alloc_lt _ _ _ hbl).trans b0
  obtain ⟨W2, hW2⟩ : ∃ W2, W2 = (w1.alloc (.cells #[.string ⟨#[]⟩] 70)).drew := ⟨_, rfl⟩
  have hk2 : ∀ k, k < w1.heap.size → W2.heap[k]? = w1.heap[k]? := fun k hk => by rw [hW2]; exact Below.heap_alloc _ _ _ hk
  have H1 := Lib.hid ((hk2 w.heap.size (by omega)).trans HO.out)
  have H2' := Lib.hid ((hk2 (w.heap.size + 1) (by omega)).trans H2.out)
  have H3 := Lib.hid ((hk2 b hbl).trans HZ1.out)
  have H4 : Hid (W2.heap[w1.heap.size]? = some (.cells #[.string ⟨#[]⟩] 70 (0, 0))) := by show _ = _; rw [hW2]; exact heap_alloc_new _ _
  have HB2 : Hid (Below w.heap.size w W2) := by rw [hW2]; exact (HB.out.alloc HB.out.size _).drew
  have hln := fun (W : World) (ty : TypeId) => Maps.len_nil (w := W) undMap ty
  have HW2 := Lib.hid hW2
  clear hW2 hk2
  go_wp2_with fail
  go_region
  all_goals
    clear l1 l2 d1a e0a d1 b0 b1 f0 f1 f2 c0 c1 c2 d0 d2
    rw [← HW2.out]
    have g0 : W2.cell? ⟨w1.heap.size, 0, none⟩ = some (.string ⟨#[]⟩) := cell_of_row W2 _ 0 _ _ _ H4.out
    have f0 : W2.frozen? ⟨w.heap.size + 1, 0, none⟩ = false := frozen_of_row W2 _ 0 _ _ H2'.out
    have f1 : W2.frozen? ⟨w.heap.size + 1, 1, none⟩ = false := frozen_of_row W2 _ 1 _ _ H2'.out
    have f2 : W2.frozen? ⟨w.heap.size + 1, 2, none⟩ = false := frozen_of_row W2 _ 2 _ _ H2'.out
    have c0 : W2.cell? ⟨w.heap.size + 1, 0, none⟩ = some (.int .i64 0) := cell_of_row W2 _ 0 _ _ _ H2'.out
    have c1 : W2.cell? ⟨w.heap.size + 1, 1, none⟩ = some (.int .i64 0) := cell_of_row W2 _ 1 _ _ _ H2'.out
    have c2 : W2.cell? ⟨w.heap.size + 1, 2, none⟩ = some (.string ⟨#[]⟩) := cell_of_row W2 _ 2 _ _ _ H2'.out
    have d0 : W2.cell? ⟨w.heap.size, 0, none⟩ = some (.int .i64 1) := cell_of_row W2 _ 0 _ _ _ H1.out
    have d1 : W2.cell? ⟨w.heap.size, 1, none⟩ = some (.int .i64 3) := cell_of_row W2 _ 1 _ _ _ H1.out
    have d2 : W2.cell? ⟨w.heap.size, 2, none⟩ = some (.string ⟨#[97]⟩) := cell_of_row W2 _ 2 _ _ _ H1.out
    have e0 : W2.cell? ⟨b, 0, none⟩ = some (.map none) := cell_of_row W2 b 0 _ _ _ H3.out
    have e1 : W2.cell? ⟨b, 1, none⟩ = some (.int .i64 0) := cell_of_row W2 b 1 _ _ _ H3.out
    go_wp2
    exact res_end (r := ⟨1, 3, ⟨#[97]⟩⟩) Try.results19 rfl rfl (row3 (B := w.heap.size + 1) H2'.out _ _ _) ⟨rfl, below3 HB2.out (by omega) _ _ _⟩

set_option maxRecDepth 100000 in
set_option maxHeartbeats 2000000 in
theorem wouldZeroA (b : Nat) (w : World) (h : Zero w b) :
    Calls Try.prog 19 #[.pointer (some ⟨b, 0, none⟩), .agg #[.int .i64 2, .int .i64 0, .string ⟨#[]⟩]] w fun e w' => e = .returned (.agg #[.int .i64 (⟨1, 0, ⟨#[]⟩⟩ : Res).code, .int .i64 (⟨1, 0, ⟨#[]⟩⟩ : Res).slot, .string (⟨1, 0, ⟨#[]⟩⟩ : Res).value]) ∧ Below w.heap.size w w' := by
  have HZ := Lib.hid h
  clear h
  go_enter Try.func19, Try.ntmps19
  go_wp2_with fail
  refine (check_prog ⟨2, 0, ⟨#[]⟩⟩ (by simp [ByteArray.size]) _).mono ?_
  rintro e w1 ⟨rfl, hb1⟩
  obtain ⟨h1, h2, hs, hB⟩ := doRef_start ⟨2, 0, ⟨#[]⟩⟩ w w1 hb1
  have hz := (hB.block b (Array.getElem?_eq_some_iff.1 HZ.out).1).trans HZ.out
  rw [show checkOp ⟨2, 0, ⟨#[]⟩⟩ = 0 from by decide]
  have b0 := cell_of_row w1 b 0 _ _ _ hz
  have b1 := cell_of_row w1 b 1 _ _ _ hz
  have f0 : w1.frozen? ⟨w.heap.size + 1, 0, none⟩ = false := frozen_of_row w1 _ 0 _ _ h2
  have f1 : w1.frozen? ⟨w.heap.size + 1, 1, none⟩ = false := frozen_of_row w1 _ 1 _ _ h2
  have f2 : w1.frozen? ⟨w.heap.size + 1, 2, none⟩ = false := frozen_of_row w1 _ 2 _ _ h2
  have c0 : w1.cell? ⟨w.heap.size + 1, 0, none⟩ = some (.int .i64 0) := cell_of_row w1 _ 0 _ _ _ h2
  have c1 : w1.cell? ⟨w.heap.size + 1, 1, none⟩ = some (.int .i64 0) := cell_of_row w1 _ 1 _ _ _ h2
  have c2 : w1.cell? ⟨w.heap.size + 1, 2, none⟩ = some (.string ⟨#[]⟩) := cell_of_row w1 _ 2 _ _ _ h2
  have d0 : w1.cell? ⟨w.heap.size, 0, none⟩ = some (.int .i64 2) := cell_of_row w1 _ 0 _ _ _ h1
  have d1 : w1.cell? ⟨w.heap.size, 1, none⟩ = some (.int .i64 0) := cell_of_row w1 _ 1 _ _ _ h1
  have d2 : w1.cell? ⟨w.heap.size, 2, none⟩ = some (.string ⟨#[]⟩) := cell_of_row w1 _ 2 _ _ _ h1
  have H2 := Lib.hid h2
  have HB := Lib.hid hB
  have HO := Lib.hid h1
  have HZ1 := Lib.hid hz
  have HBL : Hid (b < w1.heap.size) := (Array.getElem?_eq_some_iff.1 hz).1
  clear hb1 h1 h2 hz hB
  dsimp only
  have l1 := lookZero w1.drew (.int .i64 0)
  have l2 := lookZero (w1.alloc (.cells #[.string ⟨#[]⟩] 70)).drew (.int .i64 0)
  have hbl : b < w1.heap.size := HBL.out
  have d1a : (w1.alloc (.cells #[.string ⟨#[]⟩] 70)).cell? ⟨w.heap.size, 1, none⟩ = some (.int .i64 0) := (World.cell?_alloc_lt _ _ _ (by show w.heap.size < w1.heap.size; omega)).trans d1
  have e0a : (w1.alloc (.cells #[.string ⟨#[]⟩] 70)).cell? ⟨b, 0, none⟩ = some (.map none) := (World.cell?_alloc_lt _ _ _ hbl).trans b0
  obtain ⟨W2, hW2⟩ : ∃ W2, W2 = (w1.alloc (.cells #[.string ⟨#[]⟩] 70)).drew := ⟨_, rfl⟩
  have hk2 : ∀ k, k < w1.heap.size → W2.heap[k]? = w1.heap[k]? := fun k hk => by rw [hW2]; exact Below.heap_alloc _ _ _ hk
  have H1 := Lib.hid ((hk2 w.heap.size (by omega)).trans HO.out)
  have H2' := Lib.hid ((hk2 (w.heap.size + 1) (by omega)).trans H2.out)
  have H3 := Lib.hid ((hk2 b hbl).trans HZ1.out)
  have H4 : Hid (W2.heap[w1.heap.size]? = some (.cells #[.string ⟨#[]⟩] 70 (0, 0))) := by show _ = _; rw [hW2]; exact heap_alloc_new _ _
  have HB2 : Hid (Below w.heap.size w W2) := by rw [hW2]; exact (HB.out.alloc HB.out.size _).drew
  have hln := fun (W : World) (ty : TypeId) => Maps.len_nil (w := W) undMap ty
  have HW2 := Lib.hid hW2
  clear hW2 hk2
  go_wp2_with fail
  go_region
  all_goals
    clear l1 l2 d1a e0a d1 b0 b1 f0 f1 f2 c0 c1 c2 d0 d2
    rw [← HW2.out]
    have g0 : W2.cell? ⟨w1.heap.size, 0, none⟩ = some (.string ⟨#[]⟩) := cell_of_row W2 _ 0 _ _ _ H4.out
    have f0 : W2.frozen? ⟨w.heap.size + 1, 0, none⟩ = false := frozen_of_row W2 _ 0 _ _ H2'.out
    have f1 : W2.frozen? ⟨w.heap.size + 1, 1, none⟩ = false := frozen_of_row W2 _ 1 _ _ H2'.out
    have f2 : W2.frozen? ⟨w.heap.size + 1, 2, none⟩ = false := frozen_of_row W2 _ 2 _ _ H2'.out
    have c0 : W2.cell? ⟨w.heap.size + 1, 0, none⟩ = some (.int .i64 0) := cell_of_row W2 _ 0 _ _ _ H2'.out
    have c1 : W2.cell? ⟨w.heap.size + 1, 1, none⟩ = some (.int .i64 0) := cell_of_row W2 _ 1 _ _ _ H2'.out
    have c2 : W2.cell? ⟨w.heap.size + 1, 2, none⟩ = some (.string ⟨#[]⟩) := cell_of_row W2 _ 2 _ _ _ H2'.out
    have d0 : W2.cell? ⟨w.heap.size, 0, none⟩ = some (.int .i64 2) := cell_of_row W2 _ 0 _ _ _ H1.out
    have d1 : W2.cell? ⟨w.heap.size, 1, none⟩ = some (.int .i64 0) := cell_of_row W2 _ 1 _ _ _ H1.out
    have d2 : W2.cell? ⟨w.heap.size, 2, none⟩ = some (.string ⟨#[]⟩) := cell_of_row W2 _ 2 _ _ _ H1.out
    have e0 : W2.cell? ⟨b, 0, none⟩ = some (.map none) := cell_of_row W2 b 0 _ _ _ H3.out
    have e1 : W2.cell? ⟨b, 1, none⟩ = some (.int .i64 0) := cell_of_row W2 b 1 _ _ _ H3.out
    go_wp2
    go_region
    all_goals
      go_wp2
      exact res_end (r := ⟨1, 0, ⟨#[]⟩⟩) Try.results19 rfl rfl (row3 (B := w.heap.size + 1) H2'.out _ _ _) ⟨rfl, by first | exact below3 HB2.out (by omega) _ _ _ | exact below3 HB2.out.drew (by omega) _ _ _⟩

set_option maxRecDepth 100000 in
set_option maxHeartbeats 2000000 in
theorem wouldZeroN (b : Nat) (w : World) (h : Zero w b) :
    Calls Try.prog 19 #[.pointer (some ⟨b, 0, none⟩), .agg #[.int .i64 4, .int .i64 0, .string ⟨#[]⟩]] w fun e w' => e = .returned (.agg #[.int .i64 (⟨6, 0, ⟨#[]⟩⟩ : Res).code, .int .i64 (⟨6, 0, ⟨#[]⟩⟩ : Res).slot, .string (⟨6, 0, ⟨#[]⟩⟩ : Res).value]) ∧ Below w.heap.size w w' := by
  have HZ := Lib.hid h
  clear h
  go_enter Try.func19, Try.ntmps19
  go_wp2_with fail
  refine (check_prog ⟨4, 0, ⟨#[]⟩⟩ (by simp [ByteArray.size]) _).mono ?_
  rintro e w1 ⟨rfl, hb1⟩
  obtain ⟨h1, h2, hs, hB⟩ := doRef_start ⟨4, 0, ⟨#[]⟩⟩ w w1 hb1
  have hz := (hB.block b (Array.getElem?_eq_some_iff.1 HZ.out).1).trans HZ.out
  rw [show checkOp ⟨4, 0, ⟨#[]⟩⟩ = 0 from by decide]
  have b0 := cell_of_row w1 b 0 _ _ _ hz
  have b1 := cell_of_row w1 b 1 _ _ _ hz
  have f0 : w1.frozen? ⟨w.heap.size + 1, 0, none⟩ = false := frozen_of_row w1 _ 0 _ _ h2
  have f1 : w1.frozen? ⟨w.heap.size + 1, 1, none⟩ = false := frozen_of_row w1 _ 1 _ _ h2
  have f2 : w1.frozen? ⟨w.heap.size + 1, 2, none⟩ = false := frozen_of_row w1 _ 2 _ _ h2
  have c0 : w1.cell? ⟨w.heap.size + 1, 0, none⟩ = some (.int .i64 0) := cell_of_row w1 _ 0 _ _ _ h2
  have c1 : w1.cell? ⟨w.heap.size + 1, 1, none⟩ = some (.int .i64 0) := cell_of_row w1 _ 1 _ _ _ h2
  have c2 : w1.cell? ⟨w.heap.size + 1, 2, none⟩ = some (.string ⟨#[]⟩) := cell_of_row w1 _ 2 _ _ _ h2
  have d0 : w1.cell? ⟨w.heap.size, 0, none⟩ = some (.int .i64 4) := cell_of_row w1 _ 0 _ _ _ h1
  have d1 : w1.cell? ⟨w.heap.size, 1, none⟩ = some (.int .i64 0) := cell_of_row w1 _ 1 _ _ _ h1
  have d2 : w1.cell? ⟨w.heap.size, 2, none⟩ = some (.string ⟨#[]⟩) := cell_of_row w1 _ 2 _ _ _ h1
  have H2 := Lib.hid h2
  have HB := Lib.hid hB
  have HO := Lib.hid h1
  have HZ1 := Lib.hid hz
  have HBL : Hid (b < w1.heap.size) := (Array.getElem?_eq_some_iff.1 hz).1
  clear hb1 h1 h2 hz hB
  dsimp only
  have l1 := lookZero w1.drew (.int .i64 0)
  have l2 := lookZero (w1.alloc (.cells #[.string ⟨#[]⟩] 70)).drew (.int .i64 0)
  have hbl : b < w1.heap.size := HBL.out
  have d1a : (w1.alloc (.cells #[.string ⟨#[]⟩] 70)).cell? ⟨w.heap.size, 1, none⟩ = some (.int .i64 0) := (World.cell?_alloc_lt _ _ _ (by show w.heap.size < w1.heap.size; omega)).trans d1
  have e0a : (w1.alloc (.cells #[.string ⟨#[]⟩] 70)).cell? ⟨b, 0, none⟩ = some (.map none) := (World.cell?_alloc_lt _ _ _ hbl).trans b0
  obtain ⟨W2, hW2⟩ : ∃ W2, W2 = (w1.alloc (.cells #[.string ⟨#[]⟩] 70)).drew := ⟨_, rfl⟩
  have hk2 : ∀ k, k < w1.heap.size → W2.heap[k]? = w1.heap[k]? := fun k hk => by rw [hW2]; exact Below.heap_alloc _ _ _ hk
  have H1 := Lib.hid ((hk2 w.heap.size (by omega)).trans HO.out)
  have H2' := Lib.hid ((hk2 (w.heap.size + 1) (by omega)).trans H2.out)
  have H3 := Lib.hid ((hk2 b hbl).trans HZ1.out)
  have H4 : Hid (W2.heap[w1.heap.size]? = some (.cells #[.string ⟨#[]⟩] 70 (0, 0))) := by show _ = _; rw [hW2]; exact heap_alloc_new _ _
  have HB2 : Hid (Below w.heap.size w W2) := by rw [hW2]; exact (HB.out.alloc HB.out.size _).drew
  have hln := fun (W : World) (ty : TypeId) => Maps.len_nil (w := W) undMap ty
  have HW2 := Lib.hid hW2
  clear hW2 hk2
  go_wp2_with fail
  go_region
  all_goals
    clear l1 l2 d1a e0a d1 b0 b1 f0 f1 f2 c0 c1 c2 d0 d2
    rw [← HW2.out]
    have g0 : W2.cell? ⟨w1.heap.size, 0, none⟩ = some (.string ⟨#[]⟩) := cell_of_row W2 _ 0 _ _ _ H4.out
    have f0 : W2.frozen? ⟨w.heap.size + 1, 0, none⟩ = false := frozen_of_row W2 _ 0 _ _ H2'.out
    have f1 : W2.frozen? ⟨w.heap.size + 1, 1, none⟩ = false := frozen_of_row W2 _ 1 _ _ H2'.out
    have f2 : W2.frozen? ⟨w.heap.size + 1, 2, none⟩ = false := frozen_of_row W2 _ 2 _ _ H2'.out
    have c0 : W2.cell? ⟨w.heap.size + 1, 0, none⟩ = some (.int .i64 0) := cell_of_row W2 _ 0 _ _ _ H2'.out
    have c1 : W2.cell? ⟨w.heap.size + 1, 1, none⟩ = some (.int .i64 0) := cell_of_row W2 _ 1 _ _ _ H2'.out
    have c2 : W2.cell? ⟨w.heap.size + 1, 2, none⟩ = some (.string ⟨#[]⟩) := cell_of_row W2 _ 2 _ _ _ H2'.out
    have d0 : W2.cell? ⟨w.heap.size, 0, none⟩ = some (.int .i64 4) := cell_of_row W2 _ 0 _ _ _ H1.out
    have d1 : W2.cell? ⟨w.heap.size, 1, none⟩ = some (.int .i64 0) := cell_of_row W2 _ 1 _ _ _ H1.out
    have d2 : W2.cell? ⟨w.heap.size, 2, none⟩ = some (.string ⟨#[]⟩) := cell_of_row W2 _ 2 _ _ _ H1.out
    have e0 : W2.cell? ⟨b, 0, none⟩ = some (.map none) := cell_of_row W2 b 0 _ _ _ H3.out
    have e1 : W2.cell? ⟨b, 1, none⟩ = some (.int .i64 0) := cell_of_row W2 b 1 _ _ _ H3.out
    go_wp2
    exact res_end (r := ⟨6, 0, ⟨#[]⟩⟩) Try.results19 rfl rfl (row3 (B := w.heap.size + 1) H2'.out _ _ _) ⟨rfl, below3 HB2.out (by omega) _ _ _⟩
theorem zeroGet (b : Nat) (w : World) (h : Zero w b) : Calls Try.prog 17 #[.pointer (some ⟨b, 0, none⟩), .int .i64 3] w fun e w' => (∃ v, e = .returned v) ∧ Below w.heap.size w w' := by
  have b0 := cell_of_row w b 0 _ _ _ h
  have l1 := lookZero w (.int .i64 3)
  have HZ := Lib.hid h
  clear h
  go_enter Try.func17, Try.ntmps17
  go_wp2_with fail
  go_ret2
  exact ⟨⟨_, rfl⟩, (Below.refl _ _).alloc (Nat.le_refl _) _⟩
theorem zeroLen (b : Nat) (w : World) (h : Zero w b) : Calls Try.prog 20 #[.pointer (some ⟨b, 0, none⟩)] w fun e w' => (∃ v, e = .returned v) ∧ Below w.heap.size w w' := by
  have b0 := cell_of_row w b 0 _ _ _ h
  have hln := fun (W : World) (ty : TypeId) => Maps.len_nil (w := W) undMap ty
  have HZ := Lib.hid h
  clear h
  go_enter Try.func20, Try.ntmps20
  go_wp2_with fail
  go_ret
  exact ⟨⟨_, rfl⟩, Below.refl _ _⟩
set_option maxRecDepth 100000 in
set_option maxHeartbeats 1000000 in
theorem zeroCells (b : Nat) (w : World) (h : Zero w b) : Calls Try.prog 11 #[.pointer (some ⟨b, 0, none⟩)] w fun e w' => ∃ v, e = .returned v ∧ Made Cell.cells 2 29 w.heap.size w' v [] ∧ Below w.heap.size w w' := by
  have b0 := cell_of_row w b 0 _ _ _ h
  have HZ := Lib.hid h
  clear h
  have hr := fun (W : World) => run_range_nilMap (P := Try.prog) W 65 _ _ undMap
  have hn := fun (W : World) (ty : TypeId) (a b : Nat) (s : Array Nat) => run_next_nilMap (P := Try.prog) W ty a b s
  go_enter Try.func11, Try.ntmps11
  go_wp2_with fail
  refine wp_loop_rounds 1 ?_
  rw [rounds_succ]
  go_wp2_with fail
  refine (sortNone none 0 _ _).mono ?_
  rintro e w0 ⟨rfl, hw0⟩
  rw [hw0]
  clear hw0 w0
  dsimp only
  go_wp2_with fail
  go_ret
  exact ⟨_, rfl, Made.nil _ _ _, (Below.refl _ _).alloc (Nat.le_refl _) _⟩
set_option maxRecDepth 100000 in
set_option maxHeartbeats 1000000 in
theorem zeroPut (b : Nat) (k : Int) (s : ByteArray) (hg : Good ⟨k, s⟩) (w : World) (h : Zero w b) :
    Calls Try.prog 24 #[.pointer (some ⟨b, 0, none⟩), .int .i64 k, .string s] w fun e w' => e = .returned (.tuple #[]) ∧ Ledger w' b w.heap.size [⟨k, s⟩] ∧ Kept (fun j => j = b) w w' := by
  have b0 := cell_of_row w b 0 _ _ _ h
  have f0 : w.frozen? ⟨b, 0, none⟩ = false := frozen_of_row w b 0 _ _ h
  have hmm := @run_makeMap Try.prog
  have HZ := Lib.hid h
  clear h
  have hbl : b < w.heap.size := (Array.getElem?_eq_some_iff.1 HZ.out).1
  have hnil := fun (W : World) (r : Option Nat) => run_eql_map_nil (P := Try.prog) W 65 _ _ r undMap
  obtain ⟨hk0, hk1, hk2⟩ := hg
  simp only at hk0 hk1 hk2
  have hsz : (w.setCell ⟨b, 0, none⟩ (.map (some w.heap.size))).heap.size = w.heap.size := by simp [World.setCell]
  have HM : Hid (MapIs evS ((w.setCell ⟨b, 0, none⟩ (.map (some w.heap.size))).alloc (.map #[] 0)) w.heap.size []) := by
    have h := MapIs.new (ev := evS) (w.setCell ⟨b, 0, none⟩ (.map (some w.heap.size)))
    rw [hsz] at h
    exact h
  have HX : Hid (((w.setCell ⟨b, 0, none⟩ (.map (some w.heap.size))).alloc (.map #[] 0)).heap[b]? = some (.cells #[.map (some w.heap.size), .int .i64 0] 67 (0, 0))) := by
    show _ = _
    rw [heap_alloc_old _ _ (by rw [hsz]; exact hbl), heap_setCell_same _ _ _ _ _ _ HZ.out]
    rfl
  clear hsz
  go_enter Try.func24, Try.ntmps24
  go_wp2_with (at_mapUpdate; refine wpList_update (ev := evS) (ps := []) HM.out rfl _ _ _ rfl undMap undInt rfl k rfl s rfl ?_; intro w1 hm1 hg1 hs1; have hb1 := (hg1.block b (by simp [World.setCell]; omega) (fun e => by cases e; omega)).trans HX.out; have c1 : w1.cell? ⟨b, 1, none⟩ = some (.int .i64 0) := cell_of_row w1 b 1 _ _ _ hb1; have f1 : w1.frozen? ⟨b, 1, none⟩ = false := frozen_of_row w1 b 1 _ _ hb1; have HB1 := Lib.hid hb1; have HG1 := Lib.hid hg1; have HM1 := Lib.hid hm1; clear hb1 hg1 hm1)
  all_goals
    go_end0
    have hval : ∀ v : Int, v = k + 1 → Ledger (w1.setCell ⟨b, 1, none⟩ (.int .i64 v)) b w.heap.size [⟨k, s⟩] ∧ Kept (fun j => j = b) w (w1.setCell ⟨b, 1, none⟩ (.int .i64 v)) := fun v hv => by
      refine ⟨⟨[(k, s)], ?_, HM1.out.same (Below.heap_setCell _ _ _ _ (by simp; omega)), List.Perm.refl _, ⟨by simp, fun c hc => by simp at hc; subst hc; exact ⟨hk0, hk1, hk2⟩⟩⟩, ?_⟩
      · rw [heap_setCell_same w1 b 1 _ _ _ HB1.out, hv]
        simp [nextC]
      · refine ⟨HG1.out.os, HG1.out.tape, HG1.out.output, ?_, fun j hj hn => ?_⟩
        · have h9 := HG1.out.size
          simp [World.setCell] at h9 ⊢
          omega
        · refine (Below.heap_setCell _ _ _ _ hn).trans ((HG1.out.block j (by simp [World.setCell]; omega) (fun e => by cases e; omega)).trans ?_)
          rw [heap_alloc_old _ _ (by simp [World.setCell]; omega)]
          exact Below.heap_setCell _ _ _ _ hn
    exact ⟨rfl, hval _ (by omega)⟩
end Go.Proofs.Ytdkdddkhfonjmaa
