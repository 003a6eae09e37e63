/- The ledger's Do: it answers 'would', and behind it the ledger has 'after'. Conditions: the operation's value is a Go string. -/
import Derived.Test.YtmfidhlhcochoaaWould
namespace Go.Proofs.Ytmfidhlhcochoaa
open Go.RowKit
set_option linter.unusedVariables false
set_option linter.unusedSimpArgs false

theorem Ledger.kept {S : Nat → Prop} {w w' : World} {b mb : Nat} {cs : List Cell} (h : Ledger w b mb cs) (hk : Kept S w w') (h1 : ¬ S b) (h2 : ¬ S mb) : Ledger w' b mb cs :=
  h.same (hk.block b h.lt.1 h1) (hk.block mb h.lt.2 h2)

set_option maxRecDepth 100000 in
set_option maxHeartbeats 4000000 in
theorem doLedger (b mb : Nat) (cs : List Cell) (o : Op) (hv : o.value.size ≤ 9223372036854775807) (w : World) (h : Ledger w b mb cs) :
    Calls Try.prog 45 #[.pointer (some ⟨b, 0, none⟩), .agg #[.int .i64 o.kind, .int .i64 o.slot, .string o.value]] w fun e w' => e = .returned (.agg #[.int .i64 (would cs o).code, .int .i64 (would cs o).slot, .string (would cs o).value]) ∧ Ledger w' b mb (after cs o) ∧ Kept (LedS b mb) w w' := by
  have hwr := would_written h.rising (o := o)
  have haf : after cs o = if (would cs o).code = 1 then putC cs ⟨(would cs o).slot, (would cs o).value⟩ else cs := rfl
  obtain ⟨hbl, hml⟩ := h.lt
  rw [haf]
  clear haf
  have hw0 := fun (W : World) (hW : Ledger W b mb cs) => wouldLedger b mb cs o hv W hW
  generalize would cs o = r at *
  go_enter Try.func45, Try.ntmps45
  have HW := Lib.hid hwr
  have HW0 := Lib.hid hw0
  clear hwr hw0
  go_wp2_with fail
  have hB : Below w.heap.size w ((w.alloc (.cells #[.int .i64 o.kind, .int .i64 o.slot, .string o.value] 38)).alloc (.cells #[.int .i64 0, .int .i64 0, .string ⟨#[]⟩] 40)) := ((Below.refl _ _).alloc (Nat.le_refl _) _).alloc (by simp) _
  refine (HW0.out _ (h.below hB)).mono ?_
  rintro e w1 ⟨rfl, hb1⟩
  have hs : ((w.alloc (.cells #[.int .i64 o.kind, .int .i64 o.slot, .string o.value] 38)).alloc (.cells #[.int .i64 0, .int .i64 0, .string ⟨#[]⟩] 40)).heap.size = w.heap.size + 2 := by simp
  have h3 : Ledger w1 b mb cs := (h.below hB).below hb1
  have h2 : w1.heap[w.heap.size + 1]? = some (.cells #[.int .i64 0, .int .i64 0, .string ⟨#[]⟩] 40 (0, 0)) := (hb1.block _ (by omega)).trans (heap_alloc2_new w _ _)
  have hs1 : w.heap.size + 2 ≤ w1.heap.size := by have := hb1.size; omega
  have hB1 : Below w.heap.size w w1 := hB.trans (hb1.mono (by omega))
  obtain ⟨W2, hW2⟩ : ∃ W2, W2 = w1.alloc (.cells #[.int .i64 r.code, .int .i64 r.slot, .string r.value] 40) := ⟨_, rfl⟩
  have hBW : Below w1.heap.size w1 W2 := by rw [hW2]; exact (Below.refl _ _).alloc (Nat.le_refl _) _
  have i2 : W2.heap[w.heap.size + 1]? = some (.cells #[.int .i64 0, .int .i64 0, .string ⟨#[]⟩] 40 (0, 0)) := (hBW.block _ (by omega)).trans h2
  have i5 : W2.heap[w1.heap.size]? = some (.cells #[.int .i64 r.code, .int .i64 r.slot, .string r.value] 40 (0, 0)) := by rw [hW2]; exact heap_alloc_new _ _
  have i3 : Ledger W2 b mb cs := h3.below hBW
  have hB2 : Below w.heap.size w W2 := hB1.trans (hBW.mono hB1.size)
  have hs2 : w1.heap.size + 1 = W2.heap.size := by rw [hW2]; simp
  have key : ∀ W3 : World, W3.heap[w.heap.size + 1]? = some (.cells #[.int .i64 0, .int .i64 0, .string ⟨#[]⟩] 40 (0, 0)) → W3.heap[w1.heap.size]? = some (.cells #[.int .i64 r.code, .int .i64 r.slot, .string r.value] 40 (0, 0)) →
      (W3.cell? ⟨w1.heap.size, 0, none⟩ = some (.int .i64 r.code) ∧ W3.cell? ⟨w1.heap.size, 1, none⟩ = some (.int .i64 r.slot) ∧ W3.cell? ⟨w1.heap.size, 2, none⟩ = some (.string r.value) ∧
       W3.cell? ⟨w.heap.size + 1, 0, none⟩ = some (.int .i64 0) ∧ W3.cell? ⟨w.heap.size + 1, 1, none⟩ = some (.int .i64 0) ∧ W3.cell? ⟨w.heap.size + 1, 2, none⟩ = some (.string ⟨#[]⟩) ∧
       W3.frozen? ⟨w.heap.size + 1, 0, none⟩ = false ∧ W3.frozen? ⟨w.heap.size + 1, 1, none⟩ = false ∧ W3.frozen? ⟨w.heap.size + 1, 2, none⟩ = false) := fun W3 q2 q5 =>
    ⟨cell_of_row W3 _ 0 _ _ _ q5, cell_of_row W3 _ 1 _ _ _ q5, cell_of_row W3 _ 2 _ _ _ q5, cell_of_row W3 _ 0 _ _ _ q2, cell_of_row W3 _ 1 _ _ _ q2, cell_of_row W3 _ 2 _ _ _ q2, frozen_of_row W3 _ 0 _ _ q2, frozen_of_row W3 _ 1 _ _ q2, frozen_of_row W3 _ 2 _ _ q2⟩
  have KEY := Lib.hid key
  have HB2 := Lib.hid hB2
  have HW2 := Lib.hid hW2
  have I3 := Lib.hid i3
  have I2 := Lib.hid i2
  have I5 := Lib.hid i5
  have HS2 := Lib.hid hs2
  clear hb1 hB hs HW0 key hB2 hW2 i3 i2 i5 hs2 h3 h2 hBW hB1 h
  by_cases hc : r.code = 1
  · have hq : (r.code == 1) = true := by simpa using hc
    have HC := Lib.hid hc
    clear hc
    go_wp2_with fail
    rw [← HW2.out]
    obtain ⟨hgood, hfree⟩ := HW.out HC.out
    refine (putLedger b mb cs r.slot r.value W2 I3.out hgood hfree).mono ?_
    rintro e w3 ⟨rfl, hl3, hk3⟩
    have hs2 := HS2.out
    have j2 := (hk3.block (w.heap.size + 1) (by omega) (by unfold LedS; omega)).trans I2.out
    have j5 := (hk3.block w1.heap.size (by omega) (by unfold LedS; omega)).trans I5.out
    obtain ⟨c0, c1, c2, d0, d1, d2, f0, f1, f2⟩ := KEY.out w3 j2 j5
    have HK3 := Lib.hid hk3
    have HL3 := Lib.hid hl3
    have J2 := Lib.hid j2
    clear j2 j5 hk3 hl3 hgood hfree hs2
    go_wp2
    refine res_end (r := ⟨1, r.slot, r.value⟩) Try.results45 rfl rfl (row3 (B := w.heap.size + 1) J2.out _ _ _) ⟨by first | rfl | rw [HC.out], ?_, ?_⟩
    · try rw [if_pos HC.out]
      refine HL3.out.same ?_ ?_
      · rw [Below.heap_setCell _ _ _ _ (by simp; omega), Below.heap_setCell _ _ _ _ (by simp; omega), Below.heap_setCell _ _ _ _ (by simp; omega)]
      · rw [Below.heap_setCell _ _ _ _ (by simp; omega), Below.heap_setCell _ _ _ _ (by simp; omega), Below.heap_setCell _ _ _ _ (by simp; omega)]
    · have hk : Kept (LedS b mb) w w3 := by
        have h1 := (Kept.of_below HB2.out (LedS b mb))
        exact h1.trans HK3.out
      exact ((hk.setCell (p := ⟨w.heap.size + 1, 0, none⟩) (fun h => by simp at h; omega) _).setCell (p := ⟨w.heap.size + 1, 1, none⟩) (fun h => by simp at h; omega) _).setCell (p := ⟨w.heap.size + 1, 2, none⟩) (fun h => by simp at h; omega) _
  · have hq : (r.code == 1) = false := by simpa using hc
    have HC := Lib.hid hc
    obtain ⟨c0, c1, c2, d0, d1, d2, f0, f1, f2⟩ := KEY.out W2 I2.out I5.out
    rw [HW2.out] at c0 c1 c2 d0 d1 d2 f0 f1 f2
    clear hc
    go_wp2
    rw [← HW2.out]
    refine res_end (r := r) Try.results45 rfl rfl (row3 (B := w.heap.size + 1) I2.out _ _ _) ⟨rfl, ?_, ?_⟩
    · try rw [if_neg HC.out]
      refine I3.out.same ?_ ?_
      · rw [Below.heap_setCell _ _ _ _ (by simp; omega), Below.heap_setCell _ _ _ _ (by simp; omega), Below.heap_setCell _ _ _ _ (by simp; omega)]
      · rw [Below.heap_setCell _ _ _ _ (by simp; omega), Below.heap_setCell _ _ _ _ (by simp; omega), Below.heap_setCell _ _ _ _ (by simp; omega)]
    · have hk := (Kept.of_below HB2.out (LedS b mb))
      exact ((hk.setCell (p := ⟨w.heap.size + 1, 0, none⟩) (fun h => by simp at h; omega) _).setCell (p := ⟨w.heap.size + 1, 1, none⟩) (fun h => by simp at h; omega) _).setCell (p := ⟨w.heap.size + 1, 2, none⟩) (fun h => by simp at h; omega) _
end Go.Proofs.Ytmfidhlhcochoaa
