/- LedgerChecks answers true, whatever the operation. Conditions: none. -/
import Derived.Test.YtdmeijemfneafaaWorks04
import Derived.Deep.RegionHeld3
namespace Go.Proofs.Ytdmeijemfneafaa
open Go.RowKit

set_option maxRecDepth 100000 in
set_option maxHeartbeats 4000000 in
theorem checks_calls (o : Op) (hv : o.value.size ≤ 9223372036854775807) (w : World) : Calls Try.prog 3 #[.agg #[.int .i64 o.kind, .int .i64 o.slot, .string o.value]] w fun e w' => e = .returned (.bool true) ∧ Below w.heap.size w w' := by
  go_enter Try.func3, Try.ntmps3
  go_wp2_with fail
  have hB0 : Below w.heap.size w (w.alloc (.cells #[.int .i64 o.kind, .int .i64 o.slot, .string o.value] 23)) := (Below.refl _ _).alloc (Nat.le_refl _) _
  have h0 := heap_alloc_new w (.cells #[.int .i64 o.kind, .int .i64 o.slot, .string o.value] 23)
  obtain ⟨w0, hw0⟩ : ∃ w0, w0 = w.alloc (.cells #[.int .i64 o.kind, .int .i64 o.slot, .string o.value] 23) := ⟨_, rfl⟩
  rw [← hw0] at h0 hB0 ⊢
  have hs0 : w.heap.size < w0.heap.size := by rw [hw0]; simp
  have c0 : w0.cell? ⟨w.heap.size, 0, none⟩ = some (.int .i64 o.kind) := cell_of_row w0 _ 0 _ _ _ h0
  have c1 : w0.cell? ⟨w.heap.size, 1, none⟩ = some (.int .i64 o.slot) := cell_of_row w0 _ 1 _ _ _ h0
  have c2 : w0.cell? ⟨w.heap.size, 2, none⟩ = some (.string o.value) := cell_of_row w0 _ 2 _ _ _ h0
  clear hw0 h0
  go_region_held3 (fun w' => w'.cell? ⟨w.heap.size, 0, none⟩ = some (.int .i64 o.kind) ∧ w'.cell? ⟨w.heap.size, 1, none⟩ = some (.int .i64 o.slot) ∧ w'.cell? ⟨w.heap.size, 2, none⟩ = some (.string o.value))
    (first
      | go_keep
      | (go_split_ands
         refine ⟨?_, ?_, ?_⟩
         · (rw [hb3.cell (p := ⟨w.heap.size, 0, none⟩) (by exact hs2)]; assumption)
         · (rw [hb3.cell (p := ⟨w.heap.size, 1, none⟩) (by exact hs2)]; assumption)
         · (rw [hb3.cell (p := ⟨w.heap.size, 2, none⟩) (by exact hs2)]; assumption))
      | (go_split_ands
         refine ⟨?_, ?_, ?_⟩
         · (rw [hb2.cell (p := ⟨w.heap.size, 0, none⟩) (by exact hs1)]; assumption)
         · (rw [hb2.cell (p := ⟨w.heap.size, 1, none⟩) (by exact hs1)]; assumption)
         · (rw [hb2.cell (p := ⟨w.heap.size, 2, none⟩) (by exact hs1)]; assumption))
      | (go_split_ands
         refine ⟨?_, ?_, ?_⟩
         · (rw [hb1.cell (p := ⟨w.heap.size, 0, none⟩) (by exact hs0)]; assumption)
         · (rw [hb1.cell (p := ⟨w.heap.size, 1, none⟩) (by exact hs0)]; assumption)
         · (rw [hb1.cell (p := ⟨w.heap.size, 2, none⟩) (by exact hs0)]; assumption)))
    (first
      | (go_at_call 35
         refine (check_prog o hv _).mono ?_
         rintro e w1 ⟨rfl, hb1⟩
         have hs1 : w.heap.size < w1.heap.size := Nat.lt_of_lt_of_le hs0 hb1.size)
      | (go_at_call 36
         refine (check_ref o hv _).mono ?_
         rintro e w2 ⟨rfl, hb2⟩
         have hs2 : w.heap.size < w2.heap.size := Nat.lt_of_lt_of_le hs1 hb2.size)
      | (go_at_call 37
         refine (works04 _).mono ?_
         rintro e w3 ⟨rfl, hb3⟩))
  go_wp2
  go_ret
  exact ⟨rfl, (((below_drewN hB0 1).trans (hb1.mono (Nat.le_of_lt hs0))).trans (hb2.mono (Nat.le_of_lt hs1))).trans (hb3.mono (Nat.le_of_lt hs2))⟩
theorem checks_law (W : World) (o : Op) (hk : o.value.size ≤ 9223372036854775807) : Calls Try.prog 3 #[.agg #[.int .i64 o.kind, .int .i64 o.slot, .string o.value]] W fun e w' => e = .returned (.bool true) ∧ Below W.heap.size W w' := checks_calls o hk W
end Go.Proofs.Ytdmeijemfneafaa
