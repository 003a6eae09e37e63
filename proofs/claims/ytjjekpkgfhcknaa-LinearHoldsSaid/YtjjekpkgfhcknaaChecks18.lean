/- LinearChecks answers true. Conditions: sizes within the form's own reach. -/
import Derived.Test.YtjjekpkgfhcknaaRefCheck18
import Derived.Test.YtjjekpkgfhcknaaLent
import Derived.Test.YtjjekpkgfhcknaaWorks18
import Derived.Test.YtjjekpkgfhcknaaOpen18
namespace Go.Proofs.Ytjjekpkgfhcknaa
open Go.RowKit
set_option linter.unusedVariables false
set_option linter.unusedSimpArgs false

/-- What was lent, and the list itself, stay in whatever grows beyond. -/
structure Own18 (w W : World) (A : Option Addr) (l : List Call) (g c : Nat) : Prop where
  below : Below w.heap.size w W
  own : Made Call.cells 10 28 w.heap.size W (.slice (some ⟨g, 0, none⟩) (l.length + 1) c) (l ++ [markC])
  list : Rd Call.cells 10 W w.heap.size A l
  room : l.length + 1 ≤ c
theorem Own18.step {w W W' : World} {A : Option Addr} {l : List Call} {g c : Nat} (h : Own18 w W A l g c) (hb : Below W.heap.size W W') : Own18 w W' A l g c :=
  ⟨h.below.trans (hb.mono h.below.size), h.own.below hb (fun b e => (h.own.lt b e).2), h.list.below (hb.mono h.below.size), h.room⟩
theorem Own18.rdL {w W : World} {A : Option Addr} {l : List Call} {g c : Nat} (h : Own18 w W A l g c) : Rd Call.cells 10 W W.heap.size A l := h.list.more h.below.size
theorem Own18.rdO {w W : World} {A : Option Addr} {l : List Call} {g c : Nat} (h : Own18 w W A l g c) : Rd Call.cells 10 W W.heap.size (some ⟨g, 0, none⟩) l := by
  have h1 := (Made.rd' encCall.len h.own).take l.length
  rwa [List.take_left] at h1

set_option maxRecDepth 100000 in
set_option maxHeartbeats 8000000 in
theorem checks18_calls (A : Option Addr) (c n : Nat) (l : List Call) (hn : n = l.length) (w : World) (hl : (l.length + 1) * 96 ≤ 140737488355328) (hv : ∀ x ∈ l, x.op.value.size ≤ 9223372036854775807) (ha : Rd Call.cells 10 w w.heap.size A l) (a b : Call) :
    Calls Try.prog 3 #[.slice A n c, .agg #[.int .i64 a.client, .int .i64 a.number, .int .i64 a.op.kind, .int .i64 a.op.slot, .string a.op.value, .int .i64 a.beg, .int .i64 a.fin, .int .i64 a.res.code, .int .i64 a.res.slot, .string a.res.value], .agg #[.int .i64 b.client, .int .i64 b.number, .int .i64 b.op.kind, .int .i64 b.op.slot, .string b.op.value, .int .i64 b.beg, .int .i64 b.fin, .int .i64 b.res.code, .int .i64 b.res.slot, .string b.res.value]] w fun e w' => e = .returned (.bool true) ∧ Below w.heap.size w w' := by
  subst hn
  have HA := Lib.hid ha
  have HV := Lib.hid hv
  clear ha hv
  go_enter Try.func3, Try.ntmps3
  go_wp2_with fail
  obtain ⟨W1, hW1⟩ : ∃ W1, W1 = (w.alloc (.cells #[.int .i64 a.client, .int .i64 a.number, .int .i64 a.op.kind, .int .i64 a.op.slot, .string a.op.value, .int .i64 a.beg, .int .i64 a.fin, .int .i64 a.res.code, .int .i64 a.res.slot, .string a.res.value] 28)).alloc (.cells #[.int .i64 b.client, .int .i64 b.number, .int .i64 b.op.kind, .int .i64 b.op.slot, .string b.op.value, .int .i64 b.beg, .int .i64 b.fin, .int .i64 b.res.code, .int .i64 b.res.slot, .string b.res.value] 28) := ⟨_, rfl⟩
  have hz1 : W1.heap.size = w.heap.size + 2 := by rw [hW1]; simp
  have hb1 : Below w.heap.size w W1 := by rw [hW1]; exact ((Below.refl _ _).alloc (Nat.le_refl _) _).alloc (by simp) _
  have h0 : W1.heap[w.heap.size]? = some (.cells #[.int .i64 a.client, .int .i64 a.number, .int .i64 a.op.kind, .int .i64 a.op.slot, .string a.op.value, .int .i64 a.beg, .int .i64 a.fin, .int .i64 a.res.code, .int .i64 a.res.slot, .string a.res.value] 28 (0, 0)) := by rw [hW1, heap_alloc_old _ _ (by simp)]; exact heap_alloc_new _ _
  have h1 : W1.heap[w.heap.size + 1]? = some (.cells #[.int .i64 b.client, .int .i64 b.number, .int .i64 b.op.kind, .int .i64 b.op.slot, .string b.op.value, .int .i64 b.beg, .int .i64 b.fin, .int .i64 b.res.code, .int .i64 b.res.slot, .string b.res.value] 28 (0, 0)) := by rw [hW1]; exact heap_alloc2_new w _ _
  rw [← hW1]
  refine (lent_prog A c l.length l rfl W1 hl ((HA.out.below hb1).more hb1.size)).mono ?_
  rintro e w2 ⟨g, c2, rfl, hm2, hc2, hb2⟩
  have hown : Own18 w w2 A l g c2 := ⟨hb1.trans (hb2.mono hb1.size), hm2.base' hb1.size, (HA.out.below hb1).below (hb2.mono hb1.size), hc2⟩
  have HOWN := Lib.hid hown
  have h12 : w.heap.size + 2 ≤ w2.heap.size := by have := hb2.size; omega
  have KEY : Hid (∀ W, Below w2.heap.size w2 W → W.cell? ⟨w.heap.size, 0, none⟩ = some (.int .i64 a.client) ∧ W.cell? ⟨w.heap.size, 1, none⟩ = some (.int .i64 a.number) ∧ W.cell? ⟨w.heap.size, 2, none⟩ = some (.int .i64 a.op.kind) ∧ W.cell? ⟨w.heap.size, 3, none⟩ = some (.int .i64 a.op.slot) ∧ W.cell? ⟨w.heap.size, 4, none⟩ = some (.string a.op.value) ∧ W.cell? ⟨w.heap.size, 5, none⟩ = some (.int .i64 a.beg) ∧ W.cell? ⟨w.heap.size, 6, none⟩ = some (.int .i64 a.fin) ∧ W.cell? ⟨w.heap.size, 7, none⟩ = some (.int .i64 a.res.code) ∧ W.cell? ⟨w.heap.size, 8, none⟩ = some (.int .i64 a.res.slot) ∧ W.cell? ⟨w.heap.size, 9, none⟩ = some (.string a.res.value) ∧ W.cell? ⟨w.heap.size + 1, 0, none⟩ = some (.int .i64 b.client) ∧ W.cell? ⟨w.heap.size + 1, 1, none⟩ = some (.int .i64 b.number) ∧ W.cell? ⟨w.heap.size + 1, 2, none⟩ = some (.int .i64 b.op.kind) ∧ W.cell? ⟨w.heap.size + 1, 3, none⟩ = some (.int .i64 b.op.slot) ∧ W.cell? ⟨w.heap.size + 1, 4, none⟩ = some (.string b.op.value) ∧ W.cell? ⟨w.heap.size + 1, 5, none⟩ = some (.int .i64 b.beg) ∧ W.cell? ⟨w.heap.size + 1, 6, none⟩ = some (.int .i64 b.fin) ∧ W.cell? ⟨w.heap.size + 1, 7, none⟩ = some (.int .i64 b.res.code) ∧ W.cell? ⟨w.heap.size + 1, 8, none⟩ = some (.int .i64 b.res.slot) ∧ W.cell? ⟨w.heap.size + 1, 9, none⟩ = some (.string b.res.value)) := fun W hW => by
    have hq : ∀ {k : Nat} {o : Obj}, k < w.heap.size + 2 → W1.heap[k]? = some o → W.heap[k]? = some o := fun hk e => (hW.block _ (by omega)).trans ((hb2.block _ (by omega)).trans e)
    have q0 := hq (by omega) h0
    have q1 := hq (by omega) h1
    exact ⟨cell_of_row _ _ 0 _ _ _ q0, cell_of_row _ _ 1 _ _ _ q0, cell_of_row _ _ 2 _ _ _ q0, cell_of_row _ _ 3 _ _ _ q0, cell_of_row _ _ 4 _ _ _ q0, cell_of_row _ _ 5 _ _ _ q0, cell_of_row _ _ 6 _ _ _ q0, cell_of_row _ _ 7 _ _ _ q0, cell_of_row _ _ 8 _ _ _ q0, cell_of_row _ _ 9 _ _ _ q0, cell_of_row _ _ 0 _ _ _ q1, cell_of_row _ _ 1 _ _ _ q1, cell_of_row _ _ 2 _ _ _ q1, cell_of_row _ _ 3 _ _ _ q1, cell_of_row _ _ 4 _ _ _ q1, cell_of_row _ _ 5 _ _ _ q1, cell_of_row _ _ 6 _ _ _ q1, cell_of_row _ _ 7 _ _ _ q1, cell_of_row _ _ 8 _ _ _ q1, cell_of_row _ _ 9 _ _ _ q1⟩
  have hpe : ∀ p q : Bool, (p == q) = decide (p = q) := fun p q => by cases p <;> cases q <;> rfl
  clear hb1 h0 h1 hm2 hc2 hb2 hW1 hown
  dsimp only
  go_wp2_with fail
  go_region_held3 (fun W => W.cell? ⟨w.heap.size, 0, none⟩ = some (.int .i64 a.client) ∧ W.cell? ⟨w.heap.size, 1, none⟩ = some (.int .i64 a.number) ∧ W.cell? ⟨w.heap.size, 2, none⟩ = some (.int .i64 a.op.kind) ∧ W.cell? ⟨w.heap.size, 3, none⟩ = some (.int .i64 a.op.slot) ∧ W.cell? ⟨w.heap.size, 4, none⟩ = some (.string a.op.value) ∧ W.cell? ⟨w.heap.size, 5, none⟩ = some (.int .i64 a.beg) ∧ W.cell? ⟨w.heap.size, 6, none⟩ = some (.int .i64 a.fin) ∧ W.cell? ⟨w.heap.size, 7, none⟩ = some (.int .i64 a.res.code) ∧ W.cell? ⟨w.heap.size, 8, none⟩ = some (.int .i64 a.res.slot) ∧ W.cell? ⟨w.heap.size, 9, none⟩ = some (.string a.res.value) ∧ W.cell? ⟨w.heap.size + 1, 0, none⟩ = some (.int .i64 b.client) ∧ W.cell? ⟨w.heap.size + 1, 1, none⟩ = some (.int .i64 b.number) ∧ W.cell? ⟨w.heap.size + 1, 2, none⟩ = some (.int .i64 b.op.kind) ∧ W.cell? ⟨w.heap.size + 1, 3, none⟩ = some (.int .i64 b.op.slot) ∧ W.cell? ⟨w.heap.size + 1, 4, none⟩ = some (.string b.op.value) ∧ W.cell? ⟨w.heap.size + 1, 5, none⟩ = some (.int .i64 b.beg) ∧ W.cell? ⟨w.heap.size + 1, 6, none⟩ = some (.int .i64 b.fin) ∧ W.cell? ⟨w.heap.size + 1, 7, none⟩ = some (.int .i64 b.res.code) ∧ W.cell? ⟨w.heap.size + 1, 8, none⟩ = some (.int .i64 b.res.slot) ∧ W.cell? ⟨w.heap.size + 1, 9, none⟩ = some (.string b.res.value))
    (first
      | exact KEY.out _ HB8.out
      | exact KEY.out _ HB7.out
      | exact KEY.out _ HB6.out
      | exact KEY.out _ HB5.out
      | exact KEY.out _ HB4.out
      | exact KEY.out _ HB3.out
      | exact KEY.out _ (by exact ⟨rfl, rfl, rfl, Nat.le_refl _, fun _ _ => rfl⟩)
      | go_keep)
    (first
      | (go_at_call 14
         refine (linCheck (some ⟨g, 0, none⟩) c2 l.length l rfl _ (by omega) HV.out (by exact HOWN.out.rdO)).mono ?_
         rintro e w3 ⟨rfl, hb3⟩
         have hb3' : Below w2.heap.size w2 w3 := ⟨hb3.os, hb3.tape, hb3.output, hb3.size, hb3.block⟩
         have HB3 := Lib.hid hb3'
         have HO3 := Lib.hid (HOWN.out.step hb3')
         clear hb3 hb3')
      | (go_at_call 15
         refine (refCheck A c l.length l rfl _ (by omega) HV.out HO3.out.rdL).mono ?_
         rintro e w4 ⟨rfl, hb4⟩
         have HB4 := Lib.hid (HB3.out.trans (hb4.mono HB3.out.size))
         have HO4 := Lib.hid (HO3.out.step hb4)
         clear hb4)
      | (go_at_call 16
         refine (precedes_prog a b _).mono ?_
         rintro e w5 ⟨rfl, hb5⟩
         have HB5 := Lib.hid (HB4.out.trans (hb5.mono HB4.out.size))
         have HO5 := Lib.hid (HO4.out.step hb5)
         clear hb5)
      | (go_at_call 17
         refine (precedes_ref a b _).mono ?_
         rintro e w6 ⟨rfl, hb6⟩
         have HB6 := Lib.hid (HB5.out.trans (hb6.mono HB5.out.size))
         have HO6 := Lib.hid (HO5.out.step hb6)
         clear hb6)
      | (go_at_call 18
         refine (kept_prog g c2 c l.length A l rfl _ (by omega) HO6.out.room HO6.out.own HO6.out.rdL).mono ?_
         rintro e w7 ⟨rfl, q7, hw7⟩
         have hb7 : Below w6.heap.size w6 w7 := by rw [hw7]; exact below_drewN (Below.refl _ _) _
         have HB7 := Lib.hid (HB6.out.trans (hb7.mono HB6.out.size))
         have HO7 := Lib.hid (HO6.out.step hb7)
         clear hw7 hb7)
      | (go_at_call 19
         refine (works18 _).mono ?_
         rintro e w8 ⟨rfl, hb8⟩
         have HB8 := Lib.hid (HB7.out.trans (hb8.mono HB7.out.size))
         have HO8 := Lib.hid (HO7.out.step hb8)
         clear hb8))
  go_wp2_with fail
  go_ret
  exact ⟨rfl, HO8.out.below⟩
theorem checks18_law (W : World) (A : Option Addr) (c n : Nat) (xs : List Call) (hn : n = xs.length) (_ : n ≤ c) (hrd : Rd Call.cells 10 W W.heap.size A xs) (hwf : ∀ o ∈ xs, o.wf) (hsz : xs.length * 96 ≤ 140737488351232) (a : Call) (_ : a.wf) (b : Call) (_ : b.wf) :
    Calls Try.prog 3 #[.slice A n c, .agg #[.int .i64 a.client, .int .i64 a.number, .int .i64 a.op.kind, .int .i64 a.op.slot, .string a.op.value, .int .i64 a.beg, .int .i64 a.fin, .int .i64 a.res.code, .int .i64 a.res.slot, .string a.res.value], .agg #[.int .i64 b.client, .int .i64 b.number, .int .i64 b.op.kind, .int .i64 b.op.slot, .string b.op.value, .int .i64 b.beg, .int .i64 b.fin, .int .i64 b.res.code, .int .i64 b.res.slot, .string b.res.value]] W fun e w' => e = .returned (.bool true) ∧ Below W.heap.size W w' :=
  checks18_calls A c n xs hn W (by omega) (fun o ho => (hwf o ho).op.value) hrd a b
end Go.Proofs.Ytjjekpkgfhcknaa
