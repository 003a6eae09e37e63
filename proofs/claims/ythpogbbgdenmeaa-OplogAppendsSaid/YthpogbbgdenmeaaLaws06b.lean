/- OplogSplices, OplogAppends answer true, whatever the arguments. Conditions: sizes within the form's own reach. -/
import Derived.Test.YthpogbbgdenmeaaLaws06
import Derived.Test.YthpogbbgdenmeaaSplice
import Derived.Deep.RegionHeld3
namespace Go.Proofs.Ythpogbbgdenmeaa
open Go.RowKit
set_option linter.unusedVariables false
set_option linter.unusedSimpArgs false

set_option maxRecDepth 100000 in
set_option maxHeartbeats 1600000 in
theorem splices_calls (A A' : Option Addr) (c c' n m : Nat) (xs ys : List Entry) (room k : Int) (hk : I64 k) (hn : n = xs.length) (hm : m = ys.length) (hc : n ≤ c) (hc' : m ≤ c') (w : World) (hb : (xs.length + 1) * 48 ≤ 140737488355328) (hb' : (ys.length + 1) * 48 ≤ 140737488355328) (hv : ∀ x ∈ xs, x.op.value.size ≤ 9223372036854775807) (hv' : ∀ x ∈ ys, x.op.value.size ≤ 9223372036854775807) (ha : Rd Entry.cells 5 w w.heap.size A xs) (ha' : Rd Entry.cells 5 w w.heap.size A' ys) :
    Calls Try.prog 7 #[.slice A n c, .int .i64 room, .int .i64 k, .slice A' m c'] w fun e w' => e = .returned (.bool true) ∧ Below w.heap.size w w' := by
  subst hn; subst hm
  obtain ⟨zl, hzl⟩ : ∃ zl, zl = (if splE xs room k ys = 0 then xs.take (k - 1).toNat ++ ys else []) := ⟨_, rfl⟩
  have hll : zl.length ≤ xs.length + ys.length := by rw [hzl]; split <;> simp; omega
  obtain ⟨z, hz⟩ : ∃ z, z = splE xs room k ys := ⟨_, rfl⟩
  have hp := fun w1 A1 A2 c1 c2 h1 h2 r1 r2 => splice_prog A1 A2 c1 c2 xs.length ys.length xs ys room k hk rfl rfl h1 h2 w1 (by omega) (by omega) hv hv' r1 r2
  have hr := fun w1 r1 r2 => splice_ref A A' c c' xs.length ys.length xs ys room k hk rfl rfl hc hc' w1 (by omega) (by omega) hv hv' r1 r2
  rw [← hzl, ← hz] at hp hr
  have HP := Lib.hid hp
  have HRf := Lib.hid hr
  have HA := Lib.hid ha
  have HA' := Lib.hid ha'
  clear hp hr hz hzl ha ha' hk
  go_enter Try.func7, Try.ntmps7
  go_wp2_with fail
  refine (givenEntries w.heap.size w.heap.size [] A c xs _ (given_new w _ (Nat.le_refl _)) (by simp) hb (HA.out.keep fun q hq => World.cell?_alloc_lt _ _ _ hq)).mono ?_
  rintro e w1 ⟨A1, c1, rfl, hc1, hg1, _, hb1⟩
  have hbw1 : Below w.heap.size w w1 := ((Below.refl _ w).alloc (Nat.le_refl _) _).trans hb1
  clear hb1
  dsimp only
  go_wp2_with fail
  refine (givenEntries w.heap.size w.heap.size _ A' c' ys w1 hg1 (by simp) hb' (HA'.out.below hbw1)).mono ?_
  rintro e w2 ⟨A2, c2, rfl, hc2, hg2, _, hb2⟩
  have hbw2 := hbw1.trans hb2
  have rx : Rd Entry.cells 5 w2 w2.heap.size A1 xs := hg2.get (g := ⟨A1, c1, xs⟩) (by simp)
  have ry : Rd Entry.cells 5 w2 w2.heap.size A2 ys := hg2.get (g := ⟨A2, c2, ys⟩) (by simp)
  have HG2 := Lib.hid hg2
  clear hb2 hg1 hg2 hbw1
  dsimp only
  go_wp2_with fail
  refine (HP.out w2 A1 A2 c1 c2 (by omega) (by omega) rx ry).mono ?_
  rintro e w3 ⟨v3, rfl, hm3, hb3⟩
  obtain ⟨A3, c3, rfl, _⟩ := hm3.form
  have HG3 := Lib.hid (HG2.out.below hb3)
  have hbw3 := hbw2.trans (hb3.mono hbw2.size)
  have hr3 := hm3.rd' encEntry.len
  clear hb3 hm3 HG2 rx ry HP
  dsimp only
  go_wp2_with fail
  refine (HRf.out w3 ((HA.out.below hbw3).more hbw3.size) ((HA'.out.below hbw3).more hbw3.size)).mono ?_
  rintro e w4 ⟨v4, rfl, hm4, hb4⟩
  obtain ⟨A4, c4, rfl, _⟩ := hm4.form
  have HG4 := Lib.hid (HG3.out.below hb4)
  have hbw4 := hbw3.trans (hb4.mono hbw3.size)
  have hr4 := hm4.rd' encEntry.len
  have hr3' := (hr3.below hb4).more hb4.size
  clear hb4 hm4 HG3 hr3 HRf
  dsimp only
  go_wp2_with fail
  refine (sameTrue A3 A4 c3 c4 _ zl rfl w4 (by omega) hr3' hr4).mono ?_
  rintro e w' ⟨rfl, q1, rfl⟩
  dsimp only
  go_wp2_with fail
  refine (givenIntact w.heap.size w.heap.size _ _ (by exact HG4.out) (by simp)).mono ?_
  rintro e w' ⟨rfl, q2, rfl⟩
  dsimp only
  go_wp2_with fail
  refine (works06 _).mono ?_
  rintro e w6 ⟨rfl, hb6⟩
  have hbw6 := (below_drewN hbw4 (q1 + q2)).trans (hb6.mono hbw4.size)
  dsimp only
  go_wp2_with fail
  go_ret
  exact ⟨rfl, hbw6⟩
theorem splices_law (W : World) (A0 : Option Addr) (c0 n0 : Nat) (xs0 : List Entry) (hn0 : n0 = xs0.length) (hc0 : n0 ≤ c0) (hr0 : Rd Entry.cells 5 W W.heap.size A0 xs0) (hw0 : ∀ x ∈ xs0, x.wf) (hs0 : xs0.length * 48 ≤ 140737488351232)
    (room : Int) (_ : I64 room) (k : Int) (hk : I64 k) (A1 : Option Addr) (c1 n1 : Nat) (xs1 : List Entry) (hn1 : n1 = xs1.length) (hc1 : n1 ≤ c1) (hr1 : Rd Entry.cells 5 W W.heap.size A1 xs1) (hw1 : ∀ x ∈ xs1, x.wf) (hs1 : xs1.length * 48 ≤ 140737488351232) :
    Calls Try.prog 7 #[.slice A0 n0 c0, .int .i64 room, .int .i64 k, .slice A1 n1 c1] W fun e w' => e = .returned (.bool true) ∧ Below W.heap.size W w' :=
  splices_calls A0 A1 c0 c1 n0 n1 xs0 xs1 room k hk hn0 hn1 hc0 hc1 W (by omega) (by omega) (wf_vals hw0) (wf_vals hw1) hr0 hr1

set_option maxRecDepth 100000 in
set_option maxHeartbeats 3200000 in
theorem appends_calls (A : Option Addr) (c n : Nat) (xs : List Entry) (room : Int) (x : Entry) (hx : x.op.value.size ≤ 9223372036854775807) (hn : n = xs.length) (hc : n ≤ c) (w : World) (hb : (xs.length + 1) * 48 ≤ 140737488355328) (hv : ∀ x ∈ xs, x.op.value.size ≤ 9223372036854775807) (ha : Rd Entry.cells 5 w w.heap.size A xs) :
    Calls Try.prog 4 #[.slice A n c, .int .i64 room, .agg #[.int .i64 x.client, .int .i64 x.number, .int .i64 x.op.kind, .int .i64 x.op.slot, .string x.op.value]] w fun e w' => e = .returned (.bool true) ∧ Below w.heap.size w w' := by
  subst hn
  obtain ⟨zl, hzl⟩ : ∃ zl, zl = (if appE xs room x = 0 then xs ++ [x] else []) := ⟨_, rfl⟩
  have hll : zl.length ≤ xs.length + 1 := by rw [hzl]; split <;> simp
  obtain ⟨z, hz⟩ : ∃ z, z = appE xs room x := ⟨_, rfl⟩
  have hp := fun w1 A1 c1 r1 => append_prog A1 c1 xs.length xs room x rfl w1 (by omega) hx hv r1
  have hr := fun w1 r1 => append_ref A c xs.length xs room x rfl hc w1 (by omega) hx hv r1
  rw [← hzl, ← hz] at hp hr
  have HP := Lib.hid hp
  have HRf := Lib.hid hr
  have HA := Lib.hid ha
  clear hp hr hz hzl ha
  obtain ⟨W0, hW0⟩ : ∃ W0, W0 = w.alloc (.cells #[.int .i64 x.client, .int .i64 x.number, .int .i64 x.op.kind, .int .i64 x.op.slot, .string x.op.value] 41) := ⟨_, rfl⟩
  have hb0 : Below w.heap.size w W0 := by rw [hW0]; exact (Below.refl _ _).alloc (Nat.le_refl _) _
  have hs0 : W0.heap.size = w.heap.size + 1 := by rw [hW0]; simp
  have k0 : W0.heap[w.heap.size]? = some (.cells #[.int .i64 x.client, .int .i64 x.number, .int .i64 x.op.kind, .int .i64 x.op.slot, .string x.op.value] 41 (0, 0)) := by rw [hW0]; exact heap_alloc_new _ _
  obtain ⟨W1, hW1⟩ : ∃ W1, W1 = W0.alloc (.cells #[.slice none 0 0, .slice none 0 0, .slice none 0 0, .slice none 0 0, .slice none 0 0, .slice none 0 0, .slice none 0 0, .slice none 0 0, .slice none 0 0, .slice none 0 0] 29) := ⟨_, rfl⟩
  have hb01 : Below W0.heap.size W0 W1 := by rw [hW1]; exact (Below.refl _ _).alloc (Nat.le_refl _) _
  have hgv : Given W1 (w.heap.size + 1) (w.heap.size + 1) [] := by
    have := given_new W0 (w.heap.size + 1) (by omega)
    rw [← hW1] at this
    rwa [hs0] at this
  have HGV := Lib.hid hgv
  have hs1 : W1.heap.size = w.heap.size + 2 := by rw [hW1]; simp [hs0]
  have k1 := (hb01.block _ (by omega)).trans k0
  have hB1 := hb0.trans (hb01.mono hb0.size)
  have c0 : W1.cell? ⟨w.heap.size, 0, none⟩ = some (.int .i64 x.client) := cell_of_row _ _ 0 _ _ _ k1
  have c1 : W1.cell? ⟨w.heap.size, 1, none⟩ = some (.int .i64 x.number) := cell_of_row _ _ 1 _ _ _ k1
  have c2 : W1.cell? ⟨w.heap.size, 2, none⟩ = some (.int .i64 x.op.kind) := cell_of_row _ _ 2 _ _ _ k1
  have c3 : W1.cell? ⟨w.heap.size, 3, none⟩ = some (.int .i64 x.op.slot) := cell_of_row _ _ 3 _ _ _ k1
  have c4 : W1.cell? ⟨w.heap.size, 4, none⟩ = some (.string x.op.value) := cell_of_row _ _ 4 _ _ _ k1
  have hra1 : Rd Entry.cells 5 W1 (w.heap.size + 1) A xs := (HA.out.below hB1).more (by omega)
  have HK1 := Lib.hid k1
  have HRA1 := Lib.hid hra1
  go_enter Try.func4, Try.ntmps4
  go_wp2_with fail
  rw [← hW0, ← hW1]
  clear hW0 hW1 k0 hb01 hb0 hs0 k1 hra1 hgv
  go_region_held3 (fun w' => w'.cell? ⟨w.heap.size, 0, none⟩ = some (.int .i64 x.client) ∧ w'.cell? ⟨w.heap.size, 1, none⟩ = some (.int .i64 x.number) ∧ w'.cell? ⟨w.heap.size, 2, none⟩ = some (.int .i64 x.op.kind) ∧ w'.cell? ⟨w.heap.size, 3, none⟩ = some (.int .i64 x.op.slot) ∧ w'.cell? ⟨w.heap.size, 4, none⟩ = some (.string x.op.value))
    (first
      | go_keep
      | (go_split_ands
         refine ⟨?_, ?_, ?_, ?_, ?_⟩
         · (rw [hb3.cell (p := ⟨w.heap.size, 0, none⟩) (by exact hs2)]; assumption)
         · (rw [hb3.cell (p := ⟨w.heap.size, 1, none⟩) (by exact hs2)]; assumption)
         · (rw [hb3.cell (p := ⟨w.heap.size, 2, none⟩) (by exact hs2)]; assumption)
         · (rw [hb3.cell (p := ⟨w.heap.size, 3, none⟩) (by exact hs2)]; assumption)
         · (rw [hb3.cell (p := ⟨w.heap.size, 4, none⟩) (by exact hs2)]; assumption))
      | (go_split_ands
         refine ⟨?_, ?_, ?_, ?_, ?_⟩
         · (rw [hb2.cell (p := ⟨w.heap.size, 0, none⟩) (by simp)]; assumption)
         · (rw [hb2.cell (p := ⟨w.heap.size, 1, none⟩) (by simp)]; assumption)
         · (rw [hb2.cell (p := ⟨w.heap.size, 2, none⟩) (by simp)]; assumption)
         · (rw [hb2.cell (p := ⟨w.heap.size, 3, none⟩) (by simp)]; assumption)
         · (rw [hb2.cell (p := ⟨w.heap.size, 4, none⟩) (by simp)]; assumption)))
    (first
      | (go_at_call 14
         refine (givenEntries (w.heap.size + 1) (w.heap.size + 1) [] A c xs _ (by exact HGV.out) (by simp) hb (by exact HRA1.out)).mono ?_
         rintro e w2 ⟨A2, c2', rfl, hc2, hg2, _, hb2⟩
         have hs2 : w.heap.size < w2.heap.size := by have h0 : W1.heap.size ≤ w2.heap.size := hb2.size; omega
         have hr2 := hg2.get (g := ⟨A2, c2', xs⟩) (by simp))
      | (go_at_call 18
         refine (HP.out _ A2 c2' (by exact hr2)).mono ?_
         rintro e w3 ⟨v3, rfl, hm3, hb3⟩
         obtain ⟨A3, c3', rfl, hc3⟩ := hm3.form))
  have hbw2 : Below w.heap.size w w2 := hB1.trans ⟨hb2.os, hb2.tape, hb2.output, hb2.size, fun k hk => hb2.block k (by omega)⟩
  have HG3 := Lib.hid (hg2.below hb3)
  have hbw3 := hbw2.trans (hb3.mono hbw2.size)
  have hr3 := hm3.rd' encEntry.len
  have k3 : w3.heap[w.heap.size]? = some (.cells #[.int .i64 x.client, .int .i64 x.number, .int .i64 x.op.kind, .int .i64 x.op.slot, .string x.op.value] 41 (0, 0)) := (hb3.block _ hs2).trans ((hb2.block _ (by omega)).trans HK1.out)
  have d0 : w3.cell? ⟨w.heap.size, 0, none⟩ = some (.int .i64 x.client) := cell_of_row _ _ 0 _ _ _ k3
  have d1 : w3.cell? ⟨w.heap.size, 1, none⟩ = some (.int .i64 x.number) := cell_of_row _ _ 1 _ _ _ k3
  have d2 : w3.cell? ⟨w.heap.size, 2, none⟩ = some (.int .i64 x.op.kind) := cell_of_row _ _ 2 _ _ _ k3
  have d3 : w3.cell? ⟨w.heap.size, 3, none⟩ = some (.int .i64 x.op.slot) := cell_of_row _ _ 3 _ _ _ k3
  have d4 : w3.cell? ⟨w.heap.size, 4, none⟩ = some (.string x.op.value) := cell_of_row _ _ 4 _ _ _ k3
  clear hg2 hb2 hb3 hm3 k3 hr2 HGV HRA1 HK1 c0 c1 c2 c3 c4 HP
  go_wp2_with fail
  refine (HRf.out w3 ((HA.out.below hbw3).more hbw3.size)).mono ?_
  rintro e w4 ⟨v4, rfl, hm4, hb4⟩
  obtain ⟨A4, c4, rfl, _⟩ := hm4.form
  have HG4 := Lib.hid (HG3.out.below hb4)
  have hbw4 := hbw3.trans (hb4.mono hbw3.size)
  have hr4 := hm4.rd' encEntry.len
  have hr3' := (hr3.below hb4).more hb4.size
  clear hb4 hm4 HG3 hr3 HRf
  dsimp only
  go_wp2_with fail
  refine (sameTrue A3 A4 c3' c4 _ zl rfl w4 (by omega) hr3' hr4).mono ?_
  rintro e w' ⟨rfl, q1, rfl⟩
  dsimp only
  go_wp2_with fail
  refine (givenIntact (w.heap.size + 1) (w.heap.size + 1) _ _ (by exact HG4.out) (by simp)).mono ?_
  rintro e w' ⟨rfl, q2, rfl⟩
  dsimp only
  go_wp2_with fail
  go_ret
  exact ⟨rfl, below_drewN hbw4 _⟩
theorem appends_law (W : World) (A0 : Option Addr) (c0 n0 : Nat) (xs0 : List Entry) (hn0 : n0 = xs0.length) (hc0 : n0 ≤ c0) (hr0 : Rd Entry.cells 5 W W.heap.size A0 xs0) (hw0 : ∀ x ∈ xs0, x.wf) (hs0 : xs0.length * 48 ≤ 140737488351232)
    (room : Int) (_ : I64 room) (x : Entry) (hx : x.wf) : Calls Try.prog 4 #[.slice A0 n0 c0, .int .i64 room, .agg #[.int .i64 x.client, .int .i64 x.number, .int .i64 x.op.kind, .int .i64 x.op.slot, .string x.op.value]] W fun e w' => e = .returned (.bool true) ∧ Below W.heap.size W w' :=
  appends_calls A0 c0 n0 xs0 room x hx.op.value hn0 hc0 W (by omega) (wf_vals hw0) hr0
end Go.Proofs.Ythpogbbgdenmeaa
