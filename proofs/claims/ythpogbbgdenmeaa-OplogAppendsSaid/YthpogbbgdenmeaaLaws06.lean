/- OplogChecks, OplogAppends, OplogCuts answer true, whatever the arguments. Conditions: sizes within the form's own reach. -/
import Derived.Test.YthpogbbgdenmeaaWorks06
import Derived.Test.YthpogbbgdenmeaaCompares
import Derived.Test.YthpogbbgdenmeaaPiece
import Derived.Test.YthpogbbgdenmeaaPieceRef
import Derived.Test.YthpogbbgdenmeaaOpen3
namespace Go.Proofs.Ythpogbbgdenmeaa
open Go.RowKit
set_option linter.unusedVariables false
set_option linter.unusedSimpArgs false

theorem Given.below {w w' : World} {gb base : Nat} {G : List Gv} (h : Given w gb base G) (hb : Below w.heap.size w w') : Given w' gb base G := by
  obtain ⟨ve, vw, W, hgb, hbase, hve, hvw, hne, hWG, hall⟩ := h
  exact ⟨ve, vw, W, (hb.block gb (Array.getElem?_eq_some_iff.1 hgb).1).trans hgb, hbase, hve.below hb fun b q => (hve.lt b q).2, hvw.below hb fun b q => (hvw.lt b q).2, hne, hWG, fun g hg => (hall g hg).below hb fun b q => ((hall g hg).lt b q).2⟩
theorem wf_vals {xs : List Entry} (h : ∀ x ∈ xs, x.wf) : ∀ x ∈ xs, x.op.value.size ≤ 9223372036854775807 := fun x hx => (h x hx).op.value

set_option maxRecDepth 100000 in
set_option maxHeartbeats 1600000 in
theorem checks6_calls (A : Option Addr) (c n : Nat) (xs : List Entry) (room : Int) (hn : n = xs.length) (hc : n ≤ c) (w : World) (hb : (xs.length + 1) * 48 ≤ 140737488355328) (hv : ∀ x ∈ xs, x.op.value.size ≤ 9223372036854775807) (ha : Rd Entry.cells 5 w w.heap.size A xs) :
    Calls Try.prog 3 #[.slice A n c, .int .i64 room] w fun e w' => e = .returned (.bool true) ∧ Below w.heap.size w w' := by
  subst hn
  go_enter Try.func3, Try.ntmps3
  go_wp2_with fail
  refine (givenEntries w.heap.size w.heap.size [] A c xs _ (given_new w _ (Nat.le_refl _)) (by simp) hb (ha.keep fun q hq => World.cell?_alloc_lt _ _ _ hq)).mono ?_
  rintro e w1 ⟨A1, c1, rfl, hc1, hg1, _, hb1⟩
  have hbw1 : Below w.heap.size w w1 := ((Below.refl _ w).alloc (Nat.le_refl _) _).trans hb1
  clear hb1
  dsimp only
  go_wp2_with fail
  refine (check_prog_log A1 c1 xs.length xs room rfl w1 (by omega) hv (hg1.get (g := ⟨A1, c1, xs⟩) (by simp))).mono ?_
  rintro e w2 ⟨rfl, hb2⟩
  have hg2 := hg1.below hb2
  have hbw2 := hbw1.trans (hb2.mono hbw1.size)
  clear hb2
  dsimp only
  go_wp2_with fail
  refine (check_ref_log A c xs.length xs room rfl hc w2 (by omega) hv ((ha.below hbw2).more hbw2.size)).mono ?_
  rintro e w3 ⟨rfl, hb3⟩
  have hg3 := Lib.hid (hg2.below hb3)
  have hbw3 := hbw2.trans (hb3.mono hbw2.size)
  clear hb3 hg1 hg2
  generalize (chkE xs room).1 = p1
  generalize (chkE xs room).2 = p2
  dsimp only
  go_wp2_with fail
  refine (givenIntact w.heap.size w.heap.size _ _ hg3.out (by simp)).mono ?_
  rintro e w' ⟨rfl, q10, rfl⟩
  dsimp only
  go_wp2_with fail
  refine (works06 _).mono ?_
  rintro e w5 ⟨rfl, hb5⟩
  have hbw5 := (below_drewN hbw3 q10).trans (hb5.mono hbw3.size)
  dsimp only
  go_wp2_with fail
  go_ret
  exact ⟨rfl, hbw5⟩

set_option maxRecDepth 100000 in
set_option maxHeartbeats 1600000 in
theorem cuts_calls (A : Option Addr) (c n : Nat) (xs : List Entry) (k : Int) (hk : I64 k) (hn : n = xs.length) (hc : n ≤ c) (w : World) (hb : (xs.length + 1) * 48 ≤ 140737488355328) (ha : Rd Entry.cells 5 w w.heap.size A xs) :
    Calls Try.prog 6 #[.slice A n c, .int .i64 k] w fun e w' => e = .returned (.bool true) ∧ Below w.heap.size w w' := by
  subst hn
  go_enter Try.func6, Try.ntmps6
  go_wp2_with fail
  refine (givenEntries w.heap.size w.heap.size [] A c xs _ (given_new w _ (Nat.le_refl _)) (by simp) hb (ha.keep fun q hq => World.cell?_alloc_lt _ _ _ hq)).mono ?_
  rintro e w1 ⟨A1, c1, rfl, hc1, hg1, _, hb1⟩
  have hbw1 : Below w.heap.size w w1 := ((Below.refl _ w).alloc (Nat.le_refl _) _).trans hb1
  clear hb1
  dsimp only
  go_wp2_with fail
  refine (cut_prog A1 c1 xs.length k xs rfl (by omega) w1 (by omega) (hg1.get (g := ⟨A1, c1, xs⟩) (by simp))).mono ?_
  rintro e w2 ⟨v2, rfl, hm2, hb2⟩
  obtain ⟨A2, c2, rfl, _⟩ := hm2.form
  have hg2 := hg1.below hb2
  have hbw2 := hbw1.trans (hb2.mono hbw1.size)
  have hr2 := hm2.rd' encEntry.len
  clear hb2 hm2
  dsimp only
  generalize hz1 : (if k < 0 ∨ (xs.length : Int) < k then 61 else 0 : Int) = z1
  generalize hl1 : (if k < 0 ∨ (xs.length : Int) < k then [] else xs.take k.toNat) = l1 at *
  have hll1 : l1.length ≤ xs.length := by rw [← hl1]; split <;> simp; omega
  go_wp2_with fail
  refine (cut_ref A c xs.length k xs rfl hc w2 (by omega) ((ha.below hbw2).more hbw2.size)).mono ?_
  rintro e w3 ⟨v3, rfl, hm3, hb3⟩
  obtain ⟨A3, c3, rfl, _⟩ := hm3.form
  have hg3 := hg2.below hb3
  have hbw3 := hbw2.trans (hb3.mono hbw2.size)
  have hr3 := hm3.rd' encEntry.len
  have hr2' := (hr2.below hb3).more hb3.size
  clear hb3 hm3 hr2
  rw [hl1] at hr3
  rw [hz1]
  dsimp only
  rw [show (if k < 0 ∨ (xs.length : Int) < k then [] else xs.take k.toNat) = l1 from hl1]
  clear hz1 hl1
  go_wp2_with fail
  refine (tail_prog A1 c1 xs.length k xs rfl (by omega) w3 (by omega) (hg3.get (g := ⟨A1, c1, xs⟩) (by simp))).mono ?_
  rintro e w4 ⟨v4, rfl, hm4, hb4⟩
  obtain ⟨A4, c4, rfl, _⟩ := hm4.form
  have hg4 := hg3.below hb4
  have hbw4 := hbw3.trans (hb4.mono hbw3.size)
  have hr4 := hm4.rd' encEntry.len
  have hr2 := (hr2'.below hb4).more hb4.size
  have hr3' := (hr3.below hb4).more hb4.size
  clear hb4 hm4 hr3 hr2'
  dsimp only
  generalize hz2 : (if k < 1 ∨ (xs.length : Int) < k - 1 then 61 else 0 : Int) = z2
  generalize hl2 : (if k < 1 ∨ (xs.length : Int) < k - 1 then [] else xs.drop (k - 1).toNat) = l2 at *
  have hll2 : l2.length ≤ xs.length := by rw [← hl2]; split <;> simp
  go_wp2_with fail
  refine (tail_ref A c xs.length k xs rfl hc w4 (by omega) hk ((ha.below hbw4).more hbw4.size)).mono ?_
  rintro e w5 ⟨v5, rfl, hm5, hb5⟩
  obtain ⟨A5, c5, rfl, _⟩ := hm5.form
  have hg5 := Lib.hid (hg4.below hb5)
  have hbw5 := hbw4.trans (hb5.mono hbw4.size)
  have hr5 := hm5.rd' encEntry.len
  have hr4' := (hr4.below hb5).more hb5.size
  have hr2' := (hr2.below hb5).more hb5.size
  have hr3 := (hr3'.below hb5).more hb5.size
  clear hb5 hm5 hr4 hr2 hr3' hg1 hg2 hg3 hg4
  rw [hl2] at hr5
  rw [hz2]
  dsimp only
  rw [show (if k < 1 ∨ (xs.length : Int) < k - 1 then [] else xs.drop (k - 1).toNat) = l2 from hl2]
  clear hz2 hl2
  go_wp2_with fail
  refine (sameTrue A2 A3 c2 c3 _ l1 rfl w5 (by omega) hr2' hr3).mono ?_
  rintro e w' ⟨rfl, q1, rfl⟩
  dsimp only
  go_wp2_with fail
  refine (sameTrue A4 A5 c4 c5 _ l2 rfl (w5.drewN q1) (by omega) hr4' hr5).mono ?_
  rintro e w' ⟨rfl, q2, rfl⟩
  dsimp only
  go_wp2_with fail
  refine (givenIntact w.heap.size w.heap.size _ _ (by exact hg5.out) (by simp)).mono ?_
  rintro e w' ⟨rfl, q3, rfl⟩
  dsimp only
  go_wp2_with fail
  refine (works06 _).mono ?_
  rintro e w6 ⟨rfl, hb6⟩
  have hbw6 := (below_drewN hbw5 (q1 + q2 + q3)).trans (hb6.mono hbw5.size)
  dsimp only
  go_wp2_with fail
  go_ret
  exact ⟨rfl, hbw6⟩
theorem checks6_law (W : World) (A0 : Option Addr) (c0 n0 : Nat) (xs0 : List Entry) (hn0 : n0 = xs0.length) (hc0 : n0 ≤ c0) (hr0 : Rd Entry.cells 5 W W.heap.size A0 xs0) (hw0 : ∀ x ∈ xs0, x.wf) (hs0 : xs0.length * 48 ≤ 140737488351232)
    (room : Int) (_ : I64 room) : Calls Try.prog 3 #[.slice A0 n0 c0, .int .i64 room] W fun e w' => e = .returned (.bool true) ∧ Below W.heap.size W w' :=
  checks6_calls A0 c0 n0 xs0 room hn0 hc0 W (by omega) (wf_vals hw0) hr0
theorem cuts_law {p : Entry → Prop} (W : World) (A0 : Option Addr) (c0 n0 : Nat) (xs0 : List Entry) (hn0 : n0 = xs0.length) (hc0 : n0 ≤ c0) (hr0 : Rd Entry.cells 5 W W.heap.size A0 xs0) (_ : ∀ x ∈ xs0, p x) (hs0 : xs0.length * 48 ≤ 140737488351232)
    (k : Int) (hk : I64 k) : Calls Try.prog 6 #[.slice A0 n0 c0, .int .i64 k] W fun e w' => e = .returned (.bool true) ∧ Below W.heap.size W w' :=
  cuts_calls A0 c0 n0 xs0 k hk hn0 hc0 W (by omega) hr0
end Go.Proofs.Ythpogbbgdenmeaa
