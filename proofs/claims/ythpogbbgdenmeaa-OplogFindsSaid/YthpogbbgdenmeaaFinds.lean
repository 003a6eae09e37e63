/- OplogFinds answers true, whatever the arguments. Conditions: sizes within the form's own reach. -/
import Derived.Test.YthpogbbgdenmeaaLaws06
import Derived.Deep.RegionHeld3
namespace Go.Proofs.Ythpogbbgdenmeaa
open Go.RowKit
set_option linter.unusedVariables false
set_option linter.unusedSimpArgs false

theorem Below.undrew {B q : Nat} {u v : World} (h : Below B (u.drewN q) v) : Below B u v := ⟨h.os, h.tape, h.output, h.size, h.block⟩

set_option maxRecDepth 100000 in
set_option maxHeartbeats 2000000 in
theorem finds_calls (A : Option Addr) (c n : Nat) (xs : List Entry) (ca nb : Int) (hn : n = xs.length) (w : World) (hb : (xs.length + 1) * 48 ≤ 140737488355328) (ha : Rd Entry.cells 5 w w.heap.size A xs) :
    Calls Try.prog 10 #[.slice A n c, .int .i64 ca, .int .i64 nb] w fun e w' => e = .returned (.bool true) ∧ Below w.heap.size w w' := by
  subst hn
  go_enter Try.func10, Try.ntmps10
  go_wp2_with fail
  refine (givenEntries w.heap.size w.heap.size [] A c xs _ (given_new w _ (Nat.le_refl _)) (by simp) hb (ha.keep fun q hq => World.cell?_alloc_lt _ _ _ hq)).mono ?_
  rintro e w1 ⟨A1, c1, rfl, hc1, hg1, _, hb1⟩
  have hbw1 : Below w.heap.size w w1 := ((Below.refl _ w).alloc (Nat.le_refl _) _).trans hb1
  clear hb1
  dsimp only
  go_wp2_with fail
  refine (find_prog A1 c1 xs.length xs ca nb rfl w1 (by omega) (hg1.get (g := ⟨A1, c1, xs⟩) (by simp))).mono ?_
  rintro e w2 ⟨rfl, hb2⟩
  have hg2 := hg1.below hb2
  have hbw2 := hbw1.trans (hb2.mono hbw1.size)
  clear hb2 hg1
  dsimp only
  go_wp2_with fail
  refine (find_ref A c xs.length xs ca nb rfl w2 (by omega) ((ha.below hbw2).more hbw2.size)).mono ?_
  rintro e w' ⟨rfl, q1, rfl⟩
  dsimp only
  go_wp2_with fail
  refine (last_prog A1 c1 xs.length xs ca rfl (w2.drewN q1) (by omega) (by exact hg2.get (g := ⟨A1, c1, xs⟩) (by simp))).mono ?_
  rintro e w3 ⟨rfl, hb3⟩
  have hg3 := hg2.below (w' := w3) (Below.undrew hb3)
  have hbw3 := (below_drewN hbw2 q1).trans (hb3.mono hbw2.size)
  clear hb3 hg2
  dsimp only
  go_wp2_with fail
  refine (last_ref A c xs.length xs ca rfl w3 (by omega) ((ha.below hbw3).more hbw3.size)).mono ?_
  rintro e w' ⟨rfl, q2, rfl⟩
  have HG := Lib.hid hg3
  have HA := Lib.hid ha
  clear hg3 ha hbw1 hbw2
  dsimp only
  go_wp2_with fail
  go_loopw [9] (fun i wr => ∃ k : Nat, k ≤ xs.length ∧ i = .int .i64 k ∧ Given wr w.heap.size w.heap.size ([] ++ [⟨A1, c1, xs⟩]) ∧ Below w.heap.size w wr) (fun i _ => xs.length - (intOf i).toNat)
  case atStart => exact ⟨0, by omega, rfl, HG.out, below_drewN hbw3 _⟩
  case round =>
    obtain ⟨k, hk, rfl, hg, hbr⟩ := hrel
    clear HG
    by_cases hk1 : k < xs.length
    · obtain ⟨ad, rfl, _, hca⟩ := (HA.out.below hbr).at_ hk1
      have g1 : (k:Int) < (xs.length : Int) := by omega
      obtain ⟨c0, cc1, c2, c3, c4⟩ := hca.five
      clear hca c2 c3 c4
      obtain ⟨y, hy⟩ : ∃ y, y = xs[k] := ⟨_, rfl⟩
      rw [← hy] at c0 cc1
      clear hy
      have hla : (ad.add (k * 5)).block < wr.heap.size := by rw [block_add]; exact Nat.lt_of_lt_of_le (by assumption) hbr.size
      go_wp2_with fail
      go_region_held3 (fun w' => w'.cell? (ad.add (k * 5)) = some (.int .i64 y.client) ∧ w'.cell? ⟨(ad.add (k * 5)).block, (ad.add (k * 5)).off + 1, none⟩ = some (.int .i64 y.number))
        (first
          | go_keep
          | (go_split_ands
             refine ⟨?_, ?_⟩
             · (rw [hb5.cell (p := ad.add (k * 5)) (by exact hla4)]; assumption)
             · (rw [hb5.cell (p := ⟨(ad.add (k * 5)).block, (ad.add (k * 5)).off + 1, none⟩) (by exact hla4)]; assumption))
          | (go_split_ands
             refine ⟨?_, ?_⟩
             · (rw [hb4.cell (p := ad.add (k * 5)) (by exact hla)]; assumption)
             · (rw [hb4.cell (p := ⟨(ad.add (k * 5)).block, (ad.add (k * 5)).off + 1, none⟩) (by exact hla)]; assumption)))
        (first
          | (go_at_call 35
             refine (find_prog A1 c1 xs.length xs y.client y.number rfl _ (by omega) (by exact hg.get (g := ⟨A1, c1, xs⟩) (by simp))).mono ?_
             rintro e w4 ⟨rfl, hb4⟩
             have hb4' : Below wr.heap.size wr w4 := ⟨hb4.os, hb4.tape, hb4.output, hb4.size, hb4.block⟩
             have hg4 := hg.below hb4'
             have hbw4 := hbr.trans (hb4'.mono hbr.size)
             have hla4 : (ad.add (k * 5)).block < w4.heap.size := Nat.lt_of_lt_of_le hla hb4'.size)
          | (go_at_call 36
             refine (find_ref (some ad) c xs.length xs y.client y.number rfl _ (by omega) (by exact (HA.out.below hbw4).more hbw4.size)).mono ?_
             rintro e w' ⟨rfl, q3, rfl⟩)
          | (go_at_call 37
             refine (last_prog A1 c1 xs.length xs y.client rfl _ (by omega) (by exact hg4.get (g := ⟨A1, c1, xs⟩) (by simp))).mono ?_
             rintro e w5 ⟨rfl, hb5⟩
             have hb5' : Below w4.heap.size w4 w5 := ⟨hb5.os, hb5.tape, hb5.output, hb5.size, hb5.block⟩
             have hg5 := hg4.below hb5'
             have hbw5 := hbw4.trans (hb5'.mono hbw4.size))
          | (go_at_call 38
             refine (last_ref (some ad) c xs.length xs y.client rfl _ (by omega) (by exact (HA.out.below hbw5).more hbw5.size)).mono ?_
             rintro e w' ⟨rfl, q4, rfl⟩))
      go_wp2_with fail
      go_roundw
      case rel => exact ⟨k + 1, by omega, by go_num, hg5, below_drewN hbw5 _⟩
      case measure => simp [intOf]; omega
    · have g2 : decide ((k:Int) < (xs.length : Int)) = false := by simp; omega
      have HG := Lib.hid hg
      clear hg HA
      go_wp2_with fail
      refine (givenIntact w.heap.size w.heap.size _ _ (by exact HG.out) (by simp)).mono ?_
      rintro e w' ⟨rfl, q10, rfl⟩
      dsimp only
      go_wp2_with fail
      refine (works06 _).mono ?_
      rintro e w6 ⟨rfl, hb6⟩
      have hbw6 := (below_drewN hbr q10).trans (hb6.mono hbr.size)
      dsimp only
      go_wp2_with fail
      go_ret
      exact ⟨rfl, hbw6⟩
theorem finds_law {p : Entry → Prop} (W : World) (A0 : Option Addr) (c0 n0 : Nat) (xs0 : List Entry) (hn0 : n0 = xs0.length) (_ : n0 ≤ c0) (hr0 : Rd Entry.cells 5 W W.heap.size A0 xs0) (_ : ∀ x ∈ xs0, p x) (hs0 : xs0.length * 48 ≤ 140737488351232)
    (ca : Int) (_ : I64 ca) (nb : Int) (_ : I64 nb) : Calls Try.prog 10 #[.slice A0 n0 c0, .int .i64 ca, .int .i64 nb] W fun e w' => e = .returned (.bool true) ∧ Below W.heap.size W w' :=
  finds_calls A0 c0 n0 xs0 ca nb hn0 W (by omega) hr0
end Go.Proofs.Ythpogbbgdenmeaa
