/- OplogCompares answers true, whatever the two lists and the number. Conditions: sizes within the form's own reach. -/
import Derived.Test.YtdmeijemfneafaaCommon
import Derived.Test.YtdmeijemfneafaaIntact
namespace Go.Proofs.Ytdmeijemfneafaa
open Go.RowKit

theorem given_new (w : World) (base : Nat) (hb : base ≤ w.heap.size) : Given (w.alloc (.cells #[.slice none 0 0, .slice none 0 0, .slice none 0 0, .slice none 0 0, .slice none 0 0, .slice none 0 0, .slice none 0 0, .slice none 0 0, .slice none 0 0, .slice none 0 0] 84)) w.heap.size base [] :=
  ⟨.slice none 0 0, .slice none 0 0, [], heap_alloc_new w _, hb, Made.nil _ _ _, Made.nil _ _ _, fun b h => by simp [Value.ownBlock] at h, rfl, fun g hg => by simp at hg⟩
theorem Given.get {w : World} {gb base : Nat} {G : List Gv} (h : Given w gb base G) {g : Gv} (hg : g ∈ G) : Rd Entry.cells 5 w w.heap.size g.A g.l := by
  obtain ⟨ve, vw, W, hgb, hbase, hve, hvw, hne, hWG, hall⟩ := h
  have hm := hall g (by simp [hg])
  have := Made.rd' (A := g.A) (n := g.l.length + 1) (c := g.c) encEntry.len hm
  have h2 := this.take g.l.length
  simpa using h2

set_option maxHeartbeats 800000 in
theorem compares_calls (A B : Option Addr) (c d n m : Nat) (k : Int) (xs ys : List Entry) (hxn : n = xs.length) (hym : m = ys.length) (w : World) (hn : (xs.length + 1) * 48 ≤ 140737488355328) (hm : (ys.length + 1) * 48 ≤ 140737488355328) (ha : Rd Entry.cells 5 w w.heap.size A xs) (hb : Rd Entry.cells 5 w w.heap.size B ys) :
    Calls Try.prog 21 #[.slice A n c, .slice B m d, .int .i64 k] w fun e w' => e = .returned (.bool true) ∧ Below w.heap.size w w' := by
  subst hxn; subst hym
  have hn' : xs.length ≤ 9223372036854775807 := by omega
  have hm' : ys.length ≤ 9223372036854775807 := by omega
  go_enter Try.func21, Try.ntmps21
  go_wp2_with fail
  refine (givenEntries w.heap.size w.heap.size [] A c xs _ (given_new w _ (Nat.le_refl _)) (by simp) hn (ha.keep fun q hq => World.cell?_alloc_lt _ _ _ hq)).mono ?_
  rintro e w1 ⟨A1, c1, rfl, _, hg1, _, hb1⟩
  have hs1 : w.heap.size ≤ w1.heap.size := Nat.le_trans (by simp) hb1.size
  have hbw1 : Below w.heap.size w w1 := ((Below.refl _ w).alloc (Nat.le_refl _) _).trans hb1
  clear hb1
  go_wp2_with fail
  refine (givenEntries w.heap.size w.heap.size _ B d ys w1 hg1 (by simp) hm (hb.below hbw1)).mono ?_
  rintro e w2 ⟨A2, c2, rfl, _, hg2, _, hb2⟩
  have hbw2 := hbw1.trans hb2
  have hs2 : w.heap.size ≤ w2.heap.size := hbw2.size
  have rx : Rd Entry.cells 5 w2 w2.heap.size A1 xs := hg2.get (g := ⟨A1, c1, xs⟩) (by simp)
  have ry : Rd Entry.cells 5 w2 w2.heap.size A2 ys := hg2.get (g := ⟨A2, c2, ys⟩) (by simp)
  have ra : Rd Entry.cells 5 w2 w2.heap.size A xs := (ha.below hbw2).more hs2
  have rb : Rd Entry.cells 5 w2 w2.heap.size B ys := (hb.below hbw2).more hs2
  have hg2' := Lib.hid hg2
  clear hg1 hg2 hb2 hbw1
  go_wp2_with fail
  refine (common_prog A1 A2 c1 c2 _ _ xs ys rfl rfl _ hn' hm' (by exact rx) (by exact ry)).mono ?_
  rintro e w' ⟨rfl, q1, rfl⟩
  go_wp2_with fail
  refine (common_ref A B c d _ _ xs ys rfl rfl _ hn' hm' (by exact ra) (by exact rb)).mono ?_
  rintro e w' ⟨rfl, q2, rfl⟩
  try rw [World.drewN_drewN]
  go_wp2_with fail
  refine (begins_prog A1 A2 c1 c2 _ _ xs ys rfl rfl _ hn' hm' (by exact rx) (by exact ry)).mono ?_
  rintro e w' ⟨rfl, q3, rfl⟩
  try rw [World.drewN_drewN]
  go_wp2_with fail
  refine (begins_ref A B c d _ _ xs ys rfl rfl _ hn' hm' (by exact ra) (by exact rb)).mono ?_
  rintro e w' ⟨rfl, q4, rfl⟩
  try rw [World.drewN_drewN]
  go_wp2_with fail
  refine (begins_prog A2 A1 c2 c1 _ _ ys xs rfl rfl _ hm' hn' (by exact ry) (by exact rx)).mono ?_
  rintro e w' ⟨rfl, q5, rfl⟩
  try rw [World.drewN_drewN]
  go_wp2_with fail
  refine (begins_ref B A d c _ _ ys xs rfl rfl _ hm' hn' (by exact rb) (by exact ra)).mono ?_
  rintro e w' ⟨rfl, q6, rfl⟩
  try rw [World.drewN_drewN]
  go_wp2_with fail
  refine (agree_prog A1 A2 c1 c2 _ _ k xs ys rfl rfl _ hn' hm' (by exact rx) (by exact ry)).mono ?_
  rintro e w' ⟨rfl, q7, rfl⟩
  try rw [World.drewN_drewN]
  go_wp2_with fail
  refine (agree_ref A B c d _ _ k xs ys rfl rfl _ hn' hm' (by exact ra) (by exact rb)).mono ?_
  rintro e w' ⟨rfl, q8, rfl⟩
  try rw [World.drewN_drewN]
  go_wp2_with fail
  refine (begins_prog A1 A1 c1 c1 _ _ xs xs rfl rfl _ hn' hn' (by exact rx) (by exact rx)).mono ?_
  rintro e w' ⟨rfl, q9, rfl⟩
  try rw [World.drewN_drewN]
  have hbt : begins xs xs = true := by simp [begins, common_self]
  rw [hbt]
  clear hbt
  go_wp2_with fail
  refine (givenIntact w.heap.size w.heap.size _ _ (by exact hg2'.out) (by simp)).mono ?_
  rintro e w' ⟨rfl, q10, rfl⟩
  try rw [World.drewN_drewN]
  go_wp2
  go_ret
  exact ⟨rfl, below_drewN hbw2 _⟩
theorem compares_law {p q : Entry → Prop} (W : World) (A0 : Option Addr) (c0 n0 : Nat) (xs0 : List Entry) (hn0 : n0 = xs0.length) (_ : n0 ≤ c0) (hr0 : Rd Entry.cells 5 W W.heap.size A0 xs0) (_ : ∀ x ∈ xs0, p x) (hs0 : xs0.length * 48 ≤ 140737488351232)
    (A1 : Option Addr) (c1 n1 : Nat) (xs1 : List Entry) (hn1 : n1 = xs1.length) (_ : n1 ≤ c1) (hr1 : Rd Entry.cells 5 W W.heap.size A1 xs1) (_ : ∀ x ∈ xs1, q x) (hs1 : xs1.length * 48 ≤ 140737488351232) (k : Int) (_ : -9223372036854775808 ≤ k ∧ k ≤ 9223372036854775807) :
    Calls Try.prog 21 #[.slice A0 n0 c0, .slice A1 n1 c1, .int .i64 k] W fun e w' => e = .returned (.bool true) ∧ Below W.heap.size W w' :=
  compares_calls A0 A1 c0 c1 n0 n1 k xs0 xs1 hn0 hn1 W (by omega) (by omega) hr0 hr1
end Go.Proofs.Ytdmeijemfneafaa
