/- OplogReplays answers true, whatever the list and the number. Conditions: sizes within the form's own reach. -/
import Derived.Test.YtnfilklgogaheaaOpsOf
import Derived.Test.YtnfilklgogaheaaWorks06
import Derived.Test.YtnfilklgogaheaaCompares
import Derived.Test.YtnfilklgogaheaaSame04
namespace Go.Proofs.Ytnfilklgogaheaa
open Go.RowKit
set_option linter.unusedVariables false
set_option linter.unusedSimpArgs false

theorem Given.below6 {w w' : World} {gb base : Nat} {G : List Gv} (h : Given w gb base G) (hb : Below w.heap.size w w') : Given w' gb base G := by
  obtain ⟨ve, vw, W, hgb, hbase, hve, hvw, hne, hWG, hall⟩ := h
  exact ⟨ve, vw, W, (hb.block gb (Array.getElem?_eq_some_iff.1 hgb).1).trans hgb, hbase, hve.below hb fun b q => (hve.lt b q).2, hvw.below hb fun b q => (hvw.lt b q).2, hne, hWG, fun g hg => (hall g hg).below hb fun b q => ((hall g hg).lt b q).2⟩

set_option maxRecDepth 100000 in
set_option maxHeartbeats 4000000 in
theorem replays6_calls (A : Option Addr) (c n : Nat) (xs : List Entry) (m : Int) (hn : n = xs.length) (hc : n ≤ c) (w : World) (hb : (xs.length + 1) * 48 ≤ 140737488355328) (hv : ∀ x ∈ xs, x.op.value.size ≤ 9223372036854775807) (ha : Rd Entry.cells 5 w w.heap.size A xs) :
    Calls Try.prog 4 #[.slice A n c, .int .i64 m] w fun e w' => e = .returned (.bool true) ∧ Below w.heap.size w w' := by
  subst hn
  have HA := Lib.hid ha
  have HV := Lib.hid hv
  clear hv
  go_enter Try.func4, Try.ntmps4
  go_wp2_with fail
  refine (givenEntries w.heap.size w.heap.size [] A c xs _ (given_new w _ (Nat.le_refl _)) (by simp) hb (ha.keep fun q hq => World.cell?_alloc_lt _ _ _ hq)).mono ?_
  rintro e w1 ⟨A1, c1, rfl, hc1, hg1, _, hb1⟩
  have hbw1 : Below w.heap.size w w1 := ((Below.refl _ w).alloc (Nat.le_refl _) _).trans hb1
  have HG1 := Lib.hid hg1
  have HB1 := Lib.hid hbw1
  have HR1 := Lib.hid (hg1.get (g := ⟨A1, c1, xs⟩) (by simp))
  clear hb1 hg1 hbw1 ha
  dsimp only
  go_wp2_with fail
  by_cases hm : 0 ≤ m ∧ m ≤ xs.length
  · obtain ⟨k, rfl⟩ : ∃ k : Nat, m = (k : Int) := ⟨m.toNat, by omega⟩
    have hk : k ≤ xs.length := by omega
    have HK := Lib.hid hk
    have HP := Lib.hid (replay6_prog A1 c1 xs.length xs k rfl hk (by omega) w1 hb HV.out HR1.out)
    have HF := Lib.hid (fun W (hW : Below w.heap.size w W) => replay6_ref A c xs.length xs k rfl hk W hb HV.out ((HA.out.below hW).more hW.size))
    have HRI := Lib.hid (rising_length (playC_rising (os := opsOf (xs.take k)) Rising.nil))
    have HRL : Hid ((playR [] (opsOf (xs.take k))).length ≤ 9223372036854775807) := by show _ ≤ _; rw [playR_length, opsOf_length]; simp; omega
    clear hm hk
    generalize opsOf (xs.take k) = os at *
    refine HP.out.mono ?_
    rintro e w2 ⟨A2, c2, A3, c3, rfl, hm2, hm3, hb2⟩
    have HB2 := Lib.hid (HB1.out.trans (hb2.mono HB1.out.size))
    have HG2 := Lib.hid (HG1.out.below6 hb2)
    have HR2 := Lib.hid (hm2.rd' encCell.len)
    have HR3 := Lib.hid (hm3.rd' encRes.len)
    clear hm2 hm3 hb2 HP HB1 HG1 HR1
    dsimp only
    go_wp2_with fail
    refine (HF.out w2 HB2.out).mono ?_
    rintro e w3 ⟨A4, c4, A5, c5, rfl, hr4, hm5, hb3⟩
    have HB3 := Lib.hid (HB2.out.trans (hb3.mono HB2.out.size))
    have HG3 := Lib.hid (HG2.out.below6 hb3)
    have HSC := Lib.hid (sameCellsTrue A2 A4 c2 c4 _ (playC [] os) rfl w3 (by have := HRI.out; omega) ((HR2.out.below hb3).more hb3.size) hr4)
    have HSR := Lib.hid (fun q => sameResultsTrue A3 A5 c3 c5 _ (playR [] os) rfl (w3.drewN q) HRL.out ((HR3.out.below hb3).more hb3.size) (hm5.rd' encRes.len))
    clear hr4 hm5 hb3 HF HB2 HG2 HR2 HR3
    generalize (playC [] os).length = lc at *
    generalize (playR [] os).length = lr at *
    dsimp only
    go_wp2_with fail
    refine HSC.out.mono ?_
    rintro e w' ⟨rfl, q1, rfl⟩
    dsimp only
    go_wp2_with fail
    refine (HSR.out q1).mono ?_
    rintro e w' ⟨rfl, q2, rfl⟩
    have hq : (w3.drewN q1).drewN q2 = w3.drewN (q1 + q2) := World.drewN_drewN _ _ _
    rw [hq]
    clear hq HSC HSR
    have HG4 : Hid (Given (w3.drewN (q1 + q2)) w.heap.size w.heap.size ([] ++ [⟨A1, c1, xs⟩])) := HG3.out
    have HB4 : Hid (Below w.heap.size w (w3.drewN (q1 + q2))) := below_drewN HB3.out _
    generalize w3.drewN (q1 + q2) = w4 at *
    dsimp only
    go_wp2_with fail
    refine (givenIntact w.heap.size w.heap.size _ _ HG4.out (by simp)).mono ?_
    rintro e w' ⟨rfl, q10, rfl⟩
    dsimp only
    go_wp2_with fail
    refine (works06 _).mono ?_
    rintro e w5 ⟨rfl, hb5⟩
    have hbw5 := (below_drewN HB4.out q10).trans (hb5.mono HB4.out.size)
    have HB5 := Lib.hid hbw5
    clear hb5 hbw5
    dsimp only
    go_wp2_with fail
    go_ret
    exact ⟨rfl, HB5.out⟩
  · have HP := Lib.hid (replay6_progBad A1 c1 xs.length xs m rfl hm w1)
    have HF := Lib.hid (replay6_refBad A c xs.length xs m rfl hm w1)
    have HSC := Lib.hid (sameCellsTrue none none 0 0 0 [] rfl w1 (by simp) Rd.nil Rd.nil)
    have HSR := Lib.hid (fun q => sameResultsTrue none none 0 0 0 [] rfl (w1.drewN q) (by simp) Rd.nil Rd.nil)
    clear hm
    refine HP.out.mono ?_
    rintro e w2 ⟨rfl, hw2⟩
    rw [hw2]
    clear hw2 w2
    dsimp only
    go_wp2_with fail
    refine HF.out.mono ?_
    rintro e w2 ⟨rfl, hw2⟩
    rw [hw2]
    clear hw2 w2 HP HF
    dsimp only
    go_wp2_with fail
    refine HSC.out.mono ?_
    rintro e w' ⟨rfl, q1, rfl⟩
    dsimp only
    go_wp2_with fail
    refine (HSR.out q1).mono ?_
    rintro e w' ⟨rfl, q2, rfl⟩
    have hq : (w1.drewN q1).drewN q2 = w1.drewN (q1 + q2) := World.drewN_drewN _ _ _
    rw [hq]
    clear hq HSC HSR
    have HG4 : Hid (Given (w1.drewN (q1 + q2)) w.heap.size w.heap.size ([] ++ [⟨A1, c1, xs⟩])) := HG1.out
    have HB4 : Hid (Below w.heap.size w (w1.drewN (q1 + q2))) := below_drewN HB1.out _
    generalize w1.drewN (q1 + q2) = w4 at *
    dsimp only
    go_wp2_with fail
    refine (givenIntact w.heap.size w.heap.size _ _ HG4.out (by simp)).mono ?_
    rintro e w' ⟨rfl, q10, rfl⟩
    dsimp only
    go_wp2_with fail
    refine (works06 _).mono ?_
    rintro e w5 ⟨rfl, hb5⟩
    have hbw5 := (below_drewN HB4.out q10).trans (hb5.mono HB4.out.size)
    have HB5 := Lib.hid hbw5
    clear hb5 hbw5
    dsimp only
    go_wp2_with fail
    go_ret
    exact ⟨rfl, HB5.out⟩

theorem replays6_law (W : World) (A : Option Addr) (c n : Nat) (xs : List Entry) (hn : n = xs.length) (hc : n ≤ c) (hrd : Rd Entry.cells 5 W W.heap.size A xs) (hwf : ∀ o ∈ xs, o.wf) (hsz : xs.length * 48 ≤ 140737488351232) (m : Int) (_ : I64 m) :
    Calls Try.prog 4 #[.slice A n c, .int .i64 m] W fun e w' => e = .returned (.bool true) ∧ Below W.heap.size W w' :=
  replays6_calls A c n xs m hn hc W (by omega) (fun o ho => (hwf o ho).op.value) hrd
end Go.Proofs.Ytnfilklgogaheaa
