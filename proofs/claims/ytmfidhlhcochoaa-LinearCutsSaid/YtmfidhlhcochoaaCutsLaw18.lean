/- LinearCuts answers true. Conditions: sizes within the form's own reach. -/
import Derived.Test.YtmfidhlhcochoaaWorstRef18
import Derived.Test.YtmfidhlhcochoaaSlot18
import Derived.Test.YtmfidhlhcochoaaChecks18
import Derived.Test.YtmfidhlhcochoaaWorks18
namespace Go.Proofs.Ytmfidhlhcochoaa
open Go.RowKit
set_option linter.unusedVariables false
set_option linter.unusedSimpArgs false

theorem cutAns_len (t : Int) (l : List Call) : (cutAns t l).1.length ≤ l.length := by
  unfold cutAns
  split
  · exact Nat.zero_le _
  · split
    · exact Nat.zero_le _
    · exact cutL_len t l
theorem slotAns_len (s : Int) (l : List Call) : (slotAns s l).1.length ≤ l.length := by
  unfold slotAns
  split
  · exact Nat.zero_le _
  · split
    · exact Nat.zero_le _
    · exact slotL_len s l
set_option maxRecDepth 100000 in
set_option maxHeartbeats 8000000 in
theorem cuts18_calls (A : Option Addr) (c n : Nat) (l : List Call) (hn : n = l.length) (row slot : Int) (w : World) (hl : (l.length + 1) * 96 ≤ 140737488355328) (hv : ∀ x ∈ l, x.op.value.size ≤ 9223372036854775807) (ha : Rd Call.cells 10 w w.heap.size A l) :
    Calls Try.prog 10 #[.slice A n c, .int .i64 row, .int .i64 slot] w fun e w' => e = .returned (.bool true) ∧ Below w.heap.size w w' := by
  subst hn
  have HA := Lib.hid ha
  have HV := Lib.hid hv
  clear ha hv
  go_enter Try.func10, Try.ntmps10
  go_wp2_with fail
  refine (lent_prog A c l.length l rfl w hl HA.out).mono ?_
  rintro e w2 ⟨g, c2, rfl, hm2, hc2, hb2⟩
  have hown : Own18 w w2 A l g c2 := ⟨hb2, hm2, HA.out.below hb2, hc2⟩
  have HO2 := Lib.hid hown
  clear hm2 hc2 hb2 hown
  have hcl := cutAns_len row l
  have hsl := slotAns_len slot l
  have hC := fun A c w ha => cut_all_prog A c l.length l rfl row w hl HV.out ha
  have hD := fun A c w ha => cut_ref A c l.length l rfl row w hl HV.out ha
  have hE := fun A c w ha => slot_prog A c l.length l rfl slot w (by omega) HV.out ha
  have hF := fun A c w ha => slot_ref A c l.length l rfl slot w (by omega) HV.out ha
  have hG := fun A c w ha => worst_prog A c l.length l rfl w hl HV.out ha
  have hH := fun A c w ha => worst_ref A c l.length l rfl w hl HV.out ha
  unfold CutPost at hC hD
  unfold SlotPost at hE hF
  unfold WorstPost at hG hH
  generalize cutAns row l = rc at hC hD hcl
  generalize slotAns slot l = rs at hE hF hsl
  generalize worstL l = rw_ at hG hH
  obtain ⟨lc, zc⟩ := rc
  obtain ⟨ls, zs⟩ := rs
  obtain ⟨zw, zv⟩ := rw_
  dsimp only at hC hD hE hF hG hH hcl hsl
  have HC := Lib.hid hC
  have HD := Lib.hid hD
  have HE := Lib.hid hE
  have HF := Lib.hid hF
  have HG := Lib.hid hG
  have HH := Lib.hid hH
  clear hC hD hE hF hG hH
  dsimp only
  go_wp2_with fail
  refine (HC.out _ _ w2 HO2.out.rdO).mono ?_
  rintro e w3 ⟨A3, c3, rfl, hm3, hb3⟩
  have HO3 := Lib.hid (HO2.out.step hb3)
  have hr3 := Made.rd' encCall.len hm3
  have HR3 := Lib.hid hr3
  clear hm3 hb3 hr3
  dsimp only
  go_wp2_with fail
  refine (HD.out A c w3 HO3.out.rdL).mono ?_
  rintro e w4 ⟨A4, c4, rfl, hm4, hb4⟩
  have HO4 := Lib.hid (HO3.out.step hb4)
  have hr4 := Made.rd' encCall.len hm4
  have HR4 := Lib.hid hr4
  have HR34 := Lib.hid ((HR3.out.below hb4).more hb4.size)
  clear hm4 hb4 hr4
  dsimp only
  go_wp2_with fail
  refine (HE.out _ _ w4 HO4.out.rdO).mono ?_
  rintro e w5 ⟨A5, c5, rfl, hm5, hb5⟩
  have HO5 := Lib.hid (HO4.out.step hb5)
  have hr5 := Made.rd' encCall.len hm5
  have HR5 := Lib.hid hr5
  have HR35 := Lib.hid ((HR34.out.below hb5).more hb5.size)
  have HR45 := Lib.hid ((HR4.out.below hb5).more hb5.size)
  clear hm5 hb5 hr5
  dsimp only
  go_wp2_with fail
  refine (HF.out A c w5 HO5.out.rdL).mono ?_
  rintro e w6 ⟨A6, c6, rfl, hm6, hb6⟩
  have HO6 := Lib.hid (HO5.out.step hb6)
  have hr6 := Made.rd' encCall.len hm6
  have HR6 := Lib.hid hr6
  have HR36 := Lib.hid ((HR35.out.below hb6).more hb6.size)
  have HR46 := Lib.hid ((HR45.out.below hb6).more hb6.size)
  have HR56 := Lib.hid ((HR5.out.below hb6).more hb6.size)
  clear hm6 hb6 hr6
  dsimp only
  go_wp2_with fail
  refine (HG.out _ _ w6 HO6.out.rdO).mono ?_
  rintro e w7 ⟨rfl, hb7⟩
  have HO7 := Lib.hid (HO6.out.step hb7)
  have HR37 := Lib.hid ((HR36.out.below hb7).more hb7.size)
  have HR47 := Lib.hid ((HR46.out.below hb7).more hb7.size)
  have HR57 := Lib.hid ((HR56.out.below hb7).more hb7.size)
  have HR67 := Lib.hid ((HR6.out.below hb7).more hb7.size)
  clear hb7
  dsimp only
  go_wp2_with fail
  refine (HH.out A c w7 HO7.out.rdL).mono ?_
  rintro e w8 ⟨rfl, hb8⟩
  have HO8 := Lib.hid (HO7.out.step hb8)
  have HR38 := Lib.hid ((HR37.out.below hb8).more hb8.size)
  have HR48 := Lib.hid ((HR47.out.below hb8).more hb8.size)
  have HR58 := Lib.hid ((HR57.out.below hb8).more hb8.size)
  have HR68 := Lib.hid ((HR67.out.below hb8).more hb8.size)
  clear hb8
  dsimp only
  go_wp2_with fail
  refine (sameCalls A3 A4 c3 c4 lc.length lc rfl w8 (by omega) HR38.out HR48.out).mono ?_
  rintro e w9 ⟨rfl, q9, hw9⟩
  have hb9 : Below w8.heap.size w8 w9 := by rw [hw9]; exact below_drewN (Below.refl _ _) _
  have HO9 := Lib.hid (HO8.out.step hb9)
  have HR59 := Lib.hid ((HR58.out.below hb9).more hb9.size)
  have HR69 := Lib.hid ((HR68.out.below hb9).more hb9.size)
  clear hw9 hb9
  dsimp only
  go_wp2_with fail
  refine (sameCalls A5 A6 c5 c6 ls.length ls rfl w9 (by omega) HR59.out HR69.out).mono ?_
  rintro e w10 ⟨rfl, q10, hw10⟩
  have hb10 : Below w9.heap.size w9 w10 := by rw [hw10]; exact below_drewN (Below.refl _ _) _
  have HO10 := Lib.hid (HO9.out.step hb10)
  clear hw10 hb10
  dsimp only
  go_wp2_with fail
  refine (kept_prog g c2 c l.length A l rfl _ (by omega) HO10.out.room HO10.out.own HO10.out.rdL).mono ?_
  rintro e w11 ⟨rfl, q11, hw11⟩
  have hb11 : Below w10.heap.size w10 w11 := by rw [hw11]; exact below_drewN (Below.refl _ _) _
  have HO11 := Lib.hid (HO10.out.step hb11)
  clear hw11 hb11
  dsimp only
  go_wp2_with fail
  refine (works18 _).mono ?_
  rintro e w12 ⟨rfl, hb12⟩
  have HO12 := Lib.hid (HO11.out.step hb12)
  clear hb12
  dsimp only
  go_wp2_with fail
  go_ret
  exact ⟨rfl, HO12.out.below⟩
theorem cuts18_law (W : World) (A : Option Addr) (c n : Nat) (xs : List Call) (hn : n = xs.length) (_ : n ≤ c) (hrd : Rd Call.cells 10 W W.heap.size A xs) (hwf : ∀ o ∈ xs, o.wf) (hsz : xs.length * 96 ≤ 140737488351232) (row : Int) (_ : I64 row) (slot : Int) (_ : I64 slot) :
    Calls Try.prog 10 #[.slice A n c, .int .i64 row, .int .i64 slot] W fun e w' => e = .returned (.bool true) ∧ Below W.heap.size W w' :=
  cuts18_calls A c n xs hn row slot W (by omega) (fun o ho => (hwf o ho).op.value) hrd
end Go.Proofs.Ytmfidhlhcochoaa
