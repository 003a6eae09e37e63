/- LedgerReplays answers true, whatever the arguments. Conditions: sizes within the form's own reach. -/
import Derived.Test.YtmijlflblhhfjaaReplay
import Derived.Test.YtmijlflblhhfjaaReplayRef
import Derived.Test.YtmijlflblhhfjaaSame04
import Derived.Test.YtmijlflblhhfjaaWorks04
namespace Go.Proofs.Ytmijlflblhhfjaa
open Go.RowKit
set_option linter.unusedVariables false
set_option linter.unusedSimpArgs false

def opMark : Op := ⟨-7, 0, ⟨#[]⟩⟩
/-- Whatever a list of the call's own with a mark behind it: the beginning reads as the list, and the mark's cells. -/
theorem own_begin {α : Type} {enc : α → List Value} {k : Nat} {w : World} {B : Nat} {A : Option Addr} {xs : List α} {m : α} (h : Rd enc k w B A (xs ++ [m])) : Rd enc k w B A xs := by
  have := h.take xs.length
  rwa [List.take_left] at this

set_option maxRecDepth 100000 in
set_option maxHeartbeats 4000000 in
theorem ledgerReplays_calls (A : Option Addr) (c n : Nat) (os : List Op) (hn : n = os.length) (w : World) (hb : (os.length + 1) * 32 ≤ 140737488355328) (hv : ∀ o ∈ os, o.value.size ≤ 9223372036854775807) (ha : Rd Op.cells 3 w w.heap.size A os) :
    Calls Try.prog 5 #[.slice A n c] w fun e w' => e = .returned (.bool true) ∧ Below w.heap.size w w' := by
  subst hn
  have HA := Lib.hid ha
  have HV := Lib.hid hv
  have HPL := Lib.hid (rising_length (playC_rising (os := os) Rising.nil))
  clear hv
  have hlm : os.length + 1 ≤ maxLen := by unfold maxLen; omega
  go_enter Try.func5, Try.ntmps5
  go_wp2_with (first
    | (at_builtin; refine wpList_app (v := .slice none 0 0) (xs := []) rowOp encOp rfl (.tmp 9) (.tmp 10) rfl w.heap.size rfl (Made.nil _ _ _) rfl rfl ha (by simp only [List.length_nil]; omega) (by simp only [List.length_nil]; unfold maxLen at *; omega) (Nat.le_refl _) ?_
       intro v1 w1 hm1 hg1 hat1
       simp only [List.nil_append] at hm1
       obtain ⟨A1, c1, hv1, hc1⟩ := hm1.form
       subst hv1
       have hm1' := Lib.hid (hm1.alloc (.cells #[.int .i64 (-7), .int .i64 0, .string ⟨#[]⟩] 33))
       have hr1' := Lib.hid (rd_one encOp w1 opMark #[.int .i64 (-7), .int .i64 0, .string ⟨#[]⟩] rfl 33)
       have hb1 := Lib.hid ((Below.refl w.heap.size w).grown hg1 (Nat.le_refl _) (by simp [Value.ownBlock]))
       clear hm1 hg1 hat1 ha)
    | (at_builtin; refine wpList_app (v := .slice A1 os.length c1) (xs := os) (ys := [opMark]) rowOp encOp rfl (.tmp 12) (.tmp 14) rfl w.heap.size rfl hm1'.out rfl rfl hr1'.out (by simp only [List.length_singleton]; omega) (by simp only [List.length_singleton]; omega) (by have := hb1.out.size; simp; omega) ?_
       intro v2 w2 hm2 hg2 hat2
       obtain ⟨A2, c2, hv2, hc2⟩ := hm2.form
       subst hv2
       have hlen : (os ++ [opMark]).length = os.length + 1 := by simp
       rw [hlen] at hm2 hc2 ⊢
       clear hlen
       have hrd2 := Lib.hid (hm2.rd' encOp.len)
       have hb2 := Lib.hid ((hb1.out.alloc hb1.out.size _).grown hg2 (by have := hb1.out.size; simp; omega) (fun q e => (hm1'.out.lt q e).1))
       have hsl : os.length ≤ c2 := by omega
       clear hm1' hr1' hm2 hg2 hat2 hc1 hb1)
    | fail)
  refine (replay_prog A2 c2 _ os rfl w2 (by omega) HV.out (own_begin hrd2.out)).mono ?_
  rintro e w3 ⟨x1, x2, rfl, hmc3, hmr3, hb3⟩
  obtain ⟨A3, c3, rfl, _⟩ := hmc3.form
  obtain ⟨A4, c4, rfl, _⟩ := hmr3.form
  have hbw3 := hb2.out.trans (hb3.mono hb2.out.size)
  have hrd3 := (hrd2.out.below hb3).more hb3.size
  have hrc3 := hmc3.rd' encCell.len
  have hrr3 := hmr3.rd' encRes.len
  clear hmc3 hmr3 hb3 hrd2 hb2
  have hrl : (playR [] os).length = os.length := playR_length _ _
  have hcl := HPL.out
  have HB3 := Lib.hid hbw3
  clear hbw3
  dsimp only
  go_wp2_with fail
  have hbw3 := HB3.out
  refine (replay_ref A c _ os rfl w3 (by omega) HV.out ((HA.out.below hbw3).more hbw3.size)).mono ?_
  rintro e w4 ⟨A5, c5, x6, rfl, hrc4, hmr4, hb4⟩
  obtain ⟨A6, c6, rfl, _⟩ := hmr4.form
  have hbw4 := hbw3.trans (hb4.mono hbw3.size)
  have hrd4 := (hrd3.below hb4).more hb4.size
  have hrc3' := (hrc3.below hb4).more hb4.size
  have hrr3' := (hrr3.below hb4).more hb4.size
  have hrr4 := hmr4.rd' encRes.len
  have ha4 := Lib.hid ((HA.out.below hbw4).more hbw4.size)
  clear hmr4 hb4 hrd3 hrc3 hrr3 hbw3 HB3
  generalize playC [] os = cs at *
  generalize playR [] os = rs at *
  have HB4 := Lib.hid hbw4
  have HRD := Lib.hid hrd4
  have hmk := hrd4 os.length opMark (by simp)
  obtain ⟨am, hAm, _, hcm⟩ := hmk
  subst hAm
  obtain ⟨m0, m1, m2⟩ := hcm.three
  simp only [opMark] at m0 m1 m2
  have hneq := neq_op opMark opMark
  simp only [decide_true, Bool.not_true, opMark] at hneq
  have hg := guard_op
  have HSC := Lib.hid (sameCellsTrue A3 A5 c3 c5 _ cs rfl w4 (by omega) hrc3' hrc4)
  have HSR := Lib.hid (fun q => sameResultsTrue A4 A6 c4 c6 os.length rs hrl.symm (w4.drewN q) (by omega) hrr3' hrr4)
  clear hrc3' hrc4 hrr3' hrr4 hbw4 hrd4 hcm HV hc2 hcl
  dsimp only
  go_wp2_with fail
  refine HSC.out.mono ?_
  rintro e w' ⟨rfl, q1, rfl⟩
  dsimp only
  go_wp2_with fail
  refine (HSR.out q1).mono ?_
  rintro e w' ⟨rfl, q2, rfl⟩
  have hq : (w4.drewN q1).drewN q2 = w4.drewN (q1 + q2) := World.drewN_drewN _ _ _
  rw [hq]
  clear hq
  generalize q1 + q2 = q at *
  have HBB := Lib.hid hb
  clear HSC HSR hrl hlm hb hsl
  obtain ⟨N1, hN1⟩ : ∃ N1, N1 = os.length + 1 := ⟨_, rfl⟩
  rw [← hN1]
  have g0 : (os.length : Int) < (N1 : Int) := by omega
  have HN1 : os.length < N1 := by omega
  clear hN1
  dsimp only
  go_wp2_with fail
  have hl63 : os.length ≤ 9223372036854775806 := by have := HBB.out; omega
  clear m0 m1 m2 hneq
  go_loopw [8] (fun i wr => ∃ k : Nat, k ≤ os.length ∧ i = .int .i64 k ∧ ∃ q', wr = w4.drewN q') (fun i _ => os.length - (intOf i).toNat)
  case atStart => exact ⟨0, by omega, rfl, q, rfl⟩
  case round =>
    obtain ⟨k, hk, rfl, q', rfl⟩ := hrel
    by_cases h1 : k < os.length
    · obtain ⟨ad, hAd, _, hca⟩ := ha4.out.at_ h1
      subst hAd
      obtain ⟨ad', hAd', _, hca'⟩ := HRD.out k os[k] (by rw [List.getElem?_append_left h1]; exact List.getElem?_eq_getElem h1)
      cases hAd'
      obtain ⟨c0, c1', c2'⟩ := hca.three
      obtain ⟨d0, d1, d2⟩ := hca'.three
      have g1 : (k:Int) < (os.length : Int) := by omega
      have g2 : (k:Int) < (N1 : Int) := by omega
      have hne := neq_op os[k] os[k]
      simp only [decide_true, Bool.not_true] at hne
      clear hca hca' g0
      generalize os[k] = o at *
      go_wp2_with fail
      go_quiet (fail)
      go_wp2_with fail
      go_roundw
      case rel => exact ⟨k + 1, by omega, by go_num, (by first | exact ⟨_, rfl⟩ | exact drawn2 _ _ _)⟩
      case measure => simp [intOf]; omega
    · have g1 : decide (k < os.length) = false := by simp; omega
      have g2 : decide ((k : Int) < (os.length : Int)) = false := by simp; omega
      go_wp2_with fail
      refine (works04 _).mono ?_
      rintro e w5 ⟨rfl, hb5⟩
      have HB5 := Lib.hid ((below_drewN HB4.out q').trans (hb5.mono HB4.out.size))
      clear hb5
      dsimp only
      go_wp2_with fail
      go_ret
      exact ⟨rfl, HB5.out⟩

theorem replays_law (W : World) (A : Option Addr) (c n : Nat) (xs : List Op) (hn : n = xs.length) (_ : n ≤ c) (hrd : Rd Op.cells 3 W W.heap.size A xs) (hwf : ∀ o ∈ xs, o.wf) (hsz : xs.length * 32 ≤ 140737488351232) :
    Calls Try.prog 5 #[.slice A n c] W fun e w' => e = .returned (.bool true) ∧ Below W.heap.size W w' :=
  ledgerReplays_calls A c n xs hn W (by omega) (fun o ho => (hwf o ho).value) hrd
end Go.Proofs.Ytmijlflblhhfjaa
