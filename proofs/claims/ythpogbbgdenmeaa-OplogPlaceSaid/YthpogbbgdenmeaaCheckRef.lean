/- The reference's Check. Conditions: sizes within Go's own limits. -/
import Derived.Test.YthpogbbgdenmeaaEntryRef
import Derived.StillTailTactics
namespace Go.Proofs.Ythpogbbgdenmeaa
open Go.RowKit
set_option linter.unusedVariables false
set_option linter.unusedSimpArgs false

theorem below_drew {B : Nat} {a w : World} (h : Below B a w) : Below B a w.drew := ⟨h.os, h.tape, h.output, h.size, h.block⟩
set_option maxRecDepth 100000 in
set_option maxHeartbeats 1000000 in
theorem check_ref_log (A : Option Addr) (c n : Nat) (xs : List Entry) (room : Int) (hn : n = xs.length) (hc : n ≤ c) (w : World) (hl : xs.length ≤ 9223372036854775806) (hv : ∀ x ∈ xs, x.op.value.size ≤ 9223372036854775807) (ha : Rd Entry.cells 5 w w.heap.size A xs) :
    Calls Try.prog 15 #[.slice A n c, .int .i64 room] w fun e w' => e = .returned (.tuple #[.int .i64 (chkE xs room).1, .int .i64 (chkE xs room).2]) ∧ Below w.heap.size w w' := by
  subst hn
  by_cases hr1 : room < 1
  · have e : chkE xs room = (3, 0) := by unfold chkE; rw [if_pos (.inl hr1)]
    rw [e]
    go_enter Try.func15, Try.ntmps15
    go_wp2_with fail
    go_ret2
    exact ⟨rfl, Below.refl _ _⟩
  have hr1' : decide (room < 1) = false := decide_eq_false hr1
  by_cases hr2 : 256 < room
  · have e : chkE xs room = (3, 0) := by unfold chkE; rw [if_pos (.inr hr2)]
    rw [e]
    go_enter Try.func15, Try.ntmps15
    go_wp2_with fail
    go_ret2
    exact ⟨rfl, Below.refl _ _⟩
  have hr2' : decide (256 < room) = false := decide_eq_false hr2
  by_cases hr3 : room < (xs.length : Int)
  · have e : chkE xs room = (60, room) := by unfold chkE; rw [if_neg (by omega), if_pos hr3]
    rw [e]
    go_enter Try.func15, Try.ntmps15
    go_wp2_with fail
    go_ret2
    exact ⟨rfl, Below.refl _ _⟩
  have hr3' : decide (room < (xs.length : Int)) = false := decide_eq_false hr3
  have hchk : Hid (chkE xs room = badE xs) := by
    show _ = _
    unfold chkE; rw [if_neg (by omega), if_neg (by omega)]
  generalize chkE xs room = CE at *
  have HA := Lib.hid ha
  clear ha
  go_enter Try.func15, Try.ntmps15
  go_wp2_with fail
  go_loopw [6, 7] (fun i b wr => ∃ k : Nat, k ≤ xs.length ∧ i = .int .i64 k ∧ GoodE (xs.take k) ∧ Below w.heap.size w wr) (fun i _ _ => xs.length - (intOf i).toNat)
  case atStart => exact ⟨0, by omega, rfl, GoodE.nil, Below.refl _ _⟩
  case round =>
    obtain ⟨k, hk, rfl, hgood, hbr⟩ := hrel
    have HG := Lib.hid hgood
    clear hgood
    by_cases hk1 : k < xs.length
    · obtain ⟨ad, rfl, _, hca⟩ := (HA.out.below hbr).at_ hk1
      have g1 : (k:Int) < (xs.length : Int) := by omega
      have g3 : k ≤ c := by omega
      obtain ⟨c0, c1, c2, c3, c4⟩ := hca.five
      have hvk := hv _ (List.getElem_mem hk1)
      have hbad := Lib.hid (badE_at k hk1)
      have hsn := Lib.hid (take_snoc hk1)
      clear hca
      generalize xs[k] = y at *
      go_wp2_with fail
      go_still_tail 7, (by kernel_rfl)
      change wpList _ _ _ _ _ wr.drew
      have hbd : Below w.heap.size w wr.drew := below_drew hbr
      generalize wr.drew = w2 at *
      go_wp2_with fail
      refine (entry_ref (some ad) c k (xs.take k) y (by simp; omega) hvk w2 (by simp; omega) ((HA.out.below hbd).more hbd.size |>.take k)).mono ?_
      rintro e w3 ⟨rfl, hb3⟩
      have hb3' : Below w.heap.size w w3 := hbd.trans (hb3.mono hbd.size)
      have hF : Hid (∀ v : Int, v = fitE (xs.take k) y → (v = 0 → GoodE (xs.take (k + 1))) ∧ (v ≠ 0 → CE = (v, (k : Int) + 1))) := fun v hv => by
        subst hv
        exact ⟨fun h => by rw [hsn.out]; exact HG.out.snoc h, fun h => hchk.out.trans (hbad.out h HG.out)⟩
      obtain ⟨q, hq⟩ : ∃ q, q = fitE (xs.take k) y := ⟨_, rfl⟩
      have HF := Lib.hid (hF.out q hq)
      rw [← hq]
      clear hq hF hbad hchk HG hsn c0 c1 c2 c3 c4 HA
      by_cases h1 : q = 0
      · subst h1
        have HF1 := Lib.hid (HF.out.1 rfl)
        clear HF
        go_wp2_with fail
        go_roundw
        case rel => exact ⟨k + 1, by omega, by go_num, HF1.out, hb3'⟩
        case measure => simp [intOf]; omega
      · have e : CE = (q, (k : Int) + 1) := HF.out.2 h1
        subst e
        have h1' : (q == 0) = false := by simpa using h1
        clear HF
        go_wp2_with fail
        go_ret2
        exact ⟨rfl, hb3'⟩
    · have g2 : decide ((k:Int) < (xs.length : Int)) = false := by simp; omega
      have e : CE = (0, 0) := by
        have := HG.out
        rw [List.take_of_length_le (by omega)] at this
        exact hchk.out.trans (badE_good this)
      subst e
      clear hchk HG HA
      go_wp2_with fail
      go_ret2
      exact ⟨rfl, hbr⟩
end Go.Proofs.Ythpogbbgdenmeaa
