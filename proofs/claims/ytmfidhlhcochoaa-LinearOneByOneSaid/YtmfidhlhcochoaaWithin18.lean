/- within of layer 18: a number brought into 0 to five. Conditions: none. -/
import Derived.Test.YtmfidhlhcochoaaLinM1
namespace Go.Proofs.Ytmfidhlhcochoaa
open Go.RowKit
set_option linter.unusedVariables false
set_option linter.unusedSimpArgs false

def withinL (k : Int) : Int := if k.tmod 6 < 0 then k.tmod 6 + 6 else k.tmod 6
theorem withinL_le (k : Int) : 0 ≤ withinL k ∧ withinL k ≤ 5 := by
  have h1 : (k.tmod 6).natAbs < 6 := by
    have := Int.natAbs_tmod k 6
    rw [this]
    exact Nat.mod_lt _ (by decide)
  unfold withinL
  split <;> omega
theorem within18 (k : Int) (w : World) : Calls Try.prog 17 #[.int .i64 k, .int .i64 5] w fun e w' => e = .returned (.int .i64 (withinL k)) ∧ w' = w := by
  obtain ⟨r, hr⟩ : ∃ r, r = withinL k := ⟨_, rfl⟩
  rw [← hr]
  have HR := Lib.hid hr
  clear hr
  obtain ⟨q, hq⟩ : ∃ q, q = k.tmod 6 := ⟨_, rfl⟩
  have HQ := Lib.hid hq
  have hb : (k.tmod 6).natAbs < 6 := by
    have := Int.natAbs_tmod k 6
    rw [this]
    exact Nat.mod_lt _ (by decide)
  rw [← hq] at hb
  have hw0 : IntKind.i64.wrap (k.tmod 6) = q := by rw [← hq]; exact IntWalk.i64_in _ (by omega)
  have hw1 : IntKind.i64.wrap (q + 5) = q + 5 := IntWalk.i64_in _ (by omega)
  have hw2 : IntKind.i64.wrap (q + 5 + 1) = q + 6 := by rw [IntWalk.i64_in _ (by omega)]; omega
  have hbq := Lib.hid hb
  clear hb
  by_cases h0 : q < 0
  · have h02 : decide (q < 0) = true := decide_eq_true h0
    obtain rfl : r = q + 6 := by rw [HR.out]; unfold withinL; rw [← HQ.out, if_pos h0]
    rw [hq] at *
    go_enter Try.func17, Try.ntmps17
    go_wp2_with fail
    go_ret
    exact ⟨rfl, rfl⟩
  · have h02 : decide (q < 0) = false := decide_eq_false h0
    obtain rfl : r = q := by rw [HR.out]; unfold withinL; rw [← HQ.out, if_neg h0]
    go_enter Try.func17, Try.ntmps17
    go_wp2_with fail
    go_ret
    exact ⟨rfl, rfl⟩
end Go.Proofs.Ytmfidhlhcochoaa
