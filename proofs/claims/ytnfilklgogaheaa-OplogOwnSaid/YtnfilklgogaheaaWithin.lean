/- within and size of chapter 06: a number brought into a range. Conditions: the range is a range. -/
import Derived.Test.YtnfilklgogaheaaWorks06
namespace Go.Proofs.Ytnfilklgogaheaa
open Go.RowKit
set_option linter.unusedVariables false
set_option linter.unusedSimpArgs false

theorem tmod_emod (k m : Int) (hm : 0 < m) : (if k.tmod m < 0 then k.tmod m + m else k.tmod m) = k % m := by
  rw [Int.tmod_eq_emod]
  have h1 := Int.emod_nonneg k (by omega : m ≠ 0)
  have h2 := Int.emod_lt_of_pos k hm
  split <;> split <;> simp_all <;> omega

theorem within_calls (k m : Int) (hk : I64 k) (hm : 0 ≤ m) (hm' : m ≤ 9223372036854775806) (w : World) :
    Calls Try.prog 24 #[.int .i64 k, .int .i64 m] w fun e w' => e = .returned (.int .i64 (k % (m + 1))) ∧ w' = w := by
  have ht := tmod_emod k (m + 1) (by omega)
  have h1 := Int.emod_nonneg k (by omega : m + 1 ≠ 0)
  have h2 := Int.emod_lt_of_pos k (by omega : 0 < m + 1)
  obtain ⟨hk1, hk2⟩ := hk
  have hne : m + 1 ≠ 0 := by omega
  obtain ⟨t, htt⟩ : ∃ t, t = k.tmod (m + 1) := ⟨_, rfl⟩
  rw [← htt] at ht
  have hne' : (m + 1 == 0) = false := by simpa using hne
  generalize hq : k % (m + 1) = q at *
  by_cases h0 : t < 0
  · rw [if_pos h0] at ht
    go_enter Try.func24, Try.ntmps24
    go_wp2_with fail
    all_goals
      go_ret
      exact ⟨ret_int' (by omega), rfl⟩
  · rw [if_neg h0] at ht
    go_enter Try.func24, Try.ntmps24
    go_wp2_with fail
    all_goals
      go_ret
      exact ⟨ret_int' (by omega), rfl⟩
end Go.Proofs.Ytnfilklgogaheaa
