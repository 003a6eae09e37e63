/- LinearSearches answers true. Conditions: sizes within the form's own reach. -/
import Derived.Test.YtmfidhlhcochoaaChecks18
import Derived.Test.YtmfidhlhcochoaaRefM18
import Derived.Test.YtmfidhlhcochoaaSearch
namespace Go.Proofs.Ytmfidhlhcochoaa
open Go.RowKit
set_option linter.unusedVariables false
set_option linter.unusedSimpArgs false

theorem tryL_len {g : Nat → Option (List Nat)} {is ks : List Nat} {m : Nat} (hg : ∀ i js, g i = some js → js.length ≤ m) (h : tryL g is = some ks) : ks.length ≤ m + 1 := by
  induction is with
  | nil => cases h
  | cons i is ih =>
    simp only [tryL] at h
    cases hi : g i with
    | some js =>
      rw [hi] at h
      cases h
      have := hg i js hi
      simp only [List.length_cons]
      omega
    | none => rw [hi] at h; exact ih h
theorem comp_len (l : List Call) : ∀ (f : Nat) (S : List Bool) (cs : List Cell) (ks : List Nat), comp f l S cs = some ks → ks.length ≤ f := by
  intro f
  induction f with
  | zero => intro S cs ks h; cases h
  | succ f ih =>
    intro S cs ks h
    simp only [comp] at h
    split at h
    · refine tryL_len (m := f) ?_ h
      intro i js hj
      split at hj
      · split at hj
        · cases hj
        · exact ih _ _ _ hj
      · cases hj
    · cases h
      exact Nat.zero_le _
theorem search_len (l : List Call) (hl : l.length ≤ 9223372036854775805) : (searchL l).1.length ≤ 9223372036854775806 := by
  unfold searchL
  split
  · exact Nat.zero_le _
  · split
    · exact Nat.zero_le _
    · split
      · rename_i ks hk
        have := comp_len l _ _ _ _ hk
        show ks.length ≤ _
        omega
      · exact Nat.zero_le _

set_option maxHeartbeats 1600000 in
theorem sameInts (A B : Option Addr) (c d n : Nat) (xs : List Nat) (hxn : n = xs.length) (w : World) (hn : xs.length ≤ 9223372036854775806) (ha : Rd icell 1 w w.heap.size A xs) (hb : Rd icell 1 w w.heap.size B xs) :
    Calls Try.prog 14 #[.slice A n c, .slice B n d] w fun e w' => e = .returned (.bool true) ∧ ∃ q, w' = w.drewN q := by
  subst hxn
  have HA := Lib.hid ha
  have HB := Lib.hid hb
  clear ha hb
  go_enter Try.func14, Try.ntmps14
  go_wp2
  go_loopw [5] (fun i wr => ∃ k : Nat, k ≤ xs.length ∧ i = .int .i64 k ∧ ∃ q, wr = w.drewN q) (fun i _ => xs.length - (intOf i).toNat)
  case atStart => exact ⟨0, by omega, rfl, 0, rfl⟩
  case round =>
    obtain ⟨k, hk, rfl, q, rfl⟩ := hrel
    by_cases h1 : k < xs.length
    · obtain ⟨ad, hA, _, hca⟩ := HA.out.at_ h1
      obtain ⟨bd, hB, _, hcb⟩ := HB.out.at_ h1
      subst hA; subst hB
      have g1 : (k:Int) < (xs.length : Int) := by omega
      have c0 : w.cell? (ad.add k) = some (.int .i64 (xs[k] : Nat)) := by have := hca.one; rwa [Nat.mul_one] at this
      have d0 : w.cell? (bd.add k) = some (.int .i64 (xs[k] : Nat)) := by have := hcb.one; rwa [Nat.mul_one] at this
      clear hca hcb
      generalize xs[k] = x at *
      go_wp2_with fail
      go_quiet (fail)
      go_wp2
      go_roundw
      case rel => exact ⟨k + 1, by omega, by go_num, (by first | exact ⟨_, rfl⟩ | exact drawn2 _ _ _)⟩
      case measure => simp [intOf]; omega
    · have g2 : decide ((k:Int) < (xs.length : Int)) = false := by simp; omega
      go_wp2
      go_ret
      exact ⟨rfl, _, rfl⟩

end Go.Proofs.Ytmfidhlhcochoaa
