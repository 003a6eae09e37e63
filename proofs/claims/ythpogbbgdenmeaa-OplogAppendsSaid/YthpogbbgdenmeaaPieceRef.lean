/- Copy, Joined, Cut, Tail of the reference. Conditions: sizes within Go's own limits. -/
import Derived.Test.YthpogbbgdenmeaaJoin
namespace Go.Proofs.Ythpogbbgdenmeaa
open Go.RowKit
set_option linter.unusedVariables false
set_option linter.unusedSimpArgs false

set_option maxRecDepth 100000 in
theorem copy_ref (A : Option Addr) (c n : Nat) (xs : List Entry) (hn : n = xs.length) (w : World) (hb : xs.length * 48 ≤ 140737488355328) (ha : Rd Entry.cells 5 w w.heap.size A xs) :
    Calls Try.prog 49 #[.slice A n c] w fun e w' => ∃ v, e = .returned v ∧ Made Entry.cells 5 41 w.heap.size w' v xs ∧ Below w.heap.size w w' := by
  subst hn
  have hl : xs.length ≤ maxLen := by unfold maxLen; omega
  go_enter Try.func49, Try.ntmps49
  go_wp2_with (at_builtin; refine wpList_app (v := .slice none 0 0) (xs := []) rowEntry encEntry rfl (.tmp 4) (.tmp 5) rfl w.heap.size rfl (Made.nil _ _ _) rfl rfl ha (by simpa using hb) (by simpa using hl) (Nat.le_refl _) ?_; intro v1 w1 hm1 hg1 hat1)
  go_ret
  simp only [List.nil_append] at hm1
  exact ⟨_, rfl, hm1, (Below.refl _ _).grown hg1 (Nat.le_refl _) (by simp [Value.ownBlock])⟩

set_option maxRecDepth 100000 in
theorem cut_ref (A : Option Addr) (c n : Nat) (k : Int) (xs : List Entry) (hn : n = xs.length) (hc : n ≤ c) (w : World) (hb : xs.length * 48 ≤ 140737488355328) (ha : Rd Entry.cells 5 w w.heap.size A xs) :
    Calls Try.prog 24 #[.slice A n c, .int .i64 k] w fun e w' => ∃ v, e = .returned (.tuple #[v, .int .i64 (if k < 0 ∨ n < k then 61 else 0)]) ∧ Made Entry.cells 5 41 w.heap.size w' v (if k < 0 ∨ n < k then [] else xs.take k.toNat) ∧ Below w.heap.size w w' := by
  subst hn
  by_cases h0 : k < 0
  · rw [if_pos (.inl h0), if_pos (.inl h0)]
    go_enter Try.func24, Try.ntmps24
    go_wp2_with fail
    go_ret2
    exact ⟨_, rfl, Made.nil _ _ _, Below.refl _ _⟩
  · by_cases h1 : (xs.length : Int) < k
    · rw [if_pos (.inr h1), if_pos (.inr h1)]
      have h0' : decide (k < 0) = false := by simp; omega
      go_enter Try.func24, Try.ntmps24
      go_wp2_with fail
      go_ret2
      exact ⟨_, rfl, Made.nil _ _ _, Below.refl _ _⟩
    · rw [if_neg (by omega), if_neg (by omega)]
      obtain ⟨j, rfl⟩ := Int.eq_ofNat_of_zero_le (show 0 ≤ k by omega)
      have h1' : decide (xs.length < j) = false := decide_eq_false (by omega)
      go_enter Try.func24, Try.ntmps24
      go_wp2_with fail
      refine (copy_ref A c j (xs.take j) (by simp; omega) w (by simp; omega) (ha.take j)).mono ?_
      rintro e w' ⟨v, rfl, hm, hb'⟩
      dsimp only
      go_wp2
      go_ret2
      exact ⟨v, rfl, by simpa using hm, hb'⟩

set_option maxRecDepth 100000 in
theorem tail_ref (A : Option Addr) (c n : Nat) (k : Int) (xs : List Entry) (hn : n = xs.length) (hc : n ≤ c) (w : World) (hb : xs.length * 48 ≤ 140737488355328) (hk : I64 k) (ha : Rd Entry.cells 5 w w.heap.size A xs) :
    Calls Try.prog 26 #[.slice A n c, .int .i64 k] w fun e w' => ∃ v, e = .returned (.tuple #[v, .int .i64 (if k < 1 ∨ n < k - 1 then 61 else 0)]) ∧ Made Entry.cells 5 41 w.heap.size w' v (if k < 1 ∨ n < k - 1 then [] else xs.drop (k - 1).toNat) ∧ Below w.heap.size w w' := by
  subst hn
  obtain ⟨hk1, hk2⟩ := hk
  by_cases h0 : k < 1
  · rw [if_pos (.inl h0), if_pos (.inl h0)]
    go_enter Try.func26, Try.ntmps26
    go_wp2_with fail
    go_ret2
    exact ⟨_, rfl, Made.nil _ _ _, Below.refl _ _⟩
  · by_cases h1 : (xs.length : Int) < k - 1
    · rw [if_pos (.inr h1), if_pos (.inr h1)]
      have h0' : decide (k < 1) = false := by simp; omega
      go_enter Try.func26, Try.ntmps26
      go_wp2_with fail
      go_ret2
      exact ⟨_, rfl, Made.nil _ _ _, Below.refl _ _⟩
    · rw [if_neg (by omega), if_neg (by omega)]
      obtain ⟨j, hj⟩ := Int.eq_ofNat_of_zero_le (show 0 ≤ k - 1 by omega)
      obtain rfl : k = (j : Int) + 1 := by omega
      have h0' : decide ((j : Int) + 1 < 1) = false := decide_eq_false (by omega)
      have h1' : decide (xs.length < j) = false := decide_eq_false (by omega)
      have hjl : j ≤ xs.length := by omega
      have e : ((j : Int) + 1 - 1).toNat = j := by omega
      rw [e]
      clear hj h0 h1 e hk1 hk2
      go_enter Try.func26, Try.ntmps26
      go_wp2_with fail
      · have he : xs.drop j = [] := List.drop_eq_nil_of_le (by omega)
        refine (copy_ref A 0 (xs.length - j) [] (by simp; omega) w (by simp) Rd.nil).mono ?_
        rintro e w' ⟨v, rfl, hm, hb'⟩
        dsimp only
        go_wp2
        go_ret2
        exact ⟨_, rfl, by rw [he]; exact hm, hb'⟩
      · refine (copy_ref _ (c - j) (xs.length - j) (xs.drop j) (by simp) w (by simp; omega) (ha.drop j)).mono ?_
        rintro e w' ⟨v, rfl, hm, hb'⟩
        dsimp only
        go_wp2
        go_ret2
        exact ⟨_, rfl, hm, hb'⟩
end Go.Proofs.Ythpogbbgdenmeaa
