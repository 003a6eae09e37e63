/- piece, Cut, Tail of the program; Copy, Cut, Tail of the reference. Conditions: sizes within Go's own limits. -/
import Derived.Test.YtnfilklgogaheaaJoin
namespace Go.Proofs.Ytnfilklgogaheaa
open Go.RowKit
set_option linter.unusedVariables false
set_option linter.unusedSimpArgs false

set_option maxRecDepth 100000 in
theorem piece (A : Option Addr) (c n lo hi : Nat) (xs : List Entry) (hn : n = xs.length) (hc : n ≤ c) (w : World) (hb : xs.length * 48 ≤ 140737488355328) (ha : Rd Entry.cells 5 w w.heap.size A xs) (h1 : lo ≤ hi) (h2 : hi ≤ n) :
    Calls Try.prog 58 #[.slice A n c, .int .i64 ((lo : Int) + 1), .int .i64 hi] w fun e w' => ∃ v, e = .returned v ∧ Made Entry.cells 5 32 w.heap.size w' v ((xs.take hi).drop lo) ∧ Below w.heap.size w w' := by
  subst hn
  go_enter Try.func58, Try.ntmps58
  go_wp2_with fail
  · have he : (xs.take hi).drop lo = [] := List.drop_eq_nil_of_le (by simp; omega)
    refine (joined A none 0 0 0 0 [] [] rfl rfl w (by simp) Rd.nil Rd.nil).mono ?_
    rintro e w' ⟨v, rfl, hm, hb⟩
    go_wp2
    go_ret
    exact ⟨_, rfl, by rw [he]; simpa using hm, hb⟩
  · have hl : hi - lo = ((xs.take hi).drop lo).length := by simp; omega
    have hr := (ha.take hi).drop lo
    refine (joined _ none (hi - lo) 0 _ 0 ((xs.take hi).drop lo) [] hl rfl w (by rw [← hl]; simp; omega) hr Rd.nil).mono ?_
    rintro e w' ⟨v, rfl, hm, hb⟩
    dsimp only
    go_wp2
    go_ret
    exact ⟨_, rfl, by simpa using hm, hb⟩

set_option maxRecDepth 100000 in
theorem cut_prog (A : Option Addr) (c n : Nat) (k : Int) (xs : List Entry) (hn : n = xs.length) (hc : n ≤ c) (w : World) (hb : xs.length * 48 ≤ 140737488355328) (ha : Rd Entry.cells 5 w w.heap.size A xs) :
    Calls Try.prog 26 #[.slice A n c, .int .i64 k] w fun e w' => ∃ v, e = .returned (.tuple #[v, .int .i64 (if k < 0 ∨ n < k then 61 else 0)]) ∧ Made Entry.cells 5 32 w.heap.size w' v (if k < 0 ∨ n < k then [] else xs.take k.toNat) ∧ Below w.heap.size w w' := by
  subst hn
  by_cases h0 : k < 0
  · rw [if_pos (.inl h0), if_pos (.inl h0)]
    go_enter Try.func26, Try.ntmps26
    go_wp2_with fail
    go_ret2
    exact ⟨_, rfl, Made.nil _ _ _, Below.refl _ _⟩
  · by_cases h1 : (xs.length : Int) < k
    · rw [if_pos (.inr h1), if_pos (.inr h1)]
      have h0' : decide (k < 0) = false := by simp; omega
      go_enter Try.func26, Try.ntmps26
      go_wp2_with fail
      go_ret2
      exact ⟨_, rfl, Made.nil _ _ _, Below.refl _ _⟩
    · rw [if_neg (by omega), if_neg (by omega)]
      obtain ⟨j, rfl⟩ := Int.eq_ofNat_of_zero_le (show 0 ≤ k by omega)
      have h1' : decide (xs.length < j) = false := decide_eq_false (by omega)
      go_enter Try.func26, Try.ntmps26
      go_wp2_with fail
      refine (piece A c xs.length 0 j xs rfl hc w hb ha (by omega) (by omega)).mono ?_
      rintro e w' ⟨v, rfl, hm, hb'⟩
      go_wp2
      go_ret2
      exact ⟨_, rfl, by simpa using hm, hb'⟩

set_option maxRecDepth 100000 in
theorem tail_prog (A : Option Addr) (c n : Nat) (k : Int) (xs : List Entry) (hn : n = xs.length) (hc : n ≤ c) (w : World) (hb : xs.length * 48 ≤ 140737488355328) (ha : Rd Entry.cells 5 w w.heap.size A xs) :
    Calls Try.prog 27 #[.slice A n c, .int .i64 k] w fun e w' => ∃ v, e = .returned (.tuple #[v, .int .i64 (if k < 1 ∨ n < k - 1 then 61 else 0)]) ∧ Made Entry.cells 5 32 w.heap.size w' v (if k < 1 ∨ n < k - 1 then [] else xs.drop (k - 1).toNat) ∧ Below w.heap.size w w' := by
  subst hn
  by_cases h0 : k < 1
  · rw [if_pos (.inl h0), if_pos (.inl h0)]
    go_enter Try.func27, Try.ntmps27
    go_wp2_with fail
    go_ret2
    exact ⟨_, rfl, Made.nil _ _ _, Below.refl _ _⟩
  · by_cases h1 : (xs.length : Int) < k - 1
    · rw [if_pos (.inr h1), if_pos (.inr h1)]
      have h0' : decide (k < 1) = false := by simp; omega
      have h1' : (xs.length : Int) + 1 < k := by omega
      go_enter Try.func27, Try.ntmps27
      go_wp2_with fail
      go_ret2
      exact ⟨_, rfl, Made.nil _ _ _, Below.refl _ _⟩
    · rw [if_neg (by omega), if_neg (by omega)]
      obtain ⟨j, hj⟩ := Int.eq_ofNat_of_zero_le (show 0 ≤ k - 1 by omega)
      obtain rfl : k = (j : Int) + 1 := by omega
      have h0' : decide ((j : Int) + 1 < 1) = false := decide_eq_false (by omega)
      have h1' : decide ((xs.length : Int) + 1 < (j : Int) + 1) = false := decide_eq_false (by omega)
      have hjl : j ≤ xs.length := by omega
      have e : ((j : Int) + 1 - 1).toNat = j := by omega
      rw [e]
      clear hj h0 h1 e
      go_enter Try.func27, Try.ntmps27
      go_wp2_with fail
      refine (piece A c xs.length j xs.length xs rfl hc w hb ha (by omega) (by omega)).mono ?_
      rintro e w' ⟨v, rfl, hm, hb'⟩
      go_wp2
      go_ret2
      exact ⟨_, rfl, by simpa using hm, hb'⟩
end Go.Proofs.Ytnfilklgogaheaa
