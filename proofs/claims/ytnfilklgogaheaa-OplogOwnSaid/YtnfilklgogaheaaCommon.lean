/- Common, Begins, Agree of the program and of the reference: what they compute. Conditions: lengths are Go lengths. -/
import Derived.Test.YtnfilklgogaheaaEq
import Derived.Deep.QuietTactic
import Derived.BigQuiet
import Derived.Deep.LoopGhost
import Derived.WalkSpells
namespace Go.Proofs.Ytnfilklgogaheaa
open Go.RowKit
set_option linter.unusedVariables false
set_option linter.unusedSimpArgs false

/-- how much two lists share -/
def common : List Entry → List Entry → Nat
  | x :: xs, y :: ys => if x = y then common xs ys + 1 else 0
  | _, _ => 0
theorem common_drop (xs ys : List Entry) (k : Nat) (h1 : k < xs.length) (h2 : k < ys.length) :
    common (xs.drop k) (ys.drop k) = if xs[k] = ys[k] then common (xs.drop (k + 1)) (ys.drop (k + 1)) + 1 else 0 := by
  rw [List.drop_eq_getElem_cons h1, List.drop_eq_getElem_cons h2]; rfl
theorem common_end (xs ys : List Entry) (k : Nat) (h : xs.length ≤ k ∨ ys.length ≤ k) : common (xs.drop k) (ys.drop k) = 0 := by
  rcases h with h | h
  · rw [List.drop_eq_nil_of_le h]; cases ys.drop k <;> rfl
  · rw [List.drop_eq_nil_of_le h]; cases xs.drop k <;> rfl
theorem common_le (xs ys : List Entry) : common xs ys ≤ xs.length ∧ common xs ys ≤ ys.length := by
  induction xs generalizing ys with
  | nil => simp [common]
  | cons x xs ih =>
    cases ys with
    | nil => simp [common]
    | cons y ys =>
      simp only [common]
      have := ih ys
      split <;> simp <;> omega

theorem common_self (xs : List Entry) : common xs xs = xs.length := by
  induction xs with
  | nil => rfl
  | cons x xs ih => simp [common, ih]
def begins (xs ys : List Entry) : Bool := decide (common xs ys = xs.length)
def agree (xs ys : List Entry) (n : Int) : Bool := decide (0 ≤ n ∧ n ≤ common xs ys)
end Go.Proofs.Ytnfilklgogaheaa
