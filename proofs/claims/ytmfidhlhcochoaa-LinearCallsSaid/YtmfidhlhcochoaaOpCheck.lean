/- ledger.Check and the reference's: both answer checkOp. Conditions: none. -/
import Derived.Test.YtmfidhlhcochoaaEq
import Derived.Test.YtmfidhlhcochoaaCells
import Derived.WalkLawsBesides
namespace Go.Proofs.Ytmfidhlhcochoaa
open Go.RowKit
set_option linter.unusedVariables false
set_option linter.unusedSimpArgs false

/-- A string's length, as the walk spells it. -/
theorem ret_check {o : Op} {k : Int} (h : k = checkOp o) : Ending.returned (.int .i64 k) = .returned (.int .i64 (checkOp o)) := by rw [h]

set_option maxHeartbeats 2000000 in
theorem check_prog (o : Op) (hv : o.value.size ≤ 9223372036854775807) (w : World) :
    Calls Try.prog 80 #[.agg #[.int .i64 o.kind, .int .i64 o.slot, .string o.value]] w fun e w' => e = .returned (.int .i64 (checkOp o)) ∧ Below w.heap.size w w' := by
  obtain ⟨r, hr⟩ : ∃ r, r = checkOp o := ⟨_, rfl⟩
  have HR := Lib.hid hr
  rw [← hr]
  clear hr
  obtain ⟨k, s, v⟩ := o
  by_cases k1 : k = 1
  · subst k1
    go_enter Try.func80, Try.ntmps80
    go_wp2
    all_goals (go_ret; exact ⟨ret_int' (by rw [HR.out]; unfold checkOp; (try simp only [isEmpty_size, Bool.not_eq_true', decide_eq_false_iff_not, Bool.not_eq_false', decide_eq_true_eq] at *); (repeat' split) <;> simp_all <;> omega), (Below.refl _ _).alloc (Nat.le_refl _) _⟩)
  by_cases k2 : k = 2
  · subst k2
    go_enter Try.func80, Try.ntmps80
    go_wp2
    all_goals (go_ret; exact ⟨ret_int' (by rw [HR.out]; unfold checkOp; (try simp only [isEmpty_size, Bool.not_eq_true', decide_eq_false_iff_not, Bool.not_eq_false', decide_eq_true_eq] at *); (repeat' split) <;> simp_all <;> omega), (Below.refl _ _).alloc (Nat.le_refl _) _⟩)
  by_cases k3 : k = 3
  · subst k3
    go_enter Try.func80, Try.ntmps80
    go_wp2
    all_goals (go_ret; exact ⟨ret_int' (by rw [HR.out]; unfold checkOp; (try simp only [isEmpty_size, Bool.not_eq_true', decide_eq_false_iff_not, Bool.not_eq_false', decide_eq_true_eq] at *); (repeat' split) <;> simp_all <;> omega), (Below.refl _ _).alloc (Nat.le_refl _) _⟩)
  by_cases k4 : k = 4
  · subst k4
    go_enter Try.func80, Try.ntmps80
    go_wp2
    all_goals (go_ret; exact ⟨ret_int' (by rw [HR.out]; unfold checkOp; (try simp only [isEmpty_size, Bool.not_eq_true', decide_eq_false_iff_not, Bool.not_eq_false', decide_eq_true_eq] at *); (repeat' split) <;> simp_all <;> omega), (Below.refl _ _).alloc (Nat.le_refl _) _⟩)
  · have e1 : (k == 1) = false := by simpa using k1
    have e2 : (k == 2) = false := by simpa using k2
    have e3 : (k == 3) = false := by simpa using k3
    have e4 : (k == 4) = false := by simpa using k4
    go_enter Try.func80, Try.ntmps80
    go_wp2
    all_goals (go_ret; exact ⟨ret_int' (by rw [HR.out]; unfold checkOp; (try simp only [isEmpty_size, Bool.not_eq_true', decide_eq_false_iff_not, Bool.not_eq_false', decide_eq_true_eq] at *); (repeat' split) <;> simp_all <;> omega), (Below.refl _ _).alloc (Nat.le_refl _) _⟩)
set_option maxHeartbeats 2000000 in
theorem check_ref (o : Op) (hv : o.value.size ≤ 9223372036854775807) (w : World) :
    Calls Try.prog 16 #[.agg #[.int .i64 o.kind, .int .i64 o.slot, .string o.value]] w fun e w' => e = .returned (.int .i64 (checkOp o)) ∧ Below w.heap.size w w' := by
  obtain ⟨r, hr⟩ : ∃ r, r = checkOp o := ⟨_, rfl⟩
  have HR := Lib.hid hr
  rw [← hr]
  clear hr
  obtain ⟨k, s, v⟩ := o
  by_cases k1 : k = 1
  · subst k1
    go_enter Try.func16, Try.ntmps16
    go_wp2
    all_goals (go_ret; exact ⟨ret_int' (by rw [HR.out]; unfold checkOp; (try simp only [isEmpty_size, Bool.not_eq_true', decide_eq_false_iff_not, Bool.not_eq_false', decide_eq_true_eq] at *); (repeat' split) <;> simp_all <;> omega), (Below.refl _ _).alloc (Nat.le_refl _) _⟩)
  by_cases k2 : k = 2
  · subst k2
    go_enter Try.func16, Try.ntmps16
    go_wp2
    all_goals (go_ret; exact ⟨ret_int' (by rw [HR.out]; unfold checkOp; (try simp only [isEmpty_size, Bool.not_eq_true', decide_eq_false_iff_not, Bool.not_eq_false', decide_eq_true_eq] at *); (repeat' split) <;> simp_all <;> omega), (Below.refl _ _).alloc (Nat.le_refl _) _⟩)
  by_cases k3 : k = 3
  · subst k3
    go_enter Try.func16, Try.ntmps16
    go_wp2
    all_goals (go_ret; exact ⟨ret_int' (by rw [HR.out]; unfold checkOp; (try simp only [isEmpty_size, Bool.not_eq_true', decide_eq_false_iff_not, Bool.not_eq_false', decide_eq_true_eq] at *); (repeat' split) <;> simp_all <;> omega), (Below.refl _ _).alloc (Nat.le_refl _) _⟩)
  by_cases k4 : k = 4
  · subst k4
    go_enter Try.func16, Try.ntmps16
    go_wp2
    all_goals (go_ret; exact ⟨ret_int' (by rw [HR.out]; unfold checkOp; (try simp only [isEmpty_size, Bool.not_eq_true', decide_eq_false_iff_not, Bool.not_eq_false', decide_eq_true_eq] at *); (repeat' split) <;> simp_all <;> omega), (Below.refl _ _).alloc (Nat.le_refl _) _⟩)
  · have e1 : (k == 1) = false := by simpa using k1
    have e2 : (k == 2) = false := by simpa using k2
    have e3 : (k == 3) = false := by simpa using k3
    have e4 : (k == 4) = false := by simpa using k4
    go_enter Try.func16, Try.ntmps16
    go_wp2
    all_goals (go_ret; exact ⟨ret_int' (by rw [HR.out]; unfold checkOp; (try simp only [isEmpty_size, Bool.not_eq_true', decide_eq_false_iff_not, Bool.not_eq_false', decide_eq_true_eq] at *); (repeat' split) <;> simp_all <;> omega), (Below.refl _ _).alloc (Nat.le_refl _) _⟩)
end Go.Proofs.Ytmfidhlhcochoaa
