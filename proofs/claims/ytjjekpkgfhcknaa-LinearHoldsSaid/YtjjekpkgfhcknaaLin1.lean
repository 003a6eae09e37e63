/- Precedes, may, missing: what they answer. Conditions: Go lengths. -/
import Derived.Test.YtjjekpkgfhcknaaCall
import Derived.Test.YtjjekpkgfhcknaaOpCheck
import Derived.Test.YtjjekpkgfhcknaaOpen3
namespace Go.Proofs.Ytjjekpkgfhcknaa
open Go.RowKit
set_option linter.unusedVariables false
set_option linter.unusedSimpArgs false

theorem precedes_prog (x y : Call) (w : World) :
    Calls Try.prog 16 #[.agg #[.int .i64 x.client, .int .i64 x.number, .int .i64 x.op.kind, .int .i64 x.op.slot, .string x.op.value, .int .i64 x.beg, .int .i64 x.fin, .int .i64 x.res.code, .int .i64 x.res.slot, .string x.res.value], .agg #[.int .i64 y.client, .int .i64 y.number, .int .i64 y.op.kind, .int .i64 y.op.slot, .string y.op.value, .int .i64 y.beg, .int .i64 y.fin, .int .i64 y.res.code, .int .i64 y.res.slot, .string y.res.value]] w
      fun e w' => e = .returned (.bool (precedes x y)) ∧ Below w.heap.size w w' := by
  by_cases h1 : 0 ≤ x.fin
  · by_cases h2 : x.fin < y.beg
    · have hp : precedes x y = true := by simp [precedes, h1, h2]
      rw [hp]
      have g1 : decide (x.fin < y.beg) = true := decide_eq_true h2
      go_enter Try.func16, Try.ntmps16
      go_wp2
      go_ret
      exact ⟨rfl, ((Below.refl _ _).alloc (Nat.le_refl _) _).alloc (by simp) _⟩
    · have hp : precedes x y = false := by simp [precedes, h2]
      rw [hp]
      have g1 : decide (x.fin < y.beg) = false := decide_eq_false h2
      go_enter Try.func16, Try.ntmps16
      go_wp2
      go_ret
      exact ⟨rfl, ((Below.refl _ _).alloc (Nat.le_refl _) _).alloc (by simp) _⟩
  · have hp : precedes x y = false := by simp [precedes, h1]
    rw [hp]
    go_enter Try.func16, Try.ntmps16
    go_wp2
    go_ret
    exact ⟨rfl, ((Below.refl _ _).alloc (Nat.le_refl _) _).alloc (by simp) _⟩
theorem precedes_ref (x y : Call) (w : World) :
    Calls Try.prog 17 #[.agg #[.int .i64 x.client, .int .i64 x.number, .int .i64 x.op.kind, .int .i64 x.op.slot, .string x.op.value, .int .i64 x.beg, .int .i64 x.fin, .int .i64 x.res.code, .int .i64 x.res.slot, .string x.res.value], .agg #[.int .i64 y.client, .int .i64 y.number, .int .i64 y.op.kind, .int .i64 y.op.slot, .string y.op.value, .int .i64 y.beg, .int .i64 y.fin, .int .i64 y.res.code, .int .i64 y.res.slot, .string y.res.value]] w
      fun e w' => e = .returned (.bool (precedes x y)) ∧ Below w.heap.size w w' := by
  by_cases h1 : 0 ≤ x.fin
  · by_cases h2 : x.fin < y.beg
    · have hp : precedes x y = true := by simp [precedes, h1, h2]
      rw [hp]
      have g1 : decide (x.fin < y.beg) = true := decide_eq_true h2
      go_enter Try.func17, Try.ntmps17
      go_wp2
      go_ret
      exact ⟨rfl, ((Below.refl _ _).alloc (Nat.le_refl _) _).alloc (by simp) _⟩
    · have hp : precedes x y = false := by simp [precedes, h2]
      rw [hp]
      have g1 : decide (x.fin < y.beg) = false := decide_eq_false h2
      go_enter Try.func17, Try.ntmps17
      go_wp2
      go_ret
      exact ⟨rfl, ((Below.refl _ _).alloc (Nat.le_refl _) _).alloc (by simp) _⟩
  · have hp : precedes x y = false := by simp [precedes, h1]
    rw [hp]
    go_enter Try.func17, Try.ntmps17
    go_wp2
    go_ret
    exact ⟨rfl, ((Below.refl _ _).alloc (Nat.le_refl _) _).alloc (by simp) _⟩

theorem may_prog (c n : Int) (o : Op) (hv : o.value.size ≤ 9223372036854775807) (w : World) :
    Calls Try.prog 44 #[.int .i64 c, .int .i64 n, .agg #[.int .i64 o.kind, .int .i64 o.slot, .string o.value]] w fun e w' => e = .returned (.bool (mayC c n o)) ∧ Below w.heap.size w w' := by
  by_cases h : 0 ≤ c ∧ c < 16 ∧ 1 ≤ n
  · obtain ⟨h1, h2, h3⟩ := h
    have hm : mayC c n o = decide (checkOp o = 0) := by simp [mayC, h1, h2, h3]
    rw [hm]
    obtain ⟨r, hr⟩ : ∃ r, r = decide (checkOp o = 0) := ⟨_, rfl⟩
    rw [← hr]
    have HR := Lib.hid hr
    clear hr hm
    go_enter Try.func44, Try.ntmps44
    go_wp2_with fail
    have hb0 : Below w.heap.size w (w.alloc (.cells #[.int .i64 o.kind, .int .i64 o.slot, .string o.value] 24)) := (Below.refl _ _).alloc (Nat.le_refl _) _
    refine (check_prog o hv _).mono ?_
    rintro e w1 ⟨rfl, hb1⟩
    have hb := hb0.trans (hb1.mono hb0.size)
    generalize checkOp o = q at *
    by_cases hq : q = 0
    · subst hq
      obtain rfl : r = true := HR.out
      dsimp only
      go_wp2_with fail
      go_ret
      exact ⟨rfl, hb⟩
    · have hq' : (q == 0) = false := by simpa using hq
      obtain rfl : r = false := HR.out.trans (decide_eq_false hq)
      dsimp only
      go_wp2_with fail
      go_ret
      exact ⟨rfl, hb⟩
  · have hm : mayC c n o = false := by
      simp only [mayC, Bool.and_eq_false_iff, decide_eq_false_iff_not]
      omega
    rw [hm]
    by_cases h1 : 0 ≤ c
    · by_cases h2 : c < 16
      · have h3 : ¬ 1 ≤ n := fun h3 => h ⟨h1, h2, h3⟩
        go_enter Try.func44, Try.ntmps44
        go_wp2
        go_ret
        exact ⟨rfl, (Below.refl _ _).alloc (Nat.le_refl _) _⟩
      · go_enter Try.func44, Try.ntmps44
        go_wp2
        go_ret
        exact ⟨rfl, (Below.refl _ _).alloc (Nat.le_refl _) _⟩
    · go_enter Try.func44, Try.ntmps44
      go_wp2
      go_ret
      exact ⟨rfl, (Below.refl _ _).alloc (Nat.le_refl _) _⟩
end Go.Proofs.Ytjjekpkgfhcknaa
