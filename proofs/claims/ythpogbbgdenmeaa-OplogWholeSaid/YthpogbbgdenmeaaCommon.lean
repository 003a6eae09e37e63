/- Common, Begins, Agree of the program and of the reference: what they compute. Conditions: lengths are Go lengths. -/
import Derived.Test.YthpogbbgdenmeaaEq
import Derived.Deep.QuietTactic
import Derived.BigQuiet
import Derived.Deep.LoopGhost
import Derived.WalkSpells
namespace Go.Proofs.Ythpogbbgdenmeaa
open Go.RowKit
set_option linter.unusedVariables false
set_option linter.unusedSimpArgs false

/-- how much two lists share -/
def common : List Entry → List Entry → Nat
  | x :: xs, y :: ys => if x = y then common xs ys + 1 else 0
  | _, _ => 0
theorem common_drop (xs ys : List Entry) (k : Nat) (h1 : k < xs.length) (h2 : k < ys.length) :
    common (xs.drop k) (ys.drop k) = if xs[k] = ys[k] then common (xs.drop (k + 1)) (ys.drop (k + 1)) + 1 else 0 := by
  rw [List.drop_eq_getElem_cons h1, List.drop_eq_getElem_cons h2]; rfl
theorem common_end (xs ys : List Entry) (k : Nat) (h : xs.length ≤ k ∨ ys.length ≤ k) : common (xs.drop k) (ys.drop k) = 0 := by
  rcases h with h | h
  · rw [List.drop_eq_nil_of_le h]; cases ys.drop k <;> rfl
  · rw [List.drop_eq_nil_of_le h]; cases xs.drop k <;> rfl
theorem common_le (xs ys : List Entry) : common xs ys ≤ xs.length ∧ common xs ys ≤ ys.length := by
  induction xs generalizing ys with
  | nil => simp [common]
  | cons x xs ih =>
    cases ys with
    | nil => simp [common]
    | cons y ys =>
      simp only [common]
      have := ih ys
      split <;> simp <;> omega

set_option maxHeartbeats 400000 in
theorem common_prog (A B : Option Addr) (c d n m : Nat) (xs ys : List Entry) (hxn : n = xs.length) (hym : m = ys.length) (w : World) (hn : xs.length ≤ 9223372036854775807) (hm : ys.length ≤ 9223372036854775807) (ha : Rd Entry.cells 5 w w.heap.size A xs) (hb : Rd Entry.cells 5 w w.heap.size B ys) :
    Calls Try.prog 33 #[.slice A n c, .slice B m d] w fun e w' => e = .returned (.int .i64 (common xs ys)) ∧ ∃ q, w' = w.drewN q := by
  subst hxn; subst hym
  go_enter Try.func33, Try.ntmps33
  go_wp2
  go_loopw [5] (fun i wr => ∃ k : Nat, k ≤ xs.length ∧ k ≤ ys.length ∧ i = .int .i64 k ∧ k + common (xs.drop k) (ys.drop k) = common xs ys ∧ ∃ q, wr = w.drewN q) (fun i _ => xs.length - (intOf i).toNat)
  case atStart => exact ⟨0, by omega, by omega, rfl, by simp, 0, rfl⟩
  case round =>
    obtain ⟨k, hk, hk', rfl, hc, q, rfl⟩ := hrel
    have HC := Lib.hid hc
    clear hc
    by_cases h1 : k < xs.length
    · by_cases h2 : k < ys.length
      · obtain ⟨ad, rfl, _, hca⟩ := ha.at_ h1
        obtain ⟨bd, rfl, _, hcb⟩ := hb.at_ h2
        have hstep := Lib.hid (common_drop xs ys k h1 h2)
        have g1 : (k:Int) < (xs.length : Int) := by omega
        have g2 : (k:Int) < (ys.length : Int) := by omega
        obtain ⟨c0, c1, c2, c3, c4⟩ := hca.five
        obtain ⟨d0, d1, d2, d3, d4⟩ := hcb.five
        clear hca hcb ha hb
        have he := eql_entry xs[k] ys[k]
        have hg := guard_entry
        by_cases hxy : xs[k] = ys[k]
        · have hd : decide (xs[k] = ys[k]) = true := by simpa using hxy
          have hs := hstep.out
          rw [if_pos hxy] at hs
          have HS := Lib.hid hs
          clear hs hstep
          rw [hd] at he
          clear hxy hd
          generalize xs[k] = x at *
          generalize ys[k] = y at *
          go_wp2_with fail
          go_quiet (fail)
          go_wp2
          go_roundw
          case rel => exact ⟨k + 1, by omega, by omega, by go_num, by have := HC.out; have := HS.out; omega, _, rfl⟩
          case measure => simp [intOf]; omega
        · have hd : decide (xs[k] = ys[k]) = false := by simpa using hxy
          have hs := hstep.out
          rw [if_neg hxy] at hs
          have HS := Lib.hid hs
          clear hs hstep
          rw [hd] at he
          clear hxy hd
          generalize xs[k] = x at *
          generalize ys[k] = y at *
          go_wp2_with fail
          go_quiet (fail)
          go_wp2
          go_ret
          exact ⟨ret_int' (by have := HC.out; have := HS.out; omega), drawn2 _ _ _⟩
      · have g1 : (k:Int) < (xs.length : Int) := by omega
        have g2 : decide ((k:Int) < (ys.length : Int)) = false := by simp; omega
        have hs := common_end xs ys k (.inr (by omega))
        have HS := Lib.hid hs
        clear hs ha hb
        go_wp2_with fail
        go_quiet (fail)
        go_wp2
        go_ret
        exact ⟨ret_int' (by have := HC.out; have := HS.out; omega), drawn2 _ _ _⟩
    · have g2 : decide ((k:Int) < (xs.length : Int)) = false := by simp; omega
      have hs := common_end xs ys k (.inl (by omega))
      have HS := Lib.hid hs
      clear hs ha hb
      go_wp2_with fail
      go_quiet (fail)
      go_wp2
      go_ret
      exact ⟨ret_int' (by have := HC.out; have := HS.out; omega), drawn2 _ _ _⟩
theorem common_self (xs : List Entry) : common xs xs = xs.length := by
  induction xs with
  | nil => rfl
  | cons x xs ih => simp [common, ih]
def begins (xs ys : List Entry) : Bool := decide (common xs ys = xs.length)
def agree (xs ys : List Entry) (n : Int) : Bool := decide (0 ≤ n ∧ n ≤ common xs ys)
theorem begins_prog (A B : Option Addr) (c d n m : Nat) (xs ys : List Entry) (hxn : n = xs.length) (hym : m = ys.length) (w : World) (hn : xs.length ≤ 9223372036854775807) (hm : ys.length ≤ 9223372036854775807) (ha : Rd Entry.cells 5 w w.heap.size A xs) (hb : Rd Entry.cells 5 w w.heap.size B ys) :
    Calls Try.prog 32 #[.slice A n c, .slice B m d] w fun e w' => e = .returned (.bool (begins xs ys)) ∧ ∃ q, w' = w.drewN q := by
  subst hxn; subst hym
  go_enter Try.func32, Try.ntmps32
  go_wp2_with fail
  refine (common_prog A B c d _ _ xs ys rfl rfl w hn hm ha hb).mono ?_
  rintro e w' ⟨rfl, q, rfl⟩
  go_wp2
  go_ret
  exact ⟨ret_bool' (by unfold begins; rw [Bool.eq_iff_iff]; simp; omega), q, rfl⟩
theorem agree_prog (A B : Option Addr) (c d n m : Nat) (k : Int) (xs ys : List Entry) (hxn : n = xs.length) (hym : m = ys.length) (w : World) (hn : xs.length ≤ 9223372036854775807) (hm : ys.length ≤ 9223372036854775807) (ha : Rd Entry.cells 5 w w.heap.size A xs) (hb : Rd Entry.cells 5 w w.heap.size B ys) :
    Calls Try.prog 34 #[.slice A n c, .slice B m d, .int .i64 k] w fun e w' => e = .returned (.bool (agree xs ys k)) ∧ ∃ q, w' = w.drewN q := by
  subst hxn; subst hym
  by_cases h0 : 0 ≤ k
  · go_enter Try.func34, Try.ntmps34
    go_wp2_with fail
    refine (common_prog A B c d _ _ xs ys rfl rfl w hn hm ha hb).mono ?_
    rintro e w' ⟨rfl, q, rfl⟩
    go_wp2
    go_ret
    exact ⟨ret_bool' (by unfold agree; rw [Bool.eq_iff_iff]; simp; omega), q, rfl⟩
  · have h1 : decide (0 ≤ k) = false := by simpa using h0
    go_enter Try.func34, Try.ntmps34
    go_wp2
    go_ret
    exact ⟨ret_bool' (by unfold agree; simp; omega), 0, rfl⟩
end Go.Proofs.Ythpogbbgdenmeaa
