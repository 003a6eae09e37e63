/- A set of places as a number. Conditions: at most eight places. -/
import Derived.Test.YtjjekpkgfhcknaaLinPlain
import Derived.KernelRfl
import Derived.Laws.Entries
import Derived.RowKit
namespace Go.Proofs.Ytjjekpkgfhcknaa
set_option linter.unusedVariables false
set_option linter.unusedSimpArgs false

def bitsN : List Bool → Nat
  | [] => 0
  | b :: S => (if b then 1 else 0) + 2 * bitsN S
theorem bitsN_lt : ∀ (S : List Bool), bitsN S < 2 ^ S.length
  | [] => by simp [bitsN]
  | b :: S => by
    have := bitsN_lt S
    simp only [bitsN, List.length_cons, Nat.pow_succ]
    split <;> omega
theorem bitsN_inj : ∀ {S T : List Bool}, S.length = T.length → bitsN S = bitsN T → S = T
  | [], [], _, _ => rfl
  | [], _ :: _, h, _ => by simp at h
  | _ :: _, [], h, _ => by simp at h
  | a :: S, b :: T, h, e => by
    simp only [bitsN] at e
    have h' : S.length = T.length := by simpa using h
    have e2 : bitsN S = bitsN T := by split at e <;> split at e <;> omega
    have e1 : a = b := by
      cases a <;> cases b <;> simp at e ⊢ <;> omega
    rw [e1, bitsN_inj h' e2]
theorem bitsN_set : ∀ {S : List Bool} {i : Nat}, S[i]? = some false → bitsN (S.set i true) = bitsN S + 2 ^ i
  | [], i, h => by simp at h
  | b :: S, 0, h => by
    simp at h
    subst h
    simp [bitsN]
    omega
  | b :: S, i + 1, h => by
    have := bitsN_set (S := S) (i := i) (by simpa using h)
    simp only [List.set_cons_succ, bitsN, this, Nat.pow_succ]
    omega
theorem bitsN_free (n : Nat) : bitsN (List.replicate n false) = 0 := by
  induction n with
  | zero => rfl
  | succ n ih => simp [List.replicate_succ, bitsN, ih]
theorem bitsN_test : ∀ {S : List Bool} {i : Nat}, S[i]? = some false → (bitsN S).testBit i = false
  | [], i, h => by simp at h
  | b :: S, 0, h => by
    simp at h
    subst h
    simp [bitsN, Nat.testBit_zero]
  | b :: S, i + 1, h => by
    have := bitsN_test (S := S) (i := i) (by simpa using h)
    rw [Nat.testBit_succ]
    simp only [bitsN]
    rw [show ((if b = true then 1 else 0) + 2 * bitsN S) / 2 = bitsN S by split <;> omega]
    exact this
theorem or_all : ((List.range 256).all fun s => (List.range 8).all fun i => s.testBit i || decide (IntKind.i64.wrap ((BitVec.ofInt IntKind.i64.bits (s : Int) ||| BitVec.ofInt IntKind.i64.bits ((2 : Int) ^ i)).toNat : Int) = ((s + 2 ^ i : Nat) : Int))) = true := by kernel_rfl
theorem or_fact {s i : Nat} (hs : s < 256) (hi : i < 8) (h : s.testBit i = false) : IntKind.i64.wrap ((BitVec.ofInt IntKind.i64.bits (s : Int) ||| BitVec.ofInt IntKind.i64.bits ((2 : Int) ^ i)).toNat : Int) = ((s + 2 ^ i : Nat) : Int) := by
  have h1 := (List.all_eq_true.1 ((List.all_eq_true.1 or_all) s (List.mem_range.2 hs))) i (List.mem_range.2 hi)
  rw [h, Bool.false_or] at h1
  exact of_decide_eq_true h1
theorem or_run {s i : Nat} (hs : s < 256) (hi : i < 8) (h : s.testBit i = false) : Op.intBits .or .i64 (s : Int) ((2 : Int) ^ i) = pure (.int .i64 ((s + 2 ^ i : Nat) : Int)) := by
  rw [← or_fact hs hi h]
  rfl
theorem wrap_pow {i : Nat} (hi : i < 8) : RowKit.wrap64 ((2 : Int) ^ i) = 2 ^ i := by
  have h1 : ((List.range 8).all fun i => decide (RowKit.wrap64 ((2 : Int) ^ i) = 2 ^ i)) = true := by kernel_rfl
  exact of_decide_eq_true ((List.all_eq_true.1 h1) i (List.mem_range.2 hi))
theorem bits_or {s i : Nat} (hs : s < 256) (hi : i < 8) (h : s.testBit i = false) : bits .or .i64 (s : Int) (RowKit.wrap64 ((2 : Int) ^ i)) = ((s + 2 ^ i : Nat) : Int) := by
  rw [wrap_pow hi]
  exact or_fact hs hi h
end Go.Proofs.Ytjjekpkgfhcknaa
