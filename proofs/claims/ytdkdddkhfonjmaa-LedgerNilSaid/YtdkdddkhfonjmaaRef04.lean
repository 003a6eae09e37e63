/- The reference's ledger: put, Get. Conditions: sizes within Go's own limits. -/
import Derived.Test.YtdkdddkhfonjmaaCells2
import Derived.Test.YtdkdddkhfonjmaaOpen3
import Derived.Test.YtdkdddkhfonjmaaOpCheck
import Derived.Deep.QuietTactic
import Derived.BigQuiet
import Derived.Deep.LoopGhost
namespace Go.Proofs.Ytdkdddkhfonjmaa
open Go.RowKit
set_option linter.unusedVariables false
set_option linter.unusedSimpArgs false

def PutInv (cs : List Cell) (c : Cell) (k : Nat) (bd : Bool) (xs : List Cell) : Prop := putC cs c = xs ++ (if bd then cs.drop k else putC (cs.drop k) c) ∧ xs.length = k + (if bd then 1 else 0)
theorem PutInv.insert {cs : List Cell} {c : Cell} {k : Nat} {xs : List Cell} (h : PutInv cs c k false xs) (hk : k < cs.length) (hc : c.slot < cs[k].slot) : PutInv cs c (k + 1) true (xs ++ [c] ++ [cs[k]]) := by
  obtain ⟨h1, h2⟩ := h
  refine ⟨?_, by simp at h2 ⊢; omega⟩
  rw [h1]
  simp only [Bool.false_eq_true, if_false, if_true]
  rw [List.drop_eq_getElem_cons hk, putC, if_pos hc]
  simp
theorem PutInv.pass {cs : List Cell} {c : Cell} {k : Nat} {xs : List Cell} (h : PutInv cs c k false xs) (hk : k < cs.length) (hc : ¬ c.slot < cs[k].slot) : PutInv cs c (k + 1) false (xs ++ [cs[k]]) := by
  obtain ⟨h1, h2⟩ := h
  refine ⟨?_, by simp at h2 ⊢; omega⟩
  rw [h1]
  simp only [Bool.false_eq_true, if_false]
  rw [List.drop_eq_getElem_cons hk, putC, if_neg hc]
  simp
theorem PutInv.more {cs : List Cell} {c : Cell} {k : Nat} {xs : List Cell} (h : PutInv cs c k true xs) (hk : k < cs.length) : PutInv cs c (k + 1) true (xs ++ [cs[k]]) := by
  obtain ⟨h1, h2⟩ := h
  refine ⟨?_, by simp at h2 ⊢; omega⟩
  rw [h1]
  simp only [if_true]
  rw [List.drop_eq_getElem_cons hk]
  simp
theorem PutInv.last {cs : List Cell} {c : Cell} {k : Nat} {xs : List Cell} (h : PutInv cs c k false xs) (hk : cs.length ≤ k) : xs ++ [c] = putC cs c := by
  rw [h.1]
  simp only [Bool.false_eq_true, if_false]
  rw [List.drop_eq_nil_of_le hk]
  rfl
theorem PutInv.end {cs : List Cell} {c : Cell} {k : Nat} {xs : List Cell} (h : PutInv cs c k true xs) (hk : cs.length ≤ k) : xs = putC cs c := by
  rw [h.1]
  simp only [if_true]
  rw [List.drop_eq_nil_of_le hk]
  simp

theorem getC_head (d : Cell) (ds : List Cell) (k : Int) : getC (d :: ds) k = if d.slot = k then some d.value else getC ds k := by
  unfold getC
  rw [List.find?_cons]
  by_cases h : d.slot = k
  · have h' : (d.slot == k) = true := by simpa using h
    rw [h', if_pos h]; rfl
  · have h' : (d.slot == k) = false := by simpa using h
    rw [h', if_neg h]

end Go.Proofs.Ytdkdddkhfonjmaa
