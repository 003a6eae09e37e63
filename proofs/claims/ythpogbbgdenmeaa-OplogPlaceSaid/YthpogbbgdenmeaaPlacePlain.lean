/- What OplogPlace says of plain lists: each entry is found in its place; a client's last is its greatest; a table of the last ones. Conditions: none. -/
import Derived.Test.YthpogbbgdenmeaaGrow
import Derived.Test.YthpogbbgdenmeaaFind
namespace Go.Proofs.Ythpogbbgdenmeaa
open Go.RowKit
set_option linter.unusedVariables false
set_option linter.unusedSimpArgs false

theorem find_place {l : List Entry} (h : GoodE l) (i : Nat) (hi : i < l.length) : findE l l[i].client l[i].number = (i : Int) + 1 := by
  refine findE_some ⟨i, hi⟩ ⟨rfl, rfl⟩ fun j hj hh => ?_
  have hj' : j.1 < i := hj
  clear hj
  have h1 := twice_false.1 (fitE_zero.1 (h i hi)).2
  have h2 := h1 l[j.1] (by
    refine List.mem_iff_getElem.2 ⟨j.1, by simp; omega, by simp⟩) hh.1
  have := hh.2
  omega
theorem find_says (l : List Entry) (ca nb : Int) : (findE l ca nb = 0 ∧ ∀ i : Fin l.length, ¬ hits ca nb l[i.1]) ∨ (∃ i : Fin l.length, findE l ca nb = (i.1 : Int) + 1 ∧ hits ca nb l[i.1]) := by
  by_cases h : ∀ i : Fin l.length, ¬ hits ca nb l[i.1]
  · exact .inl ⟨findE_none h, h⟩
  · right
    unfold findE
    cases hf : l.findIdx? (fun x => decide (hits ca nb x)) with
    | none =>
      rw [List.findIdx?_eq_none_iff] at hf
      exact absurd (fun i : Fin l.length => by simpa using hf l[i.1] (List.getElem_mem _)) h
    | some i =>
      rw [List.findIdx?_eq_some_iff_getElem] at hf
      obtain ⟨hi, h1, _⟩ := hf
      exact ⟨⟨i, hi⟩, rfl, by simpa using h1⟩
theorem lastE_lastD {l : List Entry} (h : GoodE l) (c : Int) : lastE l c = lastD l c := by
  refine snoc_ind (p := fun l => GoodE l → lastE l c = lastD l c) (fun _ => rfl) ?_ l h
  intro xs x ih h
  obtain ⟨h1, h2⟩ := h.init
  rw [lastE_snoc, ih h1]
  unfold lastD
  rw [lastN_snoc]
  by_cases hc : x.client = c
  · rw [if_pos hc, if_pos hc]
    have h3 := twice_false.1 (fitE_zero.1 h2).2
    have hn := (baseE_zero (fitE_zero.1 h2).1).2.2.1
    obtain ⟨s1, s2⟩ := lastN_spec h1 c
    cases hl : lastN xs c with
    | none => simp; omega
    | some n =>
      obtain ⟨⟨y, hy, hyc, rfl⟩, _⟩ := s1 n hl
      have := h3 y hy (by rw [hyc, hc])
      simp
      omega
  · rw [if_neg hc, if_neg hc]
def lk (l : List Entry) : Array Value := Array.ofFn (n := 16) fun i => .int .i64 (lastD l (i.val : Int))
theorem lk_get (l : List Entry) {j : Nat} (h : j < 16) : (lk l)[j]? = some (.int .i64 (lastD l (j : Int))) := by
  simp only [lk, Array.getElem?_ofFn]
  rw [dif_pos h]
theorem lk_set (l : List Entry) (x : Entry) {j : Nat} (h : j < 16) (hc : x.client = (j : Int)) : (lk l).setIfInBounds j (.int .i64 x.number) = lk (l ++ [x]) := by
  apply Array.ext_getElem?
  intro i
  rw [Array.getElem?_setIfInBounds]
  by_cases hi : i < 16
  · rw [lk_get l hi, lk_get _ hi]
    unfold lastD
    rw [lastN_snoc, hc]
    by_cases hj : j = i
    · subst hj; rw [if_pos rfl, if_pos (by simp [lk]; exact h), if_pos rfl]; rfl
    · rw [if_neg hj, if_neg (by omega)]
  · rw [if_neg (by omega), Array.getElem?_eq_none (by simp [lk]; omega), Array.getElem?_eq_none (by simp [lk]; omega)]
theorem lk_nil : lk [] = Array.replicate 16 (.int .i64 0) := by
  apply Array.ext <;> simp [lk, lastD_nil]
end Go.Proofs.Ythpogbbgdenmeaa
