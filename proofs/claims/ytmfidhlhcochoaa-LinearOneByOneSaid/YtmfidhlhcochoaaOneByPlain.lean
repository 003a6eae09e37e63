/- Calls one behind the other: the one order, if all answers are the ledger's. Plain lists. Conditions: none. -/
import Derived.Test.YtmfidhlhcochoaaLinM1
namespace Go.Proofs.Ytmfidhlhcochoaa
set_option linter.unusedVariables false
set_option linter.unusedSimpArgs false

/-- One behind the other. -/
def InLine (l : List Call) : Prop := (∀ x ∈ l, 0 ≤ x.beg ∧ x.beg < x.fin) ∧ l.Pairwise fun x y => x.fin < y.beg
/-- Are all answers the ledger's, in their order? -/
def allRight : List Cell → List Call → Bool
  | _, [] => true
  | cs, x :: xs => decide (would cs x.op = x.res) && allRight (after cs x.op) xs
def lineS (n k : Nat) : List Bool := List.replicate k true ++ List.replicate (n - k) false
theorem lineS_get {n k i : Nat} (hk : k ≤ n) (hi : i < n) : (lineS n k)[i]? = some (decide (i < k)) := by
  unfold lineS
  rw [List.getElem?_append]
  simp only [List.length_replicate]
  by_cases h : i < k
  · rw [if_pos h]; simp [h]
  · rw [if_neg h, List.getElem?_replicate, if_pos (by omega)]; simp [h]
theorem lineS_set {n k : Nat} (hk : k < n) : (lineS n k).set k true = lineS n (k + 1) := by
  refine List.ext_getElem? fun i => ?_
  by_cases hi : i < n
  · rw [List.getElem?_set, lineS_get (by omega) hi]
    by_cases e : k = i
    · subst e; rw [if_pos rfl, if_pos (by simp [lineS]; omega), lineS_get (by omega) hi]; simp
    · rw [if_neg e, lineS_get (by omega) hi]
      congr 1
      simp only [decide_eq_decide]
      omega
  · rw [List.getElem?_eq_none (by simp [lineS]; omega), List.getElem?_eq_none (by simp [lineS]; omega)]
theorem tryL_one {g : Nat → Option (List Nat)} {n k : Nat} (hk : k < n) (hn : ∀ i, i < n → i ≠ k → g i = none) : tryL g (List.range n) = (g k).map (k :: ·) := by
  have h1 : tryL g (List.range k) = none := by
    have : ∀ is : List Nat, (∀ i ∈ is, g i = none) → tryL g is = none := by
      intro is
      induction is with
      | nil => intro _; rfl
      | cons i is ih => intro h; simp only [tryL]; rw [h i (by simp)]; exact ih fun j hj => h j (by simp [hj])
    exact this _ fun i hi => hn i (by have := List.mem_range.1 hi; omega) (by have := List.mem_range.1 hi; omega)
  have h2 : ∀ is : List Nat, (∀ i ∈ is, g i = none) → tryL g is = none := by
    intro is
    induction is with
    | nil => intro _; rfl
    | cons i is ih => intro h; simp only [tryL]; rw [h i (by simp)]; exact ih fun j hj => h j (by simp [hj])
  rw [range_split hk, tryL_append _ _ _ h1]
  simp only [tryL]
  cases hg : g k with
  | some ks => rfl
  | none =>
    simp only [Option.map_none]
    refine h2 _ fun i hi => ?_
    have hi2 : ∃ j, ∃ (h : j < (List.range n).length), k + 1 ≤ j ∧ (List.range n)[j] = i := by
      obtain ⟨j, hj, rfl⟩ := List.mem_iff_getElem.1 hi
      refine ⟨k + 1 + j, ?_, by omega, ?_⟩
      · simp at hj ⊢; omega
      · simp
    obtain ⟨j, hj, hkj, rfl⟩ := hi2
    simp only [List.length_range] at hj
    simp only [List.getElem_range]
    exact hn j hj (by omega)
theorem comp_line {l : List Call} (hl : InLine l) : ∀ (m k f : Nat) (cs : List Cell), k + m = l.length → m < f → comp f l (lineS l.length k) cs = if allRight cs (l.drop k) = true then some (List.range' k m) else none := by
  intro m
  induction m with
  | zero =>
    intro k f cs hk hf
    cases f with
    | zero => omega
    | succ f =>
      have : k = l.length := by omega
      subst this
      have hm : missingL l (lineS l.length l.length) = false := any_range_none fun j hj => by
        unfold missAt
        rw [List.getD_eq_getElem?_getD, lineS_get (Nat.le_refl _) hj]
        simp [hj]
      simp only [comp]
      rw [hm]
      simp [allRight]
  | succ m ih =>
    intro k f cs hk hf
    cases f with
    | zero => omega
    | succ f =>
      have hkl : k < l.length := by omega
      have hm : missingL l (lineS l.length k) = true := any_range hkl (by
        unfold missAt
        rw [List.getD_eq_getElem?_getD, lineS_get (by omega) hkl, List.getElem?_eq_getElem hkl]
        have := hl.1 l[k] (List.getElem_mem hkl)
        simp
        omega)
      simp only [comp]
      rw [if_pos hm, tryL_one hkl]
      · rw [lineS_get (by omega) hkl, List.getElem?_eq_getElem hkl]
        simp only [Nat.lt_irrefl, decide_false]
        have hb : ∀ r, breaksL l (lineS l.length k) k r = !decide (r = l[k].res) := fun r => by
          unfold breaksL aheadOf
          have hal : (List.range l.length).any (aheadAt l (lineS l.length k) k) = false := any_range_none fun j hj => by
            unfold aheadAt
            rw [List.getD_eq_getElem?_getD, lineS_get (by omega) hj, List.getElem?_eq_getElem hj, List.getElem?_eq_getElem hkl]
            rcases Nat.lt_trichotomy j k with h | h | h
            · simp [h]
            · simp [h]
            · have h1 := List.pairwise_iff_getElem.1 hl.2 k j hkl hj h
              have h2 := (hl.1 l[k] (List.getElem_mem hkl)).2
              have h3 := (hl.1 l[j] (List.getElem_mem hj)).2
              have : precedes l[j] l[k] = false := by
                unfold precedes
                rw [Bool.eq_false_iff]
                simp only [ne_eq, Bool.and_eq_true, decide_eq_true_eq, not_and]
                intro _
                omega
              simp [this]
          rw [hal, List.getElem?_eq_getElem hkl]
          have := hl.1 l[k] (List.getElem_mem hkl)
          have hf0 : 0 ≤ l[k].fin := by omega
          simp [hf0]
        rw [hb, List.drop_eq_getElem_cons hkl]
        simp only [allRight]
        by_cases hr : would cs l[k].op = l[k].res
        · simp only [hr, decide_true, Bool.not_true, Bool.false_eq_true, if_false, Bool.true_and]
          rw [lineS_set hkl, ih (k + 1) f _ (by omega) (by omega)]
          by_cases ha : allRight (after cs l[k].op) (l.drop (k + 1)) = true
          · simp [ha, List.range'_succ]
          · simp [ha]
        · simp [hr]
      · intro i hi hik
        rw [lineS_get (by omega) hi, List.getElem?_eq_getElem hi]
        by_cases h : i < k
        · simp [h]
        · simp only [h, decide_false]
          rw [if_pos]
          unfold breaksL
          rw [Bool.or_eq_true]
          left
          refine any_range hkl ?_
          unfold aheadAt
          rw [List.getD_eq_getElem?_getD, lineS_get (by omega) hkl, List.getElem?_eq_getElem hkl, List.getElem?_eq_getElem hi]
          have h1 := List.pairwise_iff_getElem.1 hl.2 k i hkl hi (by omega)
          have h2 := hl.1 l[k] (List.getElem_mem hkl)
          have : precedes l[k] l[i] = true := by unfold precedes; simp only [Bool.and_eq_true, decide_eq_true_eq]; omega
          have hne : (k == i) = false := by simp; omega
          simp [this, hne]
theorem best_line {l : List Call} (hl : InLine l) : best l = if allRight [] l = true then some (List.range' 0 l.length) else none := by
  have h := comp_line hl l.length 0 (l.length + 1) [] (by omega) (by omega)
  have e : lineS l.length 0 = allFree l := by simp [lineS, allFree]
  rw [e, List.drop_zero] at h
  exact h
/-- Of calls of which none is answered the empty order is the least. -/
theorem best_open {l : List Call} (h : ∀ x ∈ l, x.fin = -1) : best l = some [] := by
  unfold best
  simp only [comp]
  have hm : missingL l (allFree l) = false := any_range_none fun j hj => by
    unfold missAt
    rw [List.getElem?_eq_getElem hj]
    have := h l[j] (List.getElem_mem hj)
    simp [this]
  rw [hm]
  simp
end Go.Proofs.Ytmfidhlhcochoaa
