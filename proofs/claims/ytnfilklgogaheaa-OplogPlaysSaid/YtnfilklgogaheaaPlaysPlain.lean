/- Playing on: cells stay, results stay, what was written is counted. Plain lists. Conditions: none. -/
import Derived.Test.YtnfilklgogaheaaCells3
import Derived.Test.YtnfilklgogaheaaOpsOf
namespace Go.Proofs.Ytnfilklgogaheaa
set_option linter.unusedVariables false
set_option linter.unusedSimpArgs false
theorem sub_putC (cs : List Cell) (c : Cell) : cs.Sublist (putC cs c) := by
  induction cs with
  | nil => exact List.nil_sublist _
  | cons d ds ih =>
    unfold putC
    split
    · exact (List.Sublist.refl _).cons _
    · exact ih.cons_cons _
theorem sub_after (cs : List Cell) (o : Op) : cs.Sublist (after cs o) := by
  unfold after
  split
  · exact sub_putC _ _
  · exact List.Sublist.refl _
theorem sub_play (cs : List Cell) (os : List Op) : cs.Sublist (playC cs os) := by
  induction os generalizing cs with
  | nil => exact List.Sublist.refl _
  | cons o os ih => exact (sub_after cs o).trans (ih (after cs o))
theorem sub_take (os : List Op) {n m : Nat} (h : n ≤ m) : (playC [] (os.take n)).Sublist (playC [] (os.take m)) := by
  have e : os.take m = os.take n ++ (os.take m).drop n := by
    have := List.take_append_drop n (os.take m)
    rw [List.take_take, Nat.min_eq_left h] at this
    exact this.symm
  rw [e, playC_append]
  exact sub_play _ _
theorem res_take (os : List Op) {n m : Nat} (h : n ≤ m) (hm : m ≤ os.length) : (playR [] (os.take m)).take n = playR [] (os.take n) := by
  have e : os.take m = os.take n ++ (os.take m).drop n := by
    have := List.take_append_drop n (os.take m)
    rw [List.take_take, Nat.min_eq_left h] at this
    exact this.symm
  rw [e, playR_append]
  have hl : (playR [] (os.take n)).length = n := by rw [playR_length]; simp; omega
  generalize playR [] (os.take n) = rs at *
  subst hl
  exact List.take_left
def wrotes (rs : List Res) : Nat := (rs.filter fun r => r.code == 1).length
theorem wrotes_snoc (rs : List Res) (r : Res) : wrotes (rs ++ [r]) = wrotes rs + if r.code = 1 then 1 else 0 := by
  unfold wrotes
  rw [List.filter_append]
  by_cases h : r.code = 1 <;> simp [List.filter_cons, h]
theorem wrotes_play (cs : List Cell) (os : List Op) : (playC cs os).length = cs.length + wrotes (playR cs os) := by
  induction os generalizing cs with
  | nil => rfl
  | cons o os ih =>
    simp only [playC, playR]
    rw [ih]
    have e : wrotes (would cs o :: playR (after cs o) os) = (if (would cs o).code = 1 then 1 else 0) + wrotes (playR (after cs o) os) := by
      unfold wrotes
      rw [List.filter_cons]
      by_cases h : (would cs o).code = 1
      · simp [h]; omega
      · simp [h]
    rw [e]
    unfold after
    split
    · rw [putC_length]; omega
    · omega
/-- The two lists gone over side by side. -/
theorem side_eq {a c : List Cell} (hc : Rising c) {k i : Nat} (hs : (a.drop k).Sublist (c.drop i)) (hk : k < a.length) (hi : i < c.length) (he : a[k].slot = c[i].slot) : a[k] = c[i] ∧ (a.drop (k + 1)).Sublist (c.drop (i + 1)) := by
  rw [List.drop_eq_getElem_cons hk, List.drop_eq_getElem_cons hi] at hs
  have hr : Rising (c.drop i) := ⟨hc.sorted.sublist (List.drop_sublist _ _), fun d hd => hc.good d (List.mem_of_mem_drop hd)⟩
  rw [List.drop_eq_getElem_cons hi] at hr
  generalize a[k] = x at *
  generalize c[i] = y at *
  cases hs with
  | cons _ h =>
    have := (List.pairwise_cons.1 hr.sorted).1 _ (h.subset (List.mem_cons_self ..))
    omega
  | cons_cons _ h => exact ⟨rfl, h⟩
theorem side_ne {a c : List Cell} {k i : Nat} (hs : (a.drop k).Sublist (c.drop i)) (hi : i < c.length) (he : ∀ (hk : k < a.length), a[k].slot ≠ c[i].slot) : (a.drop k).Sublist (c.drop (i + 1)) := by
  by_cases hk : k < a.length
  · have h0 := he hk
    rw [List.drop_eq_getElem_cons hk, List.drop_eq_getElem_cons hi] at hs
    rw [List.drop_eq_getElem_cons hk]
    generalize hx : a[k] = x at *
    generalize hy : c[i] = y at *
    cases hs with
    | cons _ h => exact h
    | cons_cons _ h => exact absurd rfl h0
  · rw [List.drop_eq_nil_of_le (by omega)]
    exact List.nil_sublist _
theorem side_end {a c : List Cell} {k i : Nat} (hs : (a.drop k).Sublist (c.drop i)) (hi : c.length ≤ i) : a.length ≤ k := by
  rw [List.drop_eq_nil_of_le hi] at hs
  have := List.sublist_nil.1 hs
  have := congrArg List.length this
  simp at this
  omega
theorem opsOf_take (xs : List Entry) (k : Nat) : opsOf (xs.take k) = (opsOf xs).take k := by simp [opsOf, List.map_take]
end Go.Proofs.Ytnfilklgogaheaa
