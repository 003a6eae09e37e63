/- Orders in the order of lists: the one behind each, of at most five numbers; the least witness is the first of them that holds. Plain lists. Conditions: none. -/
import Derived.Test.YtmfidhlhcochoaaLinM1
namespace Go.Proofs.Ytmfidhlhcochoaa
set_option linter.unusedVariables false
set_option linter.unusedSimpArgs false

/-- The least number from k on, below n, that an order lacks. -/
def lackL (order : List Nat) (n : Nat) : Nat → Nat → Option Nat
  | _, 0 => none
  | k, f + 1 => if k < n then (if k ∈ order then lackL order n (k + 1) f else some k) else none
/-- What is next where an order has no longer one: from its end on. -/
def backL (n : Nat) : Nat → List Nat → Option (List Nat)
  | 0, _ => none
  | f + 1, out => match out.getLast? with
    | none => none
    | some x => match lackL out.dropLast n (x + 1) (n - x) with
      | some k => some (out.dropLast ++ [k])
      | none => backL n f out.dropLast
def nextO (order : List Nat) (n : Nat) : Option (List Nat) := match lackL order n 0 (n + 1) with
  | some k => some (order ++ [k])
  | none => backL n (order.length + 1) order
def allFrom : Nat → Nat → List Nat → List (List Nat)
  | 0, _, _ => []
  | f + 1, n, is => is :: (List.range n).flatMap fun k => if k ∈ is then [] else allFrom f n (is ++ [k])
def ords (n : Nat) : List (List Nat) := allFrom (n + 1) n []
def ordsRight (n : Nat) : Bool := (List.range (ords n).length).all fun j => decide (nextO ((ords n).getD j []) n = (ords n)[j + 1]?) && decide (okO n (((ords n).getD j []).map Int.ofNat))
theorem ords_right : ∀ n, n < 6 → ordsRight n = true := by
  intro n h
  match n, h with
  | 0, _ => decide +kernel
  | 1, _ => decide +kernel
  | 2, _ => decide +kernel
  | 3, _ => decide +kernel
  | 4, _ => decide +kernel
  | 5, _ => decide +kernel
theorem nextO_is {n j : Nat} (hn : n ≤ 5) (h : j < (ords n).length) : nextO (ords n)[j] n = (ords n)[j + 1]? := by
  have h1 := List.all_eq_true.1 (ords_right n (by omega)) j (List.mem_range.2 h)
  simp only [Bool.and_eq_true, decide_eq_true_eq] at h1
  rw [List.getD_eq_getElem?_getD, List.getElem?_eq_getElem h, Option.getD_some] at h1
  exact h1.1
theorem ords_ok {n j : Nat} (hn : n ≤ 5) (h : j < (ords n).length) : okO n ((ords n)[j].map Int.ofNat) := by
  have h1 := List.all_eq_true.1 (ords_right n (by omega)) j (List.mem_range.2 h)
  simp only [Bool.and_eq_true, decide_eq_true_eq] at h1
  rw [List.getD_eq_getElem?_getD, List.getElem?_eq_getElem h, Option.getD_some] at h1
  exact h1.2
def holdsO (l : List Call) (is : List Nat) : Bool := decide (walkH l (allFree l) [] is 0 = -1)
theorem walk_ge {l : List Call} : ∀ (is : List Nat) (S : List Bool) (cs : List Cell) (p : Nat), walkH l S cs is p = -1 ∨ (p : Int) ≤ walkH l S cs is p := by
  intro is
  induction is with
  | nil => intro S cs p; unfold walkH; split; exact .inr (Int.le_refl _); exact .inl rfl
  | cons i is ih =>
    intro S cs p
    unfold walkH
    split
    · exact .inl rfl
    · split
      · exact .inr (Int.le_refl _)
      · rcases ih (S.set i true) (after cs _) (p + 1) with h | h
        · exact .inl h
        · exact .inr (by omega)
/-- An order that breaks within breaks there whatever comes behind. -/
theorem walk_within {l : List Call} : ∀ (is js : List Nat) (S : List Bool) (cs : List Cell) (p : Nat), (∀ i ∈ is, i < l.length) → walkH l S cs is p ≠ -1 → walkH l S cs is p < (p : Int) + is.length → walkH l S cs (is ++ js) p = walkH l S cs is p := by
  intro is
  induction is with
  | nil =>
    intro js S cs p _ h1 h2
    rcases walk_ge (l := l) [] S cs p with h | h
    · exact absurd h h1
    · simp at h2; omega
  | cons i is ih =>
    intro js S cs p hr h1 h2
    have hi := hr i (by simp)
    simp only [List.cons_append, walkH, List.getElem?_eq_getElem hi] at h1 h2 ⊢
    split
    · rfl
    · rename_i hb
      rw [if_neg hb] at h1 h2
      exact ih js _ _ _ (fun j hj => hr j (by simp [hj])) h1 (by simp only [List.length_cons] at h2; omega)
theorem allFrom_ext {n : Nat} : ∀ (f : Nat) (is js : List Nat), js ∈ allFrom f n is → ∃ ks, js = is ++ ks := by
  intro f
  induction f with
  | zero => intro is js h; simp [allFrom] at h
  | succ f ih =>
    intro is js h
    simp only [allFrom, List.mem_cons, List.mem_flatMap, List.mem_range] at h
    rcases h with rfl | ⟨k, hk, h⟩
    · exact ⟨[], by simp⟩
    · split at h
      · simp at h
      · obtain ⟨ks, rfl⟩ := ih _ _ h
        exact ⟨[k] ++ ks, by simp⟩
theorem find_flatMap (p : List Nat → Bool) (g : Nat → List (List Nat)) (is : List Nat) : (is.flatMap g).find? p = firstL (fun k => (g k).find? p) is := by
  induction is with
  | nil => rfl
  | cons k is ih =>
    rw [List.flatMap_cons, List.find?_append]
    simp only [firstL]
    rw [ih]
    cases (g k).find? p <;> rfl
theorem firstL_congr {g g' : Nat → Option (List Nat)} {is : List Nat} (h : ∀ i ∈ is, g i = g' i) : firstL g is = firstL g' is := by
  induction is with
  | nil => rfl
  | cons i is ih =>
    simp only [firstL]
    rw [h i (by simp), ih (fun j hj => h j (by simp [hj]))]
theorem from_find (l : List Call) : ∀ (f : Nat) (is : List Nat), (∀ i ∈ is, i < l.length) → fromL f l is = (allFrom f l.length is).find? (holdsO l) := by
  intro f
  induction f with
  | zero => intro is _; rfl
  | succ f ih =>
    intro is hr
    simp only [fromL, allFrom, List.find?_cons]
    by_cases h1 : walkH l (allFree l) [] is 0 = -1
    · rw [if_pos h1]
      simp [holdsO, h1]
    · have hd : holdsO l is = false := by simp [holdsO, h1]
      rw [if_neg h1, hd]
      dsimp only
      by_cases h2 : walkH l (allFree l) [] is 0 < (is.length : Int)
      · rw [if_pos h2]
        symm
        rw [List.find?_eq_none]
        intro js hjs
        simp only [List.mem_flatMap, List.mem_range] at hjs
        obtain ⟨k, hk, hjs⟩ := hjs
        split at hjs
        · simp at hjs
        · obtain ⟨ks, rfl⟩ := allFrom_ext _ _ _ hjs
          have := walk_within is ([k] ++ ks) (allFree l) [] 0 hr h1 (by simpa using h2)
          rw [← List.append_assoc] at this
          simp only [holdsO]
          rw [this]
          simp [h1]
      · rw [if_neg h2, find_flatMap]
        refine firstL_congr fun k hk => ?_
        have hk := List.mem_range.1 hk
        by_cases hm : k ∈ is
        · rw [if_pos hm, if_pos hm]; rfl
        · rw [if_neg hm, if_neg hm]
          refine ih _ fun i hi => ?_
          rcases List.mem_append.1 hi with h | h
          · exact hr i h
          · simp only [List.mem_singleton] at h; subst h; exact hk
theorem best_find (l : List Call) : best l = (ords l.length).find? (holdsO l) := by
  rw [← from_best]
  exact from_find l _ [] (fun i h => by simp at h)
theorem best_at {l : List Call} {j : Nat} (h : j < (ords l.length).length) (hn : ∀ i (hi : i < (ords l.length).length), i < j → holdsO l (ords l.length)[i] = false) (hj : holdsO l (ords l.length)[j] = true) : best l = some (ords l.length)[j] := by
  rw [best_find, List.find?_eq_some_iff_getElem]
  exact ⟨hj, j, h, rfl, fun i hi => by simpa using hn i (by omega) hi⟩
theorem best_no {l : List Call} (hn : ∀ i (hi : i < (ords l.length).length), holdsO l (ords l.length)[i] = false) : best l = none := by
  rw [best_find, List.find?_eq_none]
  intro x hx
  obtain ⟨i, hi, rfl⟩ := List.mem_iff_getElem.1 hx
  simp [hn i hi]
end Go.Proofs.Ytmfidhlhcochoaa
