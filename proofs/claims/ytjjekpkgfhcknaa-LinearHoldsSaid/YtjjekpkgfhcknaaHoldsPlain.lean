/- Orders of a history in plain lists: what holds, where it breaks. Conditions: none. -/
import Derived.Test.YtjjekpkgfhcknaaLinPlain
namespace Go.Proofs.Ytjjekpkgfhcknaa
set_option linter.unusedVariables false
set_option linter.unusedSimpArgs false

def marksOf (n : Nat) (is : List Nat) : List Bool := is.foldl (fun S i => S.set i true) (List.replicate n false)
theorem marksOf_snoc (n : Nat) (is : List Nat) (i : Nat) : marksOf n (is ++ [i]) = (marksOf n is).set i true := by simp [marksOf]
theorem foldl_set_length (is : List Nat) : ∀ (S : List Bool), (is.foldl (fun S i => S.set i true) S).length = S.length := by
  induction is with
  | nil => intro S; rfl
  | cons i is ih => intro S; rw [List.foldl_cons, ih]; simp
theorem marksOf_length (n : Nat) (is : List Nat) : (marksOf n is).length = n := by simp [marksOf, foldl_set_length]
theorem foldl_set_get (is : List Nat) (i : Nat) : ∀ (S : List Bool), i < S.length → (is.foldl (fun S i => S.set i true) S)[i]? = if i ∈ is then some true else S[i]? := by
  induction is with
  | nil => intro S h; simp
  | cons j is ih =>
    intro S h
    rw [List.foldl_cons, ih _ (by simpa using h)]
    by_cases e : i ∈ is
    · simp [e]
    · by_cases e2 : j = i
      · subst e2
        simp [e, h]
      · have e3 : ¬ i = j := fun q => e2 q.symm
        simp [e, e3, List.getElem?_set_ne e2]
theorem marksOf_get (n : Nat) (is : List Nat) (i : Nat) (h : i < n) : (marksOf n is)[i]? = some (decide (i ∈ is)) := by
  unfold marksOf
  rw [foldl_set_get _ _ _ (by simpa using h)]
  by_cases e : i ∈ is
  · simp [e]
  · simp [e, h]
/-- Number k of an order may not stand. -/
def badO (n : Nat) (os : List Int) (k : Nat) : Prop := ∀ x, os[k]? = some x → x < 0 ∨ (n : Int) ≤ x ∨ x ∈ os.take k
def okO (n : Nat) (os : List Int) : Prop := ∀ k (h : k < os.length), 0 ≤ os[k] ∧ os[k] < n ∧ os[k] ∉ os.take k
instance (n : Nat) (os : List Int) : Decidable (okO n os) := by unfold okO; infer_instance
/-- The place at which an order breaks, from a place on; -1: it does not. -/
def walkH (l : List Call) : List Bool → List Cell → List Nat → Nat → Int
  | S, cs, [], at_ => if missingL l S = true then (at_ : Int) else -1
  | S, cs, i :: is, at_ => match l[i]? with
    | none => -1
    | some x => if breaksL l S i (would cs x.op) = true then (at_ : Int) else walkH l (S.set i true) (after cs x.op) is (at_ + 1)
def holdsL (l : List Call) (os : List Int) : Int × Int :=
  if checkL l ≠ 0 then (0, checkL l) else if okO l.length os then (walkH l (allFree l) [] (os.map Int.toNat) 0, 0) else (0, 182)
def opsAt (l : List Call) (is : List Nat) : List Op := is.filterMap fun i => (l[i]?).map (·.op)
end Go.Proofs.Ytjjekpkgfhcknaa
