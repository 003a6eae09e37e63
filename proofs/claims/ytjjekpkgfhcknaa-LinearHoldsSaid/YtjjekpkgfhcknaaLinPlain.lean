/- Histories in plain lists: which may be, what breaks an order, the search. No program in sight. Conditions: none. -/
import Derived.Test.YtjjekpkgfhcknaaCells2
namespace Go.Proofs.Ytjjekpkgfhcknaa
set_option linter.unusedVariables false
set_option linter.unusedSimpArgs false

structure Call where
  client : Int
  number : Int
  op : Op
  beg : Int
  fin : Int
  res : Res
deriving DecidableEq
def Call.cells (x : Call) : List Value := [.int .i64 x.client, .int .i64 x.number, .int .i64 x.op.kind, .int .i64 x.op.slot, .string x.op.value, .int .i64 x.beg, .int .i64 x.fin, .int .i64 x.res.code, .int .i64 x.res.slot, .string x.res.value]
/-- May a call be asked? -/
def mayC (client number : Int) (o : Op) : Bool := decide (0 ≤ client) && decide (client < 16) && decide (1 ≤ number) && decide (checkOp o = 0)
/-- A call that may stand in a history, whatever the others are. -/
def goodC (x : Call) : Bool := mayC x.client x.number x.op && decide (0 ≤ x.beg) && (if x.fin = -1 then decide (x.res = zres) else decide (x.beg < x.fin))
def sameKey (x y : Call) : Bool := decide (x.client = y.client) && decide (x.number = y.number)
/-- The first k calls may be a history. -/
def goodUpto (l : List Call) (k : Nat) : Prop := ∀ i (h : i < l.length), i < k → goodC l[i] = true ∧ ∀ j (hj : j < i), sameKey l[j] l[i] = false
def GoodL (l : List Call) : Prop := ∀ i (h : i < l.length), goodC l[i] = true ∧ ∀ j (hj : j < i), sameKey l[j] l[i] = false
instance (l : List Call) : Decidable (GoodL l) := by unfold GoodL; infer_instance
def checkL (l : List Call) : Int := if GoodL l then 0 else 180
def precedes (a b : Call) : Bool := decide (0 ≤ a.fin) && decide (a.fin < b.beg)
/-- A call that stands not, other than number i, and precedes number i. -/
def aheadAt (l : List Call) (S : List Bool) (i k : Nat) : Bool := !(S.getD k false) && !(k == i) && (match l[k]?, l[i]? with | some a, some b => precedes a b | _, _ => false)
def aheadOf (l : List Call) (S : List Bool) (i : Nat) : Bool := (List.range l.length).any (aheadAt l S i)
def breaksL (l : List Call) (S : List Bool) (i : Nat) (r : Res) : Bool := aheadOf l S i || (match l[i]? with | some x => decide (0 ≤ x.fin) && !(decide (r = x.res)) | none => false)
def missAt (l : List Call) (S : List Bool) (k : Nat) : Bool := (match l[k]? with | some x => decide (0 ≤ x.fin) | none => false) && !(S.getD k false)
def missingL (l : List Call) (S : List Bool) : Bool := (List.range l.length).any (missAt l S)
theorem any_range {p : Nat → Bool} {n k : Nat} (h : k < n) (hk : p k = true) : (List.range n).any p = true := List.any_eq_true.2 ⟨k, List.mem_range.2 h, hk⟩
theorem any_range_none {p : Nat → Bool} {n : Nat} (h : ∀ j, j < n → p j = false) : (List.range n).any p = false := by
  rw [List.any_eq_false]
  intro x hx
  simp [h x (List.mem_range.1 hx)]

/-- The first of some numbers from which it goes on; the number ahead of what goes on. -/
def tryL (g : Nat → Option (List Nat)) : List Nat → Option (List Nat)
  | [] => none
  | i :: is => match g i with
    | some ks => some (i :: ks)
    | none => tryL g is
/-- The least completion of an order behind which S stands and the cells are cs. -/
def comp : Nat → List Call → List Bool → List Cell → Option (List Nat)
  | 0, _, _, _ => none
  | f + 1, l, S, cs => if missingL l S = true then tryL (fun i => match S[i]?, l[i]? with
      | some false, some x => if breaksL l S i (would cs x.op) = true then none else comp f l (S.set i true) (after cs x.op)
      | _, _ => none) (List.range l.length) else some []
def falses (S : List Bool) : Nat := S.count false
theorem falses_set {S : List Bool} {i : Nat} (h : S[i]? = some false) : falses (S.set i true) + 1 = falses S := by
  unfold falses
  have hi : i < S.length := (List.getElem?_eq_some_iff.1 h).1
  have hv : S[i] = false := (List.getElem?_eq_some_iff.1 h).2
  have h1 := List.count_set (a := true) (b := false) (l := S) (i := i) hi
  have hp : 0 < S.count false := List.count_pos_iff.2 (hv ▸ List.getElem_mem hi)
  simp [hv] at h1
  omega
theorem tryL_congr {g g' : Nat → Option (List Nat)} {is : List Nat} (h : ∀ i ∈ is, g i = g' i) : tryL g is = tryL g' is := by
  induction is with
  | nil => rfl
  | cons i is ih =>
    simp only [tryL]
    rw [h i (by simp), ih (fun j hj => h j (by simp [hj]))]
/-- Fuel beyond what is needed changes nothing. -/
theorem comp_fuel (l : List Call) : ∀ (f g : Nat) (S : List Bool) (cs : List Cell), falses S < f → falses S < g → comp f l S cs = comp g l S cs := by
  intro f
  induction f with
  | zero => intro g S cs h; omega
  | succ f ih =>
    intro g S cs hf hg
    cases g with
    | zero => omega
    | succ g =>
      simp only [comp]
      split
      · refine tryL_congr fun i _ => ?_
        split
        · rename_i h1 h2
          split
          · rfl
          · have := falses_set h1
            exact ih g _ _ (by omega) (by omega)
        · rfl
      · rfl
theorem tryL_append (g : Nat → Option (List Nat)) (a b : List Nat) (h : tryL g a = none) : tryL g (a ++ b) = tryL g b := by
  induction a with
  | nil => rfl
  | cons i is ih =>
    simp only [tryL] at h
    simp only [List.cons_append, tryL]
    cases hg : g i with
    | some ks => rw [hg] at h; cases h
    | none => rw [hg] at h; exact ih h
def allFree (l : List Call) : List Bool := List.replicate l.length false
theorem falses_free (l : List Call) : falses (allFree l) = l.length := by simp [falses, allFree]
def best (l : List Call) : Option (List Nat) := comp (l.length + 1) l (allFree l) []
end Go.Proofs.Ytjjekpkgfhcknaa
