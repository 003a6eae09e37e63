/- oplog.Last: a client's greatest number. Conditions: sizes within Go's own limits. -/
import Derived.Test.YtbdcpoagdbkgeaaEntryRef
namespace Go.Proofs.Ytbdcpoagdbkgeaa
open Go.RowKit Go.Shelf
set_option linter.unusedVariables false
set_option linter.unusedSimpArgs false
attribute [local go_sem] Oper.semAt_some

/-- The elements at places. -/
def got (xs : List Entry) (pre : List (Fin xs.length)) : List Entry := pre.map fun i => xs[i.1]
theorem got_snoc (xs : List Entry) (pre : List (Fin xs.length)) (x : Fin xs.length) : got xs (pre ++ [x]) = got xs pre ++ [xs[x.1]] := by simp [got]
theorem got_places (xs : List Entry) (s : Nat) : got xs (places xs.length s) = xs.drop s := by
  unfold got places
  apply List.ext_getElem
  · simp
  · intro i h1 h2
    simp
theorem got_take (xs : List Entry) (k : Nat) : got xs ((places xs.length 0).take k) = xs.take k := by
  unfold got places
  apply List.ext_getElem
  · simp
  · intro i h1 h2
    simp

end Go.Proofs.Ytbdcpoagdbkgeaa
