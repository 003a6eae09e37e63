/- What an iterator's caller keeps: rows, ledgers, lists gone over. Conditions: none. -/
import Derived.Test.YtmfidhlhcochoaaPut2
import Derived.Test.YtmfidhlhcochoaaKeeps
namespace Go.Proofs.Ytmfidhlhcochoaa
open Go.RowKit Go.Shelf
set_option linter.unusedVariables false
set_option linter.unusedSimpArgs false
attribute [local go_sem] Oper.semAt_some

def gotC (xs : List Cell) (pre : List (Fin xs.length)) : List Cell := pre.map fun i => xs[i.1]
theorem gotC_snoc (xs : List Cell) (pre : List (Fin xs.length)) (x : Fin xs.length) : gotC xs (pre ++ [x]) = gotC xs pre ++ [xs[x.1]] := by simp [gotC]
theorem gotC_places (xs : List Cell) (s : Nat) : gotC xs (places xs.length s) = xs.drop s := by
  unfold gotC places
  apply List.ext_getElem
  · simp
  · intro i h1 h2
    simp
theorem ledger_own {β : Type} {B b mb : Nat} (hb : b < B) (hm : mb < B) (f : β → List Cell) : OwnFrom B (fun s W => Ledger W b mb (f s)) := fun s X Y row hs hg hr =>
  hs.same (hg.block b hs.lt.1 (fun e => by have := (hr b e.symm).1; omega)) (hg.block mb hs.lt.2 (fun e => by have := (hr mb e.symm).1; omega))
end Go.Proofs.Ytmfidhlhcochoaa
