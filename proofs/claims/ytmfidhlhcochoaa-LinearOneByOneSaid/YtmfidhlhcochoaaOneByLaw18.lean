/- LinearOneByOne, its argument opened. Conditions: none. -/
import Derived.Test.YtmfidhlhcochoaaOneBy18
import Derived.Test.YtmfidhlhcochoaaOpenStep
namespace Go.Proofs.Ytmfidhlhcochoaa
open Go.RowKit
theorem oneby18_law (W : World) (A : Option Addr) (c n : Nat) (xs : List Step) (hn : n = xs.length) (_ : n ≤ c) (hrd : Rd Step.cells 9 W W.heap.size A xs) (hwf : ∀ o ∈ xs, o.wf) (hsz : xs.length * 88 ≤ 140737488351232) :
    Calls Try.prog 4 #[.slice A n c] W fun e w' => e = .returned (.bool true) ∧ Below W.heap.size W w' :=
  oneby18_calls A c n xs hn W (by omega) (fun o ho => (hwf o ho).op.value) hrd
end Go.Proofs.Ytmfidhlhcochoaa
