/- LinearChecks answers true. Conditions: sizes within the form's own reach. -/
import Derived.Test.YtmfidhlhcochoaaRefCheck18
import Derived.Test.YtmfidhlhcochoaaLent
import Derived.Test.YtmfidhlhcochoaaWorks18
import Derived.Test.YtmfidhlhcochoaaOpen18
namespace Go.Proofs.Ytmfidhlhcochoaa
open Go.RowKit
set_option linter.unusedVariables false
set_option linter.unusedSimpArgs false

/-- What was lent, and the list itself, stay in whatever grows beyond. -/
structure Own18 (w W : World) (A : Option Addr) (l : List Call) (g c : Nat) : Prop where
  below : Below w.heap.size w W
  own : Made Call.cells 10 45 w.heap.size W (.slice (some ⟨g, 0, none⟩) (l.length + 1) c) (l ++ [markC])
  list : Rd Call.cells 10 W w.heap.size A l
  room : l.length + 1 ≤ c
theorem Own18.step {w W W' : World} {A : Option Addr} {l : List Call} {g c : Nat} (h : Own18 w W A l g c) (hb : Below W.heap.size W W') : Own18 w W' A l g c :=
  ⟨h.below.trans (hb.mono h.below.size), h.own.below hb (fun b e => (h.own.lt b e).2), h.list.below (hb.mono h.below.size), h.room⟩
theorem Own18.rdL {w W : World} {A : Option Addr} {l : List Call} {g c : Nat} (h : Own18 w W A l g c) : Rd Call.cells 10 W W.heap.size A l := h.list.more h.below.size
theorem Own18.rdO {w W : World} {A : Option Addr} {l : List Call} {g c : Nat} (h : Own18 w W A l g c) : Rd Call.cells 10 W W.heap.size (some ⟨g, 0, none⟩) l := by
  have h1 := (Made.rd' encCall.len h.own).take l.length
  rwa [List.take_left] at h1

end Go.Proofs.Ytmfidhlhcochoaa
