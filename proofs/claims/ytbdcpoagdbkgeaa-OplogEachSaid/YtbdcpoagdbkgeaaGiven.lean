/- amnesiaplain.Given: what Entries hands out, and what Intact then answers. Conditions: lengths within Go's own limits. -/
import Derived.Test.YtbdcpoagdbkgeaaPlain

import Derived.Deep.DeepMust
import Derived.Deep.RegionHeld3
import Derived.Deep.RegionLaw
import Derived.Deep.AppendLies
namespace Go.Proofs.Ytbdcpoagdbkgeaa
open Go.RowKit
set_option linter.unusedVariables false
set_option linter.unusedSimpArgs false

def mark : Entry := ⟨-77, -88, ⟨0, 0, ⟨#[]⟩⟩⟩
/-- One list that was handed out. -/
structure Gv where
  A : Option Addr
  c : Nat
  l : List Entry
def Gv.v (g : Gv) : Value := .slice g.A (g.l.length + 1) g.c
theorem encGv : Enc (fun v : Value => [v]) 1 → True := fun _ => trivial
def slc (v : { v : Value // v.oneCell' = true }) : List Value := [v.1]
theorem encSlc : Enc slc 1 := ⟨fun _ => rfl, fun x u hu => by simp [slc] at hu; subst hu; exact x.2⟩
def Gv.x (g : Gv) : { v : Value // v.oneCell' = true } := ⟨g.v, rfl⟩

/-- The blocks that Given may turn: its struct, and its two rows. -/
def GivenS (w : World) (gb : Nat) (k : Nat) : Prop := k = gb ∨ ∃ cs, w.heap[k]? = some (.cells cs 22 (0, 0))

end Go.Proofs.Ytbdcpoagdbkgeaa
