/- Closed facts of this translation that every row asks, each proved once. Conditions: none. -/
import Derived.Test.YtmfidhlhcochoaaRows
import Derived.KernelRfl
import Derived.JoinedOf
namespace Go.Proofs.Ytmfidhlhcochoaa
set_option linter.unusedVariables false
set_option linter.unusedSimpArgs false
set_option maxRecDepth 100000

def litL : { l : List Char // Try.prog.initOrder = String.ofList l } := ⟨_, rfl⟩
theorem initL : Try.prog.initOrder.toList = litL.1 := (congrArg String.toList litL.2).trans String.toList_ofList
theorem makeAt {P : Program} {l : List Char} (h : P.initOrder.toList = l) (c : List Char) (r : List (List Char)) (hw : behindMainWord (wordsSigns l) = c :: r) (h1 : (c == "gc".toList || c == "spec".toList) = false) (h2 : (c == "cut".toList) = true) : P.make = some .cut := by
  unfold Program.make
  rw [h, hw]
  show (if (c == "gc".toList || c == "spec".toList) = true then _ else _) = _
  rw [if_neg (by rw [h1]; exact Bool.false_ne_true), if_pos (by rw [h2]; rfl)]
theorem mayAt {P : Program} {l : List Char} (h : P.initOrder.toList = l) (c : List Char) (r : List (List Char)) (hw : behindMainWord (wordsSigns l) = c :: r) (h1 : ((stripLifts liftWords (c :: r)).2.head? == some "cut".toList) = true)
    (h2 : P.laysLater = false) (h3 : P.bearsReflect = false) (h4 : (stripLifts liftWords (c :: r)).1 = []) (h5 : P.doorFits [] = true) : P.mayEnter = true := by
  unfold Program.mayEnter
  rw [h, hw]
  show (_ || _ || _) = true
  refine Bool.or_eq_true_iff.2 (.inr ?_)
  rw [h1, h2, h3, h4, h5]
  rfl
theorem liftsAt {P : Program} {l : List Char} (h : P.initOrder.toList = l) (h1 : ((behindMainWord (wordsSigns l)).head? == some "carried".toList) = false) (h4 : (stripLifts liftWords (behindMainWord (wordsSigns l))).1 = []) : P.liftsFinal = false := by
  unfold Program.liftsFinal Program.headLifts
  rw [h]
  show (_ || _) = false
  refine Bool.or_eq_false_iff.2 ⟨by rw [h1]; rfl, ?_⟩
  simp only [h4]
  split <;> rfl
theorem w0 : behindMainWord (wordsSigns litL.1) = (behindMainWord (wordsSigns litL.1)).headD [] :: (behindMainWord (wordsSigns litL.1)).tail := by kernel_rfl
theorem fMake : Try.prog.make = some .cut := makeAt initL _ _ w0 (by kernel_rfl) (by kernel_rfl)
theorem fStrip : (stripLifts liftWords ((behindMainWord (wordsSigns litL.1)).headD [] :: (behindMainWord (wordsSigns litL.1)).tail)).1 = [] := by kernel_rfl
theorem fLater : Try.prog.laysLater = false := by kernel_rfl
theorem fReflect : Try.prog.bearsReflect = false := by kernel_rfl
theorem fDoor : Try.prog.doorFits [] = true := by kernel_rfl
theorem fMayEnter : Try.prog.mayEnter = true := mayAt initL _ _ w0 (by kernel_rfl) fLater fReflect fStrip fDoor
theorem fLifts : Try.prog.liftsFinal = false := liftsAt initL (by kernel_rfl) (by rw [w0]; exact fStrip)
theorem fHeard : Try.prog.stopsHeard = true := by kernel_rfl
theorem fLaid : laidOutB Try.prog = true := by kernel_rfl
theorem fMaps : mapsRowed Try.prog = true := by kernel_rfl
theorem fStops : (Try.prog.stops == []) = true := by kernel_rfl
theorem fKnobs : (Try.prog.stopKnobs == []) = true := by kernel_rfl
theorem fKeys : Try.prog.plainKeys = false := by kernel_rfl
end Go.Proofs.Ytmfidhlhcochoaa
