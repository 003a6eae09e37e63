/- amnesialaw04.wrote and quiet: what they answer; how many cells an operation leaves; operations that commute. Conditions: none. -/
import Derived.Test.YtdkdddkhfonjmaaWorks04
import Derived.Test.YtdkdddkhfonjmaaCells3
import Derived.Test.YtdkdddkhfonjmaaReplayRef
namespace Go.Proofs.Ytdkdddkhfonjmaa
open Go.RowKit
set_option linter.unusedVariables false
set_option linter.unusedSimpArgs false

theorem after_length {cs : List Cell} (h : Rising cs) (o : Op) : (after cs o).length = cs.length + if (would cs o).code = 1 then 1 else 0 := by
  unfold after
  split
  · rw [putC_length]
  · rfl
theorem would_count (cs : List Cell) : would cs ⟨4, 0, ⟨#[]⟩⟩ = ⟨6, cs.length, emp⟩ := by
  have hc : checkOp ⟨4, 0, ⟨#[]⟩⟩ = 0 := by decide
  simp [would, hc]

def quietB (o : Op) : Bool := decide (o.kind = 3) || decide (o.kind = 4) || decide (checkOp o ≠ 0)
theorem quietB_after {cs : List Cell} {o : Op} (h : quietB o = true) : after cs o = cs := by
  unfold quietB at h
  simp only [Bool.or_eq_true, decide_eq_true_eq] at h
  cases told cs o with
  | bad _ _ a => exact a
  | wrote v hc k g r a => omega
  | taken v hc k g r a => exact a
  | full hc k g r a => exact a
  | behind hc k g r a => omega
  | found v hc k g r a => exact a
  | none_ hc k g r a => exact a
  | count hc k r a => exact a

/-- Writes and reads: what they answer hangs on their own slot alone. -/
theorem would_slot {cs ds : List Cell} {o : Op} (hk : o.kind = 1 ∨ o.kind = 3) (h : getC cs o.slot = getC ds o.slot) : would cs o = would ds o := by
  unfold would
  by_cases hc : checkOp o = 0
  · rcases hk with k | k
    · simp [hc, k, h]
    · simp [hc, k, h]
  · rw [if_pos (by simpa using hc), if_pos (by simpa using hc)]
theorem would_own_slot {cs : List Cell} {o : Op} (hk : o.kind = 1 ∨ o.kind = 3) (hw : (would cs o).code = 1) : (would cs o).slot = o.slot := by
  cases told cs o with
  | bad _ r _ => rw [r] at hw; simp at hw
  | wrote v hc k g r a => rw [r]
  | taken v hc k g r a => rw [r] at hw; simp at hw
  | full hc k g r a => omega
  | behind hc k g r a => omega
  | found v hc k g r a => rw [r] at hw; simp at hw
  | none_ hc k g r a => rw [r] at hw; simp at hw
  | count hc k r a => omega
theorem getC_after {cs : List Cell} (h : Rising cs) {o : Op} (hk : o.kind = 1 ∨ o.kind = 3) {s : Int} (hs : s ≠ o.slot) : getC (after cs o) s = getC cs s := by
  unfold after
  split
  · rename_i hw
    obtain ⟨h1, h2⟩ := would_written h hw
    rw [getC_putC h h1 h2, if_neg]
    show ¬ s = (would cs o).slot
    rw [would_own_slot hk hw]
    exact hs
  · rfl
/-- Two writes or reads of unlike slots. -/
theorem commute {cs : List Cell} (h : Rising cs) {x y : Op} (hx : x.kind = 1 ∨ x.kind = 3) (hy : y.kind = 1 ∨ y.kind = 3) (hs : x.slot ≠ y.slot) :
    would (after cs y) x = would cs x ∧ would (after cs x) y = would cs y ∧ after (after cs y) x = after (after cs x) y := by
  have e1 : would (after cs y) x = would cs x := would_slot hx (getC_after h hy hs)
  have e2 : would (after cs x) y = would cs y := would_slot hy (getC_after h hx (fun e => hs e.symm))
  refine ⟨e1, e2, ?_⟩
  have r1 := after_rising (after_rising h y) x
  have r2 := after_rising (after_rising h x) y
  refine rising_unique r1 r2 ?_
  have key : ∀ (ds : List Cell) (o : Op), (after ds o).Perm ((if (would ds o).code = 1 then [⟨(would ds o).slot, (would ds o).value⟩] else []) ++ ds) := fun ds o => by
    unfold after
    split
    · exact putC_perm _ _
    · exact List.Perm.refl _
  have p1 := key (after cs y) x
  have p2 := key (after cs x) y
  rw [e1] at p1
  rw [e2] at p2
  refine (p1.trans ((key cs y).append_left _)).trans ((p2.trans ((key cs x).append_left _)).trans ?_).symm
  rw [← List.append_assoc, ← List.append_assoc]
  exact List.perm_append_comm.append_right _

end Go.Proofs.Ytdkdddkhfonjmaa
