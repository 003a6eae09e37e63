/- amnesialaw04.wrote and quiet: what they answer; how many cells an operation leaves; operations that commute. Conditions: none. -/
import Derived.Test.YtmijlflblhhfjaaWorks04
import Derived.Test.YtmijlflblhhfjaaCells3
import Derived.Test.YtmijlflblhhfjaaReplayRef
namespace Go.Proofs.Ytmijlflblhhfjaa
open Go.RowKit
set_option linter.unusedVariables false
set_option linter.unusedSimpArgs false

theorem after_length {cs : List Cell} (h : Rising cs) (o : Op) : (after cs o).length = cs.length + if (would cs o).code = 1 then 1 else 0 := by
  unfold after
  split
  · rw [putC_length]
  · rfl
theorem would_count (cs : List Cell) : would cs ⟨4, 0, ⟨#[]⟩⟩ = ⟨6, cs.length, emp⟩ := by
  have hc : checkOp ⟨4, 0, ⟨#[]⟩⟩ = 0 := by decide
  simp [would, hc]

def quietB (o : Op) : Bool := decide (o.kind = 3) || decide (o.kind = 4) || decide (checkOp o ≠ 0)
theorem quietB_after {cs : List Cell} {o : Op} (h : quietB o = true) : after cs o = cs := by
  unfold quietB at h
  simp only [Bool.or_eq_true, decide_eq_true_eq] at h
  cases told cs o with
  | bad _ _ a => exact a
  | wrote v hc k g r a => omega
  | taken v hc k g r a => exact a
  | full hc k g r a => exact a
  | behind hc k g r a => omega
  | found v hc k g r a => exact a
  | none_ hc k g r a => exact a
  | count hc k r a => exact a

/-- Writes and reads: what they answer hangs on their own slot alone. -/
theorem would_slot {cs ds : List Cell} {o : Op} (hk : o.kind = 1 ∨ o.kind = 3) (h : getC cs o.slot = getC ds o.slot) : would cs o = would ds o := by
  unfold would
  by_cases hc : checkOp o = 0
  · rcases hk with k | k
    · simp [hc, k, h]
    · simp [hc, k, h]
  · rw [if_pos (by simpa using hc), if_pos (by simpa using hc)]
theorem would_own_slot {cs : List Cell} {o : Op} (hk : o.kind = 1 ∨ o.kind = 3) (hw : (would cs o).code = 1) : (would cs o).slot = o.slot := by
  cases told cs o with
  | bad _ r _ => rw [r] at hw; simp at hw
  | wrote v hc k g r a => rw [r]
  | taken v hc k g r a => rw [r] at hw; simp at hw
  | full hc k g r a => omega
  | behind hc k g r a => omega
  | found v hc k g r a => rw [r] at hw; simp at hw
  | none_ hc k g r a => rw [r] at hw; simp at hw
  | count hc k r a => omega
theorem getC_after {cs : List Cell} (h : Rising cs) {o : Op} (hk : o.kind = 1 ∨ o.kind = 3) {s : Int} (hs : s ≠ o.slot) : getC (after cs o) s = getC cs s := by
  unfold after
  split
  · rename_i hw
    obtain ⟨h1, h2⟩ := would_written h hw
    rw [getC_putC h h1 h2, if_neg]
    show ¬ s = (would cs o).slot
    rw [would_own_slot hk hw]
    exact hs
  · rfl
/-- Two writes or reads of unlike slots. -/
theorem commute {cs : List Cell} (h : Rising cs) {x y : Op} (hx : x.kind = 1 ∨ x.kind = 3) (hy : y.kind = 1 ∨ y.kind = 3) (hs : x.slot ≠ y.slot) :
    would (after cs y) x = would cs x ∧ would (after cs x) y = would cs y ∧ after (after cs y) x = after (after cs x) y := by
  have e1 : would (after cs y) x = would cs x := would_slot hx (getC_after h hy hs)
  have e2 : would (after cs x) y = would cs y := would_slot hy (getC_after h hx (fun e => hs e.symm))
  refine ⟨e1, e2, ?_⟩
  have r1 := after_rising (after_rising h y) x
  have r2 := after_rising (after_rising h x) y
  refine rising_unique r1 r2 ?_
  have key : ∀ (ds : List Cell) (o : Op), (after ds o).Perm ((if (would ds o).code = 1 then [⟨(would ds o).slot, (would ds o).value⟩] else []) ++ ds) := fun ds o => by
    unfold after
    split
    · exact putC_perm _ _
    · exact List.Perm.refl _
  have p1 := key (after cs y) x
  have p2 := key (after cs x) y
  rw [e1] at p1
  rw [e2] at p2
  refine (p1.trans ((key cs y).append_left _)).trans ((p2.trans ((key cs x).append_left _)).trans ?_).symm
  rw [← List.append_assoc, ← List.append_assoc]
  exact List.perm_append_comm.append_right _

theorem wrote_prog (r : Res) (w : World) : Calls Try.prog 25 #[.agg #[.int .i64 r.code, .int .i64 r.slot, .string r.value]] w fun e w' => e = .returned (.bool (r.code == 1)) ∧ Below w.heap.size w w' := by
  go_enter Try.func25, Try.ntmps25
  go_wp2
  go_ret
  exact ⟨rfl, (Below.refl _ _).alloc (Nat.le_refl _) _⟩

set_option maxHeartbeats 2000000 in
theorem quiet_prog (o : Op) (hv : o.value.size ≤ 9223372036854775807) (w : World) : Calls Try.prog 17 #[.agg #[.int .i64 o.kind, .int .i64 o.slot, .string o.value]] w fun e w' => e = .returned (.bool (quietB o)) ∧ Below w.heap.size w w' := by
  obtain ⟨bq, hbq⟩ : ∃ bq, bq = quietB o := ⟨_, rfl⟩
  rw [← hbq]
  have HQ := Lib.hid hbq
  have HC := Lib.hid (fun W => check_prog o hv W)
  have hb0 : Below w.heap.size w (w.alloc (.cells #[.int .i64 o.kind, .int .i64 o.slot, .string o.value] 33)) := (Below.refl _ _).alloc (Nat.le_refl _) _
  have HB0 := Lib.hid hb0
  clear hbq hb0
  by_cases k3 : o.kind = 3
  · have e : bq = true := by rw [HQ.out]; simp [quietB, k3]
    have k3' : (o.kind == 3) = true := by simpa using k3
    subst e
    clear k3
    go_enter Try.func17, Try.ntmps17
    go_wp2
    go_ret
    exact ⟨rfl, HB0.out⟩
  by_cases k4 : o.kind = 4
  · have e : bq = true := by rw [HQ.out]; simp [quietB, k4]
    have k3' : (o.kind == 3) = false := by simpa using k3
    have k4' : (o.kind == 4) = true := by simpa using k4
    subst e
    clear k3 k4
    go_enter Try.func17, Try.ntmps17
    go_wp2
    go_ret
    exact ⟨rfl, HB0.out⟩
  · have k3' : (o.kind == 3) = false := by simpa using k3
    have k4' : (o.kind == 4) = false := by simpa using k4
    have e : bq = (checkOp o != 0) := by rw [HQ.out]; simp [quietB, k3, k4, bne]; by_cases h : checkOp o = 0 <;> simp [h]
    clear k3 k4 HQ
    subst e
    generalize checkOp o = q at *
    go_enter Try.func17, Try.ntmps17
    go_wp2_with fail
    refine (HC.out _).mono ?_
    rintro e w1 ⟨rfl, hb1⟩
    have HB1 := Lib.hid (HB0.out.trans (hb1.mono HB0.out.size))
    clear hb1
    dsimp only
    go_wp2_with fail
    go_ret
    exact ⟨rfl, HB1.out⟩
end Go.Proofs.Ytmijlflblhhfjaa
