/- A cell set, whether its slot is taken or not. Plain lists. Conditions: none. -/
import Derived.Test.YtmfidhlhcochoaaFromPlain
import Derived.Test.YtmfidhlhcochoaaCells3
namespace Go.Proofs.Ytmfidhlhcochoaa
set_option linter.unusedVariables false
set_option linter.unusedSimpArgs false
def swapC (c d : Cell) : Cell := if d.slot = c.slot then c else d
theorem swapC_slot (c d : Cell) : (swapC c d).slot = d.slot := by unfold swapC; split <;> simp_all
def setC (cs : List Cell) (c : Cell) : List Cell := if (getC cs c.slot).isSome then cs.map (swapC c) else putC cs c
theorem nextC_map (c : Cell) (cs : List Cell) : nextC (cs.map (swapC c)) = nextC cs := by
  induction cs with
  | nil => rfl
  | cons d ds ih =>
    cases ds with
    | nil => simp [nextC, swapC_slot]
    | cons e es => simpa [nextC] using ih
theorem getC_map {cs : List Cell} (c : Cell) (j : Int) (hs : (getC cs c.slot).isSome) : getC (cs.map (swapC c)) j = if c.slot = j then some c.value else getC cs j := by
  induction cs with
  | nil => simp [getC] at hs
  | cons d ds ih =>
    have hh : ∀ (x : Cell) (xs : List Cell) (k : Int), getC (x :: xs) k = if x.slot = k then some x.value else getC xs k := fun x xs k => by
      unfold getC
      rw [List.find?_cons]
      by_cases h : x.slot = k
      · rw [show (x.slot == k) = true by simpa using h, if_pos h]; rfl
      · rw [show (x.slot == k) = false by simpa using h, if_neg h]
    rw [List.map_cons, hh, hh, swapC_slot]
    by_cases hd : d.slot = j
    · rw [if_pos hd, if_pos hd]
      by_cases hc : c.slot = j
      · rw [if_pos hc, swapC, if_pos (by omega)]
      · rw [if_neg hc, swapC, if_neg (by omega)]
    · rw [if_neg hd, if_neg hd]
      by_cases he : d.slot = c.slot
      · rw [if_neg (by omega)]
        have hn : ∀ (xs : List Cell), getC (xs.map (swapC c)) j = getC xs j := fun xs => by
          induction xs with
          | nil => rfl
          | cons x xs ihx =>
            rw [List.map_cons, hh, hh, swapC_slot, ihx]
            by_cases hx : x.slot = j
            · rw [if_pos hx, if_pos hx, swapC, if_neg (by omega)]
            · rw [if_neg hx, if_neg hx]
        exact hn ds
      · refine ih ?_
        rw [hh, if_neg he] at hs
        exact hs
theorem map_rising {cs : List Cell} (h : Rising cs) {c : Cell} (hg : Good c) : Rising (cs.map (swapC c)) := by
  refine ⟨List.pairwise_map.2 ?_, fun d hd => ?_⟩
  · simpa only [swapC_slot] using h.sorted
  · obtain ⟨e, he, rfl⟩ := List.mem_map.1 hd
    unfold swapC
    split
    · exact hg
    · exact h.good e he
theorem setC_rising {cs : List Cell} (h : Rising cs) {c : Cell} (hg : Good c) : Rising (setC cs c) := by
  unfold setC
  split
  · exact map_rising h hg
  · rename_i hn
    refine putC_rising h hg fun d hd => ?_
    have : getC cs c.slot = none := by simpa using hn
    exact getC_none.1 this d hd
theorem getC_setC {cs : List Cell} (h : Rising cs) {c : Cell} (hg : Good c) (j : Int) : getC (setC cs c) j = if c.slot = j then some c.value else getC cs j := by
  unfold setC
  by_cases hs : (getC cs c.slot).isSome = true
  · rw [if_pos hs]; exact getC_map c j hs
  · rw [if_neg hs, getC_putC h hg (getC_none.1 (by simpa using hs))]
    by_cases hc : c.slot = j
    · rw [if_pos hc, if_pos hc.symm]
    · rw [if_neg hc, if_neg (fun e => hc e.symm)]
theorem nextC_setC {cs : List Cell} (h : Rising cs) (c : Cell) (hg : Good c) : nextC (setC cs c) = max (nextC cs) (c.slot + 1) := by
  unfold setC
  by_cases hs : (getC cs c.slot).isSome = true
  · rw [if_pos hs, nextC_map]
    obtain ⟨v, hv⟩ := Option.isSome_iff_exists.1 hs
    have := nextC_ge h _ (getC_some hv)
    simp only at this
    omega
  · rw [if_neg hs]
    exact nextC_put h c hg.1 (getC_none.1 (by simpa using hs))
/-- All set one behind the other. -/
def setAll (cs : List Cell) : List Cell := cs.foldl setC []
theorem setAll_snoc (cs : List Cell) (c : Cell) : setAll (cs ++ [c]) = setC (setAll cs) c := by simp [setAll]
theorem setAll_take {cs : List Cell} (h : Rising cs) (k : Nat) : setAll (cs.take k) = cs.take k := by
  induction k with
  | zero => rfl
  | succ k ih =>
    by_cases hk : k < cs.length
    · rw [List.take_succ_eq_append_getElem hk, setAll_snoc, ih]
      have hl := rising_last h hk
      have hn : getC (cs.take k) cs[k].slot = none := getC_none.2 fun d hd e => by have := hl d hd; omega
      unfold setC
      rw [hn, if_neg (by simp)]
      exact putC_behind hl
    · rw [List.take_of_length_le (by omega), ← List.take_of_length_le (show cs.length ≤ k by omega)]
      exact ih
theorem setAll_rising {cs : List Cell} (h : Rising cs) : setAll cs = cs := by
  have := setAll_take h cs.length
  rwa [List.take_length] at this
theorem setAll_is {cs : List Cell} (h : ∀ c ∈ cs, Good c) : Rising (setAll cs) := by
  unfold setAll
  have key : ∀ (cs acc : List Cell), (∀ c ∈ cs, Good c) → Rising acc → Rising (cs.foldl setC acc) := by
    intro cs
    induction cs with
    | nil => exact fun acc _ h => h
    | cons c cs ih => exact fun acc hc ha => ih _ (fun d hd => hc d (by simp [hd])) (setC_rising ha (hc c (by simp)))
  exact key cs [] h Rising.nil
end Go.Proofs.Ytmfidhlhcochoaa
