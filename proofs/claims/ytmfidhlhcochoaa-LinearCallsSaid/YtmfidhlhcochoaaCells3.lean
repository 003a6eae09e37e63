/- What an operation answers, by cases; two rows of 1024 that keep what is taken. Plain lists and rows. Conditions: none. -/
import Derived.Test.YtmfidhlhcochoaaCells2
namespace Go.Proofs.Ytmfidhlhcochoaa
open Go.RowKit
set_option linter.unusedVariables false
set_option linter.unusedSimpArgs false
inductive Told (cs : List Cell) (o : Op) : Prop
  | bad (h : checkOp o ≠ 0) (r : would cs o = ⟨0, 0, emp⟩) (a : after cs o = cs)
  | wrote (v : ByteArray) (h : checkOp o = 0) (k : o.kind = 1) (g : getC cs o.slot = none) (r : would cs o = ⟨1, o.slot, o.value⟩) (a : after cs o = putC cs ⟨o.slot, o.value⟩)
  | taken (v : ByteArray) (h : checkOp o = 0) (k : o.kind = 1) (g : getC cs o.slot = some v) (r : would cs o = ⟨2, o.slot, v⟩) (a : after cs o = cs)
  | full (h : checkOp o = 0) (k : o.kind = 2) (g : nextC cs = 1024) (r : would cs o = ⟨3, 0, emp⟩) (a : after cs o = cs)
  | behind (h : checkOp o = 0) (k : o.kind = 2) (g : nextC cs ≠ 1024) (r : would cs o = ⟨1, nextC cs, o.value⟩) (a : after cs o = putC cs ⟨nextC cs, o.value⟩)
  | found (v : ByteArray) (h : checkOp o = 0) (k : o.kind = 3) (g : getC cs o.slot = some v) (r : would cs o = ⟨4, o.slot, v⟩) (a : after cs o = cs)
  | none_ (h : checkOp o = 0) (k : o.kind = 3) (g : getC cs o.slot = none) (r : would cs o = ⟨5, o.slot, emp⟩) (a : after cs o = cs)
  | count (h : checkOp o = 0) (k : o.kind = 4) (r : would cs o = ⟨6, cs.length, emp⟩) (a : after cs o = cs)
theorem told (cs : List Cell) (o : Op) : Told cs o := by
  by_cases h : checkOp o = 0
  · have hk : o.kind = 1 ∨ o.kind = 2 ∨ o.kind = 3 ∨ o.kind = 4 := by
      unfold checkOp at h
      split at h
      · omega
      · split at h
        · omega
        · omega
    rcases hk with k | k | k | k
    · cases g : getC cs o.slot with
      | none => exact .wrote emp h k g (by simp [would, h, k, g]) (by simp [after, would, h, k, g])
      | some v => exact .taken v h k g (by simp [would, h, k, g]) (by simp [after, would, h, k, g])
    · by_cases g : nextC cs = 1024
      · exact .full h k g (by simp [would, h, k, g]) (by simp [after, would, h, k, g])
      · exact .behind h k g (by simp [would, h, k, g]) (by simp [after, would, h, k, g])
    · cases g : getC cs o.slot with
      | none => exact .none_ h k g (by simp [would, h, k, g]) (by simp [after, would, h, k, g])
      | some v => exact .found v h k g (by simp [would, h, k, g]) (by simp [after, would, h, k, g])
    · exact .count h k (by simp [would, h, k]) (by simp [after, would, h, k])
  · exact .bad h (by simp [would, h, zres]) (by simp [after, would, h, zres])
theorem checkOp_slot {o : Op} (h : checkOp o = 0) (k : o.kind = 1 ∨ o.kind = 3) : 0 ≤ o.slot ∧ o.slot < 1024 := by
  unfold checkOp at h
  rw [if_pos k] at h
  by_cases hs : o.slot < 0 ∨ 1024 ≤ o.slot
  · rw [if_pos hs] at h; omega
  · omega
theorem checkOp_value {o : Op} (h : checkOp o = 0) (k : o.kind = 1 ∨ o.kind = 2) : o.value.size ≤ 64 := by
  unfold checkOp at h
  rcases k with k | k <;> simp only [k] at h
  · rw [if_pos (by simp)] at h
    by_cases hs : o.slot < 0 ∨ 1024 ≤ o.slot
    · rw [if_pos hs] at h; omega
    · rw [if_neg hs] at h; simp at h; omega
  · rw [if_neg (by simp), if_pos (by simp)] at h
    by_cases hs : o.slot ≠ 0
    · rw [if_pos hs] at h; omega
    · rw [if_neg hs] at h; simp at h; omega
theorem getC_full {cs : List Cell} (hr : Rising cs) (h : nextC cs = 1024) : (getC cs 1023).isSome = true := by
  obtain ⟨c, hc, h1⟩ := nextC_mem (cs := cs) (by rintro rfl; simp [nextC] at h)
  have : getC cs c.slot = some c.value := getC_of_mem hr hc
  rw [h1, h] at this
  rw [show (1023 : Int) = 1024 - 1 by omega, this]; rfl
theorem getC_putC {cs : List Cell} (h : Rising cs) {c : Cell} (hg : Good c) (hn : ∀ d ∈ cs, d.slot ≠ c.slot) (k : Int) : getC (putC cs c) k = if k = c.slot then some c.value else getC cs k := by
  have hr := putC_rising h hg hn
  by_cases hk : k = c.slot
  · subst hk; rw [if_pos rfl]; exact getC_put_self h hg hn
  · rw [if_neg hk]
    cases hq : getC cs k with
    | none =>
      refine getC_none.2 fun d hd => ?_
      rcases mem_putC.1 hd with rfl | hd
      · exact fun e => hk e.symm
      · exact getC_none.1 hq d hd
    | some v => exact getC_of_mem hr (mem_putC.2 (.inr (getC_some hq)))

def tk (cs : List Cell) : Array Value := Array.ofFn (n := 1024) fun i => .bool (getC cs (i.val : Int)).isSome
def vk (cs : List Cell) : Array Value := Array.ofFn (n := 1024) fun i => .string ((getC cs (i.val : Int)).getD emp)
theorem tk_get (cs : List Cell) {s : Int} (h0 : 0 ≤ s) (h1 : s < 1024) : (tk cs)[s.toNat]? = some (.bool (getC cs s).isSome) := by
  simp only [tk, Array.getElem?_ofFn]
  rw [dif_pos (by omega)]
  simp [Int.toNat_of_nonneg h0]
theorem vk_get (cs : List Cell) {s : Int} (h0 : 0 ≤ s) (h1 : s < 1024) : (vk cs)[s.toNat]? = some (.string ((getC cs s).getD emp)) := by
  simp only [vk, Array.getElem?_ofFn]
  rw [dif_pos (by omega)]
  simp [Int.toNat_of_nonneg h0]
theorem tk_set {cs : List Cell} (h : Rising cs) {c : Cell} (hg : Good c) (hn : ∀ d ∈ cs, d.slot ≠ c.slot) : (tk cs).setIfInBounds c.slot.toNat (.bool true) = tk (putC cs c) := by
  apply Array.ext_getElem?
  intro i
  rw [Array.getElem?_setIfInBounds]
  have h0 := hg.1
  have h1 := hg.2.1
  by_cases hi : i < 1024
  · have e1 := tk_get cs (s := i) (by omega) (by omega)
    have e2 := tk_get (putC cs c) (s := i) (by omega) (by omega)
    rw [Int.toNat_natCast] at e1 e2
    rw [e1, e2, getC_putC h hg hn]
    by_cases hc : c.slot.toNat = i
    · rw [if_pos hc, if_pos (by simp [tk]; omega), if_pos (by omega)]; rfl
    · rw [if_neg hc, if_neg (by omega)]
  · rw [if_neg (by omega), Array.getElem?_eq_none (by simp [tk]; omega), Array.getElem?_eq_none (by simp [tk]; omega)]
theorem vk_set {cs : List Cell} (h : Rising cs) {c : Cell} (hg : Good c) (hn : ∀ d ∈ cs, d.slot ≠ c.slot) : (vk cs).setIfInBounds c.slot.toNat (.string c.value) = vk (putC cs c) := by
  apply Array.ext_getElem?
  intro i
  rw [Array.getElem?_setIfInBounds]
  have h0 := hg.1
  have h1 := hg.2.1
  by_cases hi : i < 1024
  · have e1 := vk_get cs (s := i) (by omega) (by omega)
    have e2 := vk_get (putC cs c) (s := i) (by omega) (by omega)
    rw [Int.toNat_natCast] at e1 e2
    rw [e1, e2, getC_putC h hg hn]
    by_cases hc : c.slot.toNat = i
    · rw [if_pos hc, if_pos (by simp [vk]; omega), if_pos (by omega)]; rfl
    · rw [if_neg hc, if_neg (by omega)]
  · rw [if_neg (by omega), Array.getElem?_eq_none (by simp [vk]; omega), Array.getElem?_eq_none (by simp [vk]; omega)]
theorem tk_nil : tk [] = Array.replicate 1024 (.bool false) := by
  apply Array.ext <;> simp [tk, getC]
theorem vk_nil : vk [] = Array.replicate 1024 (.string emp) := by
  apply Array.ext <;> simp [vk, getC]
end Go.Proofs.Ytmfidhlhcochoaa
