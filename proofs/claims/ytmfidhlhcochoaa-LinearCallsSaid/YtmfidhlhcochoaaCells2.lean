/- More of cells: the greatest slot. Plain lists. Conditions: none. -/
import Derived.Test.YtmfidhlhcochoaaCells
namespace Go.Proofs.Ytmfidhlhcochoaa
set_option linter.unusedVariables false
set_option linter.unusedSimpArgs false
theorem nextC_mem {cs : List Cell} (h : cs ≠ []) : ∃ c ∈ cs, c.slot = nextC cs - 1 := by
  induction cs with
  | nil => exact absurd rfl h
  | cons d ds ih =>
    cases ds with
    | nil => exact ⟨d, by simp, by simp only [nextC]; omega⟩
    | cons e es =>
      obtain ⟨c, hc, h1⟩ := ih (by simp)
      exact ⟨c, by simp [hc], by simpa only [nextC] using h1⟩
theorem greatest_is {cs : List Cell} (h : Rising cs) {s : Int} (h1 : ∀ c ∈ cs, c.slot ≤ s) (h2 : s = -1 ∨ ∃ c ∈ cs, c.slot = s) : s = nextC cs - 1 := by
  rcases h2 with rfl | ⟨c, hc, rfl⟩
  · cases cs with
    | nil => simp [nextC]
    | cons d ds =>
      have := (h.good d (by simp)).1
      have := h1 d (by simp)
      omega
  · have h3 := nextC_ge h c hc
    obtain ⟨d, hd, h4⟩ := nextC_mem (show cs ≠ [] by rintro rfl; simp at hc)
    have := h1 d hd
    omega
theorem would_append {cs : List Cell} {v : ByteArray} (hv : v.size ≤ 64) : would cs ⟨2, 0, v⟩ = if nextC cs = 1024 then ⟨3, 0, emp⟩ else ⟨1, nextC cs, v⟩ := by
  have hc : checkOp ⟨2, 0, v⟩ = 0 := by
    have : ¬ 64 < v.size := by omega
    simp [checkOp, this]
  simp [would, hc]
theorem getC_put_self {cs : List Cell} (h : Rising cs) {c : Cell} (hg : Good c) (hn : ∀ d ∈ cs, d.slot ≠ c.slot) : getC (putC cs c) c.slot = some c.value :=
  getC_of_mem (putC_rising h hg hn) (mem_putC.2 (.inl rfl))
theorem playC_take_succ (cs : List Cell) (os : List Op) (k : Nat) (h : k < os.length) : playC cs (os.take (k + 1)) = after (playC cs (os.take k)) os[k] := by
  rw [List.take_succ_eq_append_getElem h, playC_append]; rfl
theorem playR_take_succ (cs : List Cell) (os : List Op) (k : Nat) (h : k < os.length) : playR cs (os.take (k + 1)) = playR cs (os.take k) ++ [would (playC cs (os.take k)) os[k]] := by
  rw [List.take_succ_eq_append_getElem h, playR_append]; rfl
end Go.Proofs.Ytmfidhlhcochoaa
