/- Rising lists cell by cell; a cell put behind all. Plain lists. Conditions: none. -/
import Derived.Test.YtmfidhlhcochoaaCells2
namespace Go.Proofs.Ytmfidhlhcochoaa
set_option linter.unusedVariables false
set_option linter.unusedSimpArgs false
theorem rising_take {cs : List Cell} (h : Rising cs) (k : Nat) : Rising (cs.take k) :=
  ⟨h.sorted.sublist (List.take_sublist _ _), fun c hc => h.good c (List.mem_of_mem_take hc)⟩
theorem rising_last {cs : List Cell} (h : Rising cs) {k : Nat} (hk : k < cs.length) : ∀ d ∈ cs.take k, d.slot < cs[k].slot := by
  intro d hd
  obtain ⟨i, hi, rfl⟩ := List.mem_iff_getElem.1 hd
  rw [List.getElem_take]
  have hi' : i < k := by simp at hi; omega
  exact List.pairwise_iff_getElem.1 h.sorted i k (by omega) hk hi'
theorem rising_snoc {cs : List Cell} {c : Cell} (h : Rising cs) (hg : Good c) (hl : ∀ d ∈ cs, d.slot < c.slot) : Rising (cs ++ [c]) := by
  refine ⟨List.pairwise_append.2 ⟨h.sorted, by simp, fun a ha b hb => ?_⟩, fun d hd => ?_⟩
  · simp at hb; subst hb; exact hl a ha
  · rcases List.mem_append.1 hd with h1 | h1
    · exact h.good d h1
    · simp at h1; subst h1; exact hg
theorem rising_step {cs : List Cell} {k : Nat} (h : Rising (cs.take k)) (hk : k < cs.length) (hg : Good cs[k]) (hp : ∀ j z, k = j + 1 → cs[j]? = some z → z.slot < cs[k].slot) : Rising (cs.take (k + 1)) := by
  rw [List.take_succ_eq_append_getElem hk]
  refine rising_snoc h hg fun d hd => ?_
  obtain ⟨i, hi, rfl⟩ := List.mem_iff_getElem.1 hd
  have hi' : i < k := by simp at hi; omega
  rw [List.getElem_take]
  have h0 := hp (k - 1) _ (by omega) (List.getElem?_eq_getElem (by omega))
  by_cases e : i = k - 1
  · subst e; exact h0
  · have := List.pairwise_iff_getElem.1 h.sorted i (k - 1) (by simp; omega) (by simp; omega) (by omega)
    simp at this
    omega
theorem putC_behind {cs : List Cell} {c : Cell} (h : ∀ d ∈ cs, d.slot < c.slot) : putC cs c = cs ++ [c] := by
  induction cs with
  | nil => rfl
  | cons d ds ih =>
    have := h d (by simp)
    rw [putC, if_neg (by omega), ih (fun e he => h e (by simp [he]))]
    rfl
theorem not_rising_good {cs : List Cell} {k : Nat} (hk : k < cs.length) (h : ¬ Good cs[k]) : ¬ Rising cs := fun r => h (r.good _ (List.getElem_mem _))
theorem not_rising_prev {cs : List Cell} {k : Nat} {z : Cell} (hk : k + 1 < cs.length) (hz : cs[k]? = some z) (h : cs[k + 1].slot ≤ z.slot) : ¬ Rising cs := fun r => by
  obtain ⟨_, rfl⟩ := List.getElem?_eq_some_iff.1 hz
  have := List.pairwise_iff_getElem.1 r.sorted k (k + 1) (by omega) hk (by omega)
  omega
/-- What the round of From sees. -/
inductive Seen4 (cs : List Cell) (k : Nat) (hk : k < cs.length) : Prop
  | neg (h : cs[k].slot < 0)
  | big (h0 : ¬ cs[k].slot < 0) (h : 1024 ≤ cs[k].slot)
  | long (h0 : ¬ cs[k].slot < 0) (h1 : ¬ 1024 ≤ cs[k].slot) (h : 64 < cs[k].value.size)
  | first (h0 : ¬ cs[k].slot < 0) (h1 : ¬ 1024 ≤ cs[k].slot) (h2 : ¬ 64 < cs[k].value.size) (h : k = 0)
  | back (j : Nat) (z : Cell) (h0 : ¬ cs[k].slot < 0) (h1 : ¬ 1024 ≤ cs[k].slot) (h2 : ¬ 64 < cs[k].value.size) (hj : k = j + 1) (hz : cs[j]? = some z) (h : cs[k].slot ≤ z.slot)
  | next (j : Nat) (z : Cell) (h0 : ¬ cs[k].slot < 0) (h1 : ¬ 1024 ≤ cs[k].slot) (h2 : ¬ 64 < cs[k].value.size) (hj : k = j + 1) (hz : cs[j]? = some z) (h : ¬ cs[k].slot ≤ z.slot)
theorem seen4 (cs : List Cell) (k : Nat) (hk : k < cs.length) : Seen4 cs k hk := by
  by_cases h0 : cs[k].slot < 0
  · exact .neg h0
  by_cases h1 : 1024 ≤ cs[k].slot
  · exact .big h0 h1
  by_cases h2 : 64 < cs[k].value.size
  · exact .long h0 h1 h2
  by_cases h : k = 0
  · exact .first h0 h1 h2 h
  obtain ⟨j, hj⟩ : ∃ j, k = j + 1 := ⟨k - 1, by omega⟩
  by_cases h3 : cs[k].slot ≤ (cs[j]'(by omega)).slot
  · exact .back j _ h0 h1 h2 hj (List.getElem?_eq_getElem (by omega)) h3
  · exact .next j _ h0 h1 h2 hj (List.getElem?_eq_getElem (by omega)) h3
end Go.Proofs.Ytmfidhlhcochoaa
