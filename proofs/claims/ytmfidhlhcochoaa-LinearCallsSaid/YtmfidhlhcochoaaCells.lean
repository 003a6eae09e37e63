/- A ledger as a rising list of cells: look-up, insertion, what an operation answers; plain lists. Conditions: none. -/
import Derived.Test.YtmfidhlhcochoaaMem
namespace Go.Proofs.Ytmfidhlhcochoaa
set_option linter.unusedVariables false
set_option linter.unusedSimpArgs false

def getC (cs : List Cell) (k : Int) : Option ByteArray := (cs.find? (fun c => c.slot == k)).map (·.value)
def putC : List Cell → Cell → List Cell
  | [], c => [c]
  | d :: ds, c => if c.slot < d.slot then c :: d :: ds else d :: putC ds c
def nextC : List Cell → Int
  | [] => 0
  | [c] => c.slot + 1
  | _ :: c :: cs => nextC (c :: cs)
/-- may an operation be? -/
def checkOp (o : Op) : Int :=
  if o.kind = 1 ∨ o.kind = 3 then (if o.slot < 0 ∨ 1024 ≤ o.slot then 41 else if (if o.kind = 1 then 64 else 0) < o.value.size then 42 else 0)
  else if o.kind = 2 ∨ o.kind = 4 then (if o.slot ≠ 0 then 41 else if (if o.kind = 2 then 64 else 0) < o.value.size then 42 else 0)
  else 40
def emp : ByteArray := ⟨#[]⟩
def zres : Res := ⟨0, 0, emp⟩
def would (cs : List Cell) (o : Op) : Res :=
  if checkOp o ≠ 0 then zres
  else if o.kind = 1 then (match getC cs o.slot with | some v => ⟨2, o.slot, v⟩ | none => ⟨1, o.slot, o.value⟩)
  else if o.kind = 2 then (if nextC cs = 1024 then ⟨3, 0, emp⟩ else ⟨1, nextC cs, o.value⟩)
  else if o.kind = 3 then (match getC cs o.slot with | some v => ⟨4, o.slot, v⟩ | none => ⟨5, o.slot, emp⟩)
  else ⟨6, cs.length, emp⟩
def after (cs : List Cell) (o : Op) : List Cell := if (would cs o).code = 1 then putC cs ⟨(would cs o).slot, (would cs o).value⟩ else cs
def playC : List Cell → List Op → List Cell
  | cs, [] => cs
  | cs, o :: os => playC (after cs o) os
def playR : List Cell → List Op → List Res
  | _, [] => []
  | cs, o :: os => would cs o :: playR (after cs o) os

def Good (c : Cell) : Prop := 0 ≤ c.slot ∧ c.slot < 1024 ∧ c.value.size ≤ 64
structure Rising (cs : List Cell) : Prop where
  sorted : cs.Pairwise (fun a b => a.slot < b.slot)
  good : ∀ c ∈ cs, Good c

theorem Rising.nil : Rising [] := ⟨List.Pairwise.nil, fun c h => by simp at h⟩
theorem Rising.tail {c : Cell} {cs : List Cell} (h : Rising (c :: cs)) : Rising cs := ⟨(List.pairwise_cons.1 h.sorted).2, fun d hd => h.good d (by simp [hd])⟩

theorem getC_none {cs : List Cell} {k : Int} : getC cs k = none ↔ ∀ c ∈ cs, c.slot ≠ k := by
  simp [getC]
theorem getC_some {cs : List Cell} {k : Int} {v : ByteArray} (h : getC cs k = some v) : ⟨k, v⟩ ∈ cs := by
  simp only [getC, Option.map_eq_some_iff] at h
  obtain ⟨c, hc, rfl⟩ := h
  have h1 := List.find?_some hc
  have h2 := List.mem_of_find?_eq_some hc
  simp at h1
  obtain ⟨s, v⟩ := c
  simp at h1
  subst h1
  exact h2
theorem getC_of_mem {cs : List Cell} (h : Rising cs) {k : Int} {v : ByteArray} (hm : ⟨k, v⟩ ∈ cs) : getC cs k = some v := by
  induction cs with
  | nil => simp at hm
  | cons d ds ih =>
    obtain ⟨h1, h2⟩ := List.pairwise_cons.1 h.sorted
    simp only [List.mem_cons] at hm
    rcases hm with rfl | hm
    · simp [getC]
    · have hlt := h1 _ hm
      have : ¬ d.slot = k := by simp at hlt; omega
      have hne : (d.slot == k) = false := by simpa using this
      simp only [getC, List.find?_cons, hne]
      exact ih h.tail hm

theorem putC_perm (cs : List Cell) (c : Cell) : (putC cs c).Perm (c :: cs) := by
  induction cs with
  | nil => exact List.Perm.refl _
  | cons d ds ih =>
    simp only [putC]
    split
    · exact List.Perm.refl _
    · exact (ih.cons d).trans (List.Perm.swap c d ds)
theorem putC_length (cs : List Cell) (c : Cell) : (putC cs c).length = cs.length + 1 := by
  have := (putC_perm cs c).length_eq
  simpa using this
theorem mem_putC {cs : List Cell} {c d : Cell} : d ∈ putC cs c ↔ d = c ∨ d ∈ cs := by
  rw [(putC_perm cs c).mem_iff]; simp
theorem putC_rising {cs : List Cell} {c : Cell} (h : Rising cs) (hc : Good c) (hn : ∀ d ∈ cs, d.slot ≠ c.slot) : Rising (putC cs c) := by
  refine ⟨?_, fun d hd => ?_⟩
  · induction cs with
    | nil => simp [putC]
    | cons d ds ih =>
      obtain ⟨h1, h2⟩ := List.pairwise_cons.1 h.sorted
      simp only [putC]
      split
      · rename_i hlt
        refine List.pairwise_cons.2 ⟨fun x hx => ?_, h.sorted⟩
        simp only [List.mem_cons] at hx
        rcases hx with rfl | hx
        · exact hlt
        · have := h1 x hx; omega
      · rename_i hge
        have hne := hn d (by simp)
        refine List.pairwise_cons.2 ⟨fun x hx => ?_, ih h.tail (fun x hx => hn x (by simp [hx]))⟩
        rw [mem_putC] at hx
        rcases hx with rfl | hx
        · omega
        · exact h1 x hx
  · rw [mem_putC] at hd
    rcases hd with rfl | hd
    · exact hc
    · exact h.good d hd

theorem nextC_ge {cs : List Cell} (h : Rising cs) : ∀ c ∈ cs, c.slot < nextC cs := by
  induction cs with
  | nil => simp
  | cons d ds ih =>
    cases ds with
    | nil => intro c hc; simp at hc; subst hc; simp [nextC]; omega
    | cons e es =>
      intro c hc
      simp only [List.mem_cons] at hc
      have h1 := List.pairwise_cons.1 h.sorted
      rcases hc with rfl | hc
      · have h2 := h1.1 e (by simp)
        have h3 := ih h.tail e (by simp)
        simp only [nextC]
        omega
      · exact ih h.tail c (by simpa using hc)
theorem nextC_bounds {cs : List Cell} (h : Rising cs) : 0 ≤ nextC cs ∧ nextC cs ≤ 1024 := by
  induction cs with
  | nil => simp [nextC]
  | cons d ds ih =>
    cases ds with
    | nil => have := h.good d (by simp); simp [nextC]; obtain ⟨h1, h2, _⟩ := this; omega
    | cons e es => exact ih h.tail
theorem nextC_putC {cs : List Cell} (h : Rising cs) (c : Cell) (hn : ∀ d ∈ cs, d.slot ≠ c.slot) : nextC (putC cs c) = max (nextC cs) (c.slot + 1) ∨ cs = [] := by
  induction cs with
  | nil => exact .inr rfl
  | cons d ds ih =>
    left
    have hge := nextC_ge h d (by simp)
    simp only [putC]
    split
    · rename_i hlt
      simp only [nextC]
      omega
    · rename_i hlt
      have hne := hn d (by simp)
      cases ds with
      | nil => simp only [putC, nextC]; omega
      | cons e es =>
        rcases ih h.tail (fun x hx => hn x (by simp [hx])) with h1 | h1
        · have h2 : ∃ x xs, putC (e :: es) c = x :: xs := by simp only [putC]; split <;> exact ⟨_, _, rfl⟩
          obtain ⟨x, xs, h2⟩ := h2
          rw [h2] at h1 ⊢
          simp only [nextC] at h1 ⊢
          exact h1
        · cases h1
theorem nextC_put {cs : List Cell} (h : Rising cs) (c : Cell) (hc : 0 ≤ c.slot) (hn : ∀ d ∈ cs, d.slot ≠ c.slot) : nextC (putC cs c) = max (nextC cs) (c.slot + 1) := by
  rcases nextC_putC h c hn with h1 | rfl
  · exact h1
  · simp [putC, nextC]; omega
theorem next_free {cs : List Cell} (h : Rising cs) : ∀ d ∈ cs, d.slot ≠ nextC cs := fun d hd e => by have := nextC_ge h d hd; omega

theorem would_written {cs : List Cell} (h : Rising cs) {o : Op} (hw : (would cs o).code = 1) : Good ⟨(would cs o).slot, (would cs o).value⟩ ∧ ∀ d ∈ cs, d.slot ≠ (would cs o).slot := by
  have hb := nextC_bounds h
  unfold would at hw ⊢
  by_cases hc : checkOp o = 0
  · rw [if_neg (by simpa using hc)] at hw ⊢
    unfold checkOp at hc
    by_cases h1 : o.kind = 1
    · rw [if_pos h1] at hw ⊢
      cases hg : getC cs o.slot with
      | some v => simp [hg] at hw
      | none =>
        simp only [hg]
        refine ⟨?_, getC_none.1 hg⟩
        rw [if_pos (.inl h1)] at hc
        split at hc
        · omega
        · split at hc
          · omega
          · exact ⟨by show 0 ≤ o.slot; omega, by show o.slot < 1024; omega, by show o.value.size ≤ 64; omega⟩
    · rw [if_neg h1] at hw ⊢
      by_cases h2 : o.kind = 2
      · rw [if_pos h2] at hw ⊢
        by_cases hf : nextC cs = 1024
        · rw [if_pos hf] at hw; simp at hw
        · rw [if_neg hf]
          refine ⟨?_, next_free h⟩
          rw [if_neg (by omega), if_pos (.inl h2)] at hc
          split at hc
          · omega
          · split at hc
            · omega
            · exact ⟨by show 0 ≤ nextC cs; omega, by show nextC cs < 1024; omega, by show o.value.size ≤ 64; omega⟩
      · rw [if_neg h2] at hw
        by_cases h3 : o.kind = 3
        · rw [if_pos h3] at hw
          cases hg : getC cs o.slot <;> simp [hg] at hw
        · rw [if_neg h3] at hw
          simp at hw
  · rw [if_pos (by simpa using hc)] at hw
    simp [zres] at hw
theorem after_rising {cs : List Cell} (h : Rising cs) (o : Op) : Rising (after cs o) := by
  unfold after
  split
  · rename_i hw
    obtain ⟨h1, h2⟩ := would_written h hw
    exact putC_rising h h1 h2
  · exact h
theorem playC_rising {os : List Op} : ∀ {cs : List Cell}, Rising cs → Rising (playC cs os) := by
  induction os with
  | nil => exact fun h => h
  | cons o os ih => exact fun h => ih (after_rising h o)
theorem playC_append (cs : List Cell) (xs ys : List Op) : playC cs (xs ++ ys) = playC (playC cs xs) ys := by
  induction xs generalizing cs with
  | nil => rfl
  | cons x xs ih => exact ih (after cs x)
theorem playR_append (cs : List Cell) (xs ys : List Op) : playR cs (xs ++ ys) = playR cs xs ++ playR (playC cs xs) ys := by
  induction xs generalizing cs with
  | nil => rfl
  | cons x xs ih => simp only [List.cons_append, playR, playC]; rw [ih]
theorem playR_length (cs : List Cell) (xs : List Op) : (playR cs xs).length = xs.length := by
  induction xs generalizing cs with
  | nil => rfl
  | cons x xs ih => simp [playR, ih]
/-- Two rising lists of the same cells are one. -/
theorem rising_unique {xs ys : List Cell} (h : Rising xs) (g : Rising ys) (hp : xs.Perm ys) : xs = ys :=
  hp.eq_of_pairwise (le := fun a b => a.slot < b.slot) (fun a b _ _ h1 h2 => by omega) h.sorted g.sorted
/-- At most 1024 cells. -/
theorem rising_length {cs : List Cell} (h : Rising cs) : cs.length ≤ 1024 := by
  have key : ∀ (cs : List Cell), Rising cs → ∀ k : Int, 0 ≤ k → (∀ c ∈ cs, k ≤ c.slot) → (cs.length : Int) ≤ 1024 - k ∨ cs = [] := by
    intro cs
    induction cs with
    | nil => intro _ k _ _; exact .inr rfl
    | cons d ds ih =>
      intro h k hk hkc
      obtain ⟨h1, h2⟩ := List.pairwise_cons.1 h.sorted
      have hd := h.good d (by simp)
      have hkd := hkc d (by simp)
      obtain ⟨g1, g2, _⟩ := hd
      rcases ih h.tail (d.slot + 1) (by omega) (fun c hc => by have := h1 c hc; omega) with h3 | rfl
      · left; simp; omega
      · left; simp; omega
  rcases key cs h 0 (by omega) (fun c hc => (h.good c hc).1) with h1 | rfl
  · omega
  · simp
end Go.Proofs.Ytmfidhlhcochoaa
