/- Logs: may an entry stand behind these, may a log be, a client's last number; plain lists. Conditions: none. -/
import Derived.Test.YtbdcpoagdbkgeaaCells
namespace Go.Proofs.Ytbdcpoagdbkgeaa
set_option linter.unusedVariables false
set_option linter.unusedSimpArgs false

def twice (pre : List Entry) (x : Entry) : Bool := pre.any fun y => decide (y.client = x.client ∧ x.number ≤ y.number)
/-- what every entry is asked, whatever stands ahead of it -/
def baseE (x : Entry) : Int :=
  if x.client < 0 ∨ 16 ≤ x.client then 62 else if x.number < 1 then 63 else checkOp x.op
def fitE (pre : List Entry) (x : Entry) : Int := if baseE x ≠ 0 then baseE x else if twice pre x then 64 else 0
def lastN (pre : List Entry) (c : Int) : Option Int := pre.foldl (fun o x => if x.client = c then some x.number else o) none
theorem lastN_nil (c : Int) : lastN [] c = none := rfl
theorem lastN_snoc (pre : List Entry) (x : Entry) (c : Int) : lastN (pre ++ [x]) c = if x.client = c then some x.number else lastN pre c := by simp [lastN]
def fitM (o : Option Int) (x : Entry) : Int :=
  if baseE x ≠ 0 then baseE x else match o with | some n => if x.number ≤ n then 64 else 0 | none => 0
def GoodE (xs : List Entry) : Prop := ∀ i (h : i < xs.length), fitE (xs.take i) xs[i] = 0

theorem snoc_ind {α : Type} {p : List α → Prop} (h0 : p []) (hs : ∀ xs x, p xs → p (xs ++ [x])) (xs : List α) : p xs := by
  have : ∀ ys : List α, p ys.reverse := by
    intro ys
    induction ys with
    | nil => exact h0
    | cons y ys ih => rw [List.reverse_cons]; exact hs _ _ ih
  simpa using this xs.reverse
theorem GoodE.nil : GoodE [] := fun i h => by simp at h
theorem GoodE.snoc {xs : List Entry} {x : Entry} (h : GoodE xs) (hx : fitE xs x = 0) : GoodE (xs ++ [x]) := fun i hi => by
  simp at hi
  by_cases h1 : i < xs.length
  · rw [List.take_append_of_le_length (by omega), List.getElem_append_left h1]; exact h i h1
  · obtain rfl : i = xs.length := by omega
    simpa using hx
theorem GoodE.init {xs : List Entry} {x : Entry} (h : GoodE (xs ++ [x])) : GoodE xs ∧ fitE xs x = 0 := by
  constructor
  · intro i hi
    have := h i (by simp; omega)
    rwa [List.take_append_of_le_length (by omega), List.getElem_append_left hi] at this
  · have := h xs.length (by simp)
    simpa using this
theorem GoodE.take {xs : List Entry} (h : GoodE xs) (n : Nat) : GoodE (xs.take n) := fun i hi => by
  simp at hi
  have := h i (by omega)
  rw [List.take_take, Nat.min_eq_left (by omega)]
  simpa using this
theorem fitE_zero {pre : List Entry} {x : Entry} : fitE pre x = 0 ↔ baseE x = 0 ∧ twice pre x = false := by
  unfold fitE
  by_cases h : baseE x = 0
  · rw [if_neg (by simpa using h)]
    cases twice pre x <;> simp [h]
  · rw [if_pos h]; simp [h]
theorem twice_false {pre : List Entry} {x : Entry} : twice pre x = false ↔ ∀ y ∈ pre, y.client = x.client → y.number < x.number := by
  simp [twice]
/-- In a log that may be a client's last number is its greatest. -/
theorem lastN_spec {xs : List Entry} (h : GoodE xs) (c : Int) : (∀ n, lastN xs c = some n → (∃ y ∈ xs, y.client = c ∧ y.number = n) ∧ ∀ y ∈ xs, y.client = c → y.number ≤ n) ∧ (lastN xs c = none → ∀ y ∈ xs, y.client ≠ c) := by
  refine snoc_ind (p := fun xs => GoodE xs → (∀ n, lastN xs c = some n → (∃ y ∈ xs, y.client = c ∧ y.number = n) ∧ ∀ y ∈ xs, y.client = c → y.number ≤ n) ∧ (lastN xs c = none → ∀ y ∈ xs, y.client ≠ c)) (by simp [lastN_nil]) ?_ xs h
  · intro xs x ih h
    obtain ⟨h1, h2⟩ := h.init
    obtain ⟨i1, i2⟩ := ih h1
    have h3 := twice_false.1 (fitE_zero.1 h2).2
    rw [lastN_snoc]
    by_cases hc : x.client = c
    · rw [if_pos hc]
      refine ⟨fun n hn => ?_, fun hn => by cases hn⟩
      cases hn
      refine ⟨⟨x, by simp, hc, rfl⟩, fun y hy hyc => ?_⟩
      simp at hy
      rcases hy with hy | rfl
      · have := h3 y hy (hyc.trans hc.symm); omega
      · omega
    · rw [if_neg hc]
      refine ⟨fun n hn => ?_, fun hn y hy => ?_⟩
      · obtain ⟨⟨y, hy, j1, j2⟩, j3⟩ := i1 n hn
        refine ⟨⟨y, by simp [hy], j1, j2⟩, fun y hy hyc => ?_⟩
        simp at hy
        rcases hy with hy | rfl
        · exact j3 y hy hyc
        · exact absurd hyc hc
      · simp at hy
        rcases hy with hy | rfl
        · exact i2 hn y hy
        · exact hc
theorem fitM_last {xs : List Entry} (h : GoodE xs) (x : Entry) : fitM (lastN xs x.client) x = fitE xs x := by
  unfold fitM fitE
  split
  · rfl
  · obtain ⟨h1, h2⟩ := lastN_spec h x.client
    cases hl : lastN xs x.client with
    | none =>
      have : twice xs x = false := twice_false.2 fun y hy hc => absurd hc (h2 hl y hy)
      simp [this]
    | some n =>
      obtain ⟨⟨y, hy, hc, rfl⟩, hm⟩ := h1 n hl
      by_cases hn : x.number ≤ y.number
      · have : twice xs x = true := by simp only [twice, List.any_eq_true]; exact ⟨y, hy, by simp [hc, hn]⟩
        simp [this, hn]
      · have : twice xs x = false := twice_false.2 fun z hz hzc => by have := hm z hz hzc; omega
        simp [this, hn]

def badE (xs : List Entry) : Int × Int :=
  match (List.finRange xs.length).find? (fun i => decide (fitE (xs.take i.1) xs[i.1] ≠ 0)) with
  | some i => (fitE (xs.take i.1) xs[i.1], (i.1 : Int) + 1)
  | none => (0, 0)
theorem badE_good {xs : List Entry} (h : GoodE xs) : badE xs = (0, 0) := by
  have : (List.finRange xs.length).find? (fun i => decide (fitE (xs.take i.1) xs[i.1] ≠ 0)) = none := by
    rw [List.find?_eq_none]
    intro i _
    simpa using h i.1 i.2
  simp only [badE, this]
theorem badE_at {xs : List Entry} (i : Nat) (hi : i < xs.length) (h : fitE (xs.take i) xs[i] ≠ 0) (h' : GoodE (xs.take i)) : badE xs = (fitE (xs.take i) xs[i], (i : Int) + 1) := by
  have : (List.finRange xs.length).find? (fun i => decide (fitE (xs.take i.1) xs[i.1] ≠ 0)) = some ⟨i, hi⟩ := by
    rw [List.find?_eq_some_iff_getElem]
    refine ⟨by simpa using h, i, by simpa using hi, by simp, fun j hj => ?_⟩
    have := h' j (by simp; omega)
    rw [List.take_take, Nat.min_eq_left (by omega)] at this
    simpa using this
  simp only [badE, this]
theorem badE_zero {xs : List Entry} : (badE xs).1 = 0 ↔ GoodE xs := by
  constructor
  · intro h
    unfold badE at h
    split at h
    · rename_i i hi
      have := List.find?_some hi
      simp at this h
      exact absurd h this
    · rename_i hn
      rw [List.find?_eq_none] at hn
      intro i hi
      simpa using hn ⟨i, hi⟩ (by simp)
  · intro h; rw [badE_good h]
def chkE (xs : List Entry) (room : Int) : Int × Int :=
  if room < 1 ∨ 256 < room then (3, 0) else if room < xs.length then (60, room) else badE xs
theorem chkE_zero {xs : List Entry} {room : Int} : (chkE xs room).1 = 0 ↔ 1 ≤ room ∧ room ≤ 256 ∧ (xs.length : Int) ≤ room ∧ GoodE xs := by
  unfold chkE
  split
  · simp; omega
  · split
    · simp; omega
    · rw [badE_zero]; constructor
      · intro h; exact ⟨by omega, by omega, by omega, h⟩
      · intro h; exact h.2.2.2
theorem chkE_ok {xs : List Entry} {room : Int} (h : (chkE xs room).1 = 0) : chkE xs room = (0, 0) := by
  obtain ⟨h1, h2, h3, h4⟩ := chkE_zero.1 h
  unfold chkE
  rw [if_neg (by omega), if_neg (by omega)]
  exact badE_good h4
/-- Append's answer. -/
def appE (xs : List Entry) (room : Int) (x : Entry) : Int :=
  if (chkE xs room).1 ≠ 0 then (chkE xs room).1 else if (xs.length : Int) = room then 60 else fitE xs x
/-- Splice's answer. -/
def splE (xs : List Entry) (room at_ : Int) (t : List Entry) : Int :=
  if (chkE xs room).1 ≠ 0 then (chkE xs room).1 else if at_ < 1 ∨ (xs.length : Int) < at_ - 1 then 61 else (chkE (xs.take (at_ - 1).toNat ++ t) room).1

/-- A client's greatest number. -/
def lastE (xs : List Entry) (c : Int) : Int := xs.foldl (fun n x => if x.client = c then max n x.number else n) 0
theorem lastE_snoc (xs : List Entry) (x : Entry) (c : Int) : lastE (xs ++ [x]) c = if x.client = c then max (lastE xs c) x.number else lastE xs c := by simp [lastE]
theorem take_snoc {α : Type} {xs : List α} {k : Nat} (h : k < xs.length) : xs.take (k + 1) = xs.take k ++ [xs[k]] := by
  rw [List.take_succ_eq_append_getElem h]
end Go.Proofs.Ytbdcpoagdbkgeaa
