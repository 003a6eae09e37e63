/- An element stored into a row of the call's own. Plain memory. Conditions: the place lies in the row. -/
import Derived.Test.YtmfidhlhcochoaaApp
namespace Go.Proofs.Ytmfidhlhcochoaa
open Go.RowKit
set_option linter.unusedVariables false
set_option linter.unusedSimpArgs false

def putCells (w : World) (g : Nat) : Nat → List Value → World
  | _, [] => w
  | o, u :: us => putCells (w.setCell ⟨g, o, none⟩ u) g (o + 1) us
def setMany (L : List Value) : Nat → List Value → List Value
  | _, [] => L
  | j, u :: us => setMany (L.set j u) (j + 1) us
theorem setMany_length (us : List Value) : ∀ (L : List Value) (j : Nat), (setMany L j us).length = L.length := by
  induction us with
  | nil => intro L j; rfl
  | cons u us ih => intro L j; rw [setMany, ih]; simp
theorem setMany_get (us : List Value) : ∀ (L : List Value) (j m : Nat), j + us.length ≤ L.length → (setMany L j us)[m]? = if j ≤ m ∧ m < j + us.length then us[m - j]? else L[m]? := by
  induction us with
  | nil => intro L j m h; rw [setMany, if_neg (by simp)]
  | cons u us ih =>
    intro L j m h
    simp only [List.length_cons] at h
    rw [setMany, ih _ _ _ (by simp; omega)]
    by_cases h1 : m = j
    · subst h1
      rw [if_neg (by omega), if_pos (by simp), List.getElem?_set_self (by omega)]
      simp
    · by_cases h2 : j + 1 ≤ m ∧ m < j + 1 + us.length
      · rw [if_pos h2, if_pos (by simp only [List.length_cons]; omega), show m - j = (m - (j + 1)) + 1 by omega, List.getElem?_cons_succ]
      · rw [if_neg h2, if_neg (by simp only [List.length_cons]; omega), List.getElem?_set_ne (by omega)]
theorem ownsRow_put {base e size g n cap : Nat} (us : List Value) : ∀ {w : World} {L : List Value} (j : Nat), w.ownsRow base e size (.slice (some ⟨g, 0, none⟩) n cap) n L → (putCells w g j us).ownsRow base e size (.slice (some ⟨g, 0, none⟩) n cap) n (setMany L j us) := by
  induction us with
  | nil => intro w L j h; exact h
  | cons u us ih => intro w L j h; exact ih (j + 1) (h.stored j u).1
theorem flat_set {α : Type} {enc : α → List Value} {k : Nat} (hk : ∀ x, (enc x).length = k) (hp : 0 < k) (xs : List α) (i : Nat) (hi : i < xs.length) (x : α) : flat enc (xs.set i x) = setMany (flat enc xs) (i * k) (enc x) := by
  have hl := flat_length hk xs
  have hl' := flat_length hk (xs.set i x)
  have hm : i * k + k ≤ xs.length * k := by rw [← Nat.succ_mul]; exact Nat.mul_le_mul_right _ hi
  apply List.ext_getElem?
  intro m
  rw [setMany_get _ _ _ _ (by rw [hl, hk]; exact hm), hk]
  by_cases hm2 : m < xs.length * k
  · have hd : m / k < xs.length := Nat.div_lt_of_lt_mul (by rw [Nat.mul_comm]; exact hm2)
    have hr : m % k < k := Nat.mod_lt _ hp
    have hmm : m / k * k + m % k = m := by rw [Nat.mul_comm]; exact Nat.div_add_mod m k
    have get : ∀ (ys : List α) (hy : m / k < ys.length), (flat enc ys)[m]? = (enc ys[m / k])[m % k]? := fun ys hy => by
      have h1 : m % k < (enc ys[m / k]).length := by rw [hk]; exact hr
      have := flat_get hk ys (m / k) (m % k) _ _ (List.getElem?_eq_getElem hy) (List.getElem?_eq_getElem h1)
      rw [hmm] at this
      rw [this, List.getElem?_eq_getElem h1]
    rw [get (xs.set i x) (by simpa using hd), get xs hd]
    by_cases he : m / k = i
    · have h2 : i * k ≤ m ∧ m < i * k + k := by rw [← he]; omega
      rw [if_pos h2, show m - i * k = m % k by rw [← he]; omega]
      simp [he]
    · have h2 : ¬ (i * k ≤ m ∧ m < i * k + k) := by
        rintro ⟨h3, h4⟩
        apply he
        refine Nat.div_eq_of_lt_le h3 ?_
        rw [Nat.succ_mul]; exact h4
      rw [if_neg h2, List.getElem_set_ne (fun e => he e.symm)]
  · rw [List.getElem?_eq_none (by rw [hl']; simp; omega), if_neg (by omega), List.getElem?_eq_none (by rw [hl]; omega)]

section
variable {α : Type} {enc : α → List Value} {k : Nat} {e : TypeId} {base : Nat} {w : World} {xs : List α} {c : Nat} {ad : Addr}
theorem Made.head (h : Made enc k e base w (.slice (some ad) xs.length c) xs) : ∃ g, ad = ⟨g, 0, none⟩ ∧ base ≤ g ∧ g < w.heap.size := by
  rcases h.2 with ⟨hv, _⟩ | ⟨g, cap, cur, hv, hb, hg, _⟩
  · cases hv
  · injection hv with h1 h2 h3
    injection h1 with h1
    exact ⟨g, h1, hb, (Array.getElem?_eq_some_iff.1 hg).1⟩
/-- What is known at the place of element i: its cells, and that none is frozen. -/
theorem Made.place (hk : ∀ x, (enc x).length = k) {g : Nat} (h : Made enc k e base w (.slice (some ⟨g, 0, none⟩) xs.length c) xs) {i : Nat} (hi : i < xs.length) (j : Nat) (hj : j < k) : (∃ u, w.cell? ⟨g, i * k + j, none⟩ = some u) ∧ w.frozen? ⟨g, i * k + j, none⟩ = false := by
  have hm : i * k + k ≤ xs.length * k := by rw [← Nat.succ_mul]; exact Nat.mul_le_mul_right _ hi
  have h1 := World.ownsRow.cellAt h (i * k + j) (by omega)
  refine ⟨?_, World.ownsRow.frozenAt h _⟩
  rw [h1]
  have hl := flat_length hk xs
  exact ⟨_, List.getElem?_eq_getElem (by rw [hl]; omega)⟩
theorem Made.put (hk : ∀ x, (enc x).length = k) (hp : 0 < k) {g : Nat} (h : Made enc k e base w (.slice (some ⟨g, 0, none⟩) xs.length c) xs) {i : Nat} (hi : i < xs.length) (x : α) :
    Made enc k e base (putCells w g (i * k) (enc x)) (.slice (some ⟨g, 0, none⟩) (xs.set i x).length c) (xs.set i x) := by
  have := ownsRow_put (enc x) (i * k) h
  unfold Made
  rw [flat_set hk hp xs i hi x, List.length_set]
  exact this
end
theorem addr_at (g o : Nat) : (⟨g, 0, none⟩ : Addr).add o = ⟨g, o, none⟩ := by unfold Addr.add; split <;> simp_all
theorem putCells_block {us : List Value} : ∀ {w : World} {g o : Nat} {b : Nat}, b ≠ g → (putCells w g o us).heap[b]? = w.heap[b]? := by
  induction us with
  | nil => intro w g o b h; rfl
  | cons u us ih => intro w g o b h; rw [putCells, ih h, Below.heap_setCell _ _ _ _ (by simpa using h)]
theorem putCells_size {us : List Value} : ∀ {w : World} {g o : Nat}, (putCells w g o us).heap.size = w.heap.size := by
  induction us with
  | nil => intro w g o; rfl
  | cons u us ih => intro w g o; rw [putCells, ih]; simp [World.setCell]
theorem putCells_kept {us : List Value} : ∀ {w : World} {g o : Nat}, Kept (fun k => k = g) w (putCells w g o us) := by
  induction us with
  | nil => intro w g o; exact Kept.refl _ _
  | cons u us ih =>
    intro w g o
    have h1 : Kept (fun k => k = g) w (w.setCell ⟨g, o, none⟩ u) := Kept.setCell (Kept.refl (fun k => k = g) w) (p := ⟨g, o, none⟩) (fun _ => rfl) u
    exact h1.trans ih
end Go.Proofs.Ytmfidhlhcochoaa
