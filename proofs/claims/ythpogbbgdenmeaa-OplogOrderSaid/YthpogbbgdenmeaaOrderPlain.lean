/- What OplogOrder says of plain lists: how much two beginnings of one log share. Conditions: none. -/
import Derived.Test.YthpogbbgdenmeaaGrow
import Derived.Test.YthpogbbgdenmeaaCommon
namespace Go.Proofs.Ythpogbbgdenmeaa
set_option linter.unusedVariables false
set_option linter.unusedSimpArgs false

theorem common_app (u s t : List Entry) : common (u ++ s) (u ++ t) = u.length + common s t := by
  induction u with
  | nil => simp
  | cons x u ih => simp [common, ih]; omega
theorem common_nil_left (t : List Entry) : common [] t = 0 := by cases t <;> rfl
theorem common_nil_right (t : List Entry) : common t [] = 0 := by cases t <;> rfl
theorem common_comm (s t : List Entry) : common s t = common t s := by
  induction s generalizing t with
  | nil => rw [common_nil_left, common_nil_right]
  | cons x s ih =>
    cases t with
    | nil => rfl
    | cons y t =>
      simp only [common]
      rw [ih t]
      by_cases h : x = y
      · subst h; rfl
      · rw [if_neg h, if_neg (fun e => h e.symm)]
theorem common_takes (l : List Entry) (p q : Nat) (hp : p ≤ l.length) (hq : q ≤ l.length) : common (l.take p) (l.take q) = min p q := by
  rcases Nat.le_total p q with h | h
  · obtain ⟨d, rfl⟩ : ∃ d, q = p + d := ⟨q - p, by omega⟩
    rw [List.take_add]
    have := common_app (l.take p) [] ((l.drop p).take d)
    rw [List.append_nil, common_nil_left] at this
    rw [this, List.length_take]
    omega
  · obtain ⟨d, rfl⟩ : ∃ d, p = q + d := ⟨p - q, by omega⟩
    rw [List.take_add]
    have := common_app (l.take q) ((l.drop q).take d) []
    rw [List.append_nil, common_nil_right] at this
    rw [this, List.length_take]
    omega
/-- the last one's number turned -/
def marked (l : List Entry) (q : Nat) (h : q < l.length) : List Entry := l.take q ++ [{ l[q] with number := -1 }]
theorem marked_length (l : List Entry) (q : Nat) (h : q < l.length) : (marked l q h).length = q + 1 := by simp [marked]; omega
theorem common_marked (l : List Entry) (p q : Nat) (hp : p ≤ l.length) (h : q < l.length) (hn : l[q].number ≠ -1) : common (l.take p) (marked l q h) = min p q := by
  unfold marked
  rcases Nat.lt_or_ge q p with h1 | h1
  · obtain ⟨d, rfl⟩ : ∃ d, p = q + d := ⟨p - q, by omega⟩
    rw [List.take_add, common_app, List.length_take]
    have : common ((l.drop q).take d) [{ l[q] with number := -1 }] = 0 := by
      rw [List.drop_eq_getElem_cons h]
      obtain ⟨e, rfl⟩ : ∃ e, d = e + 1 := ⟨d - 1, by omega⟩
      rw [List.take_succ_cons]
      simp only [common]
      rw [if_neg (fun e => hn (by rw [e]))]
    omega
  · obtain ⟨d, rfl⟩ : ∃ d, q = p + d := ⟨q - p, by omega⟩
    rw [List.take_add, List.append_assoc]
    have := common_app (l.take p) [] ((l.drop p).take d ++ [{ l[p + d] with number := -1 }])
    rw [List.append_nil, common_nil_left] at this
    rw [this, List.length_take]
    omega
end Go.Proofs.Ythpogbbgdenmeaa
