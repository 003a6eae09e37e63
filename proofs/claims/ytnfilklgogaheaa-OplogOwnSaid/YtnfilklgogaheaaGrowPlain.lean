/- What OplogGrows, OplogWhole say of plain lists. Conditions: none. -/
import Derived.Test.YtnfilklgogaheaaGrow
namespace Go.Proofs.Ytnfilklgogaheaa
set_option linter.unusedVariables false
set_option linter.unusedSimpArgs false

theorem badE_snoc {l : List Entry} (h : GoodE l) (x : Entry) : (badE (l ++ [x])).1 = fitE l x := by
  by_cases hx : fitE l x = 0
  · rw [badE_good (h.snoc hx), hx]
  · have h1 : l.length < (l ++ [x]).length := by simp
    have e1 : (l ++ [x]).take l.length = l := by simp
    have e2 : (l ++ [x])[l.length]'h1 = x := by simp
    have := badE_at l.length h1 (by rw [e1, e2]; exact hx) (by rw [e1]; exact h)
    rw [this, e1, e2]
theorem spl_app {l : List Entry} (h : GoodE l) {room : Int} {x : Entry} (h1 : 1 ≤ room) (h2 : room ≤ 256) (h3 : (l.length : Int) ≤ room) : splE l room ((l.length : Int) + 1) [x] = appE l room x := by
  have hc : (chkE l room).1 = 0 := chkE_zero.2 ⟨h1, h2, h3, h⟩
  unfold splE appE
  rw [if_neg (by simpa using hc), if_neg (show ¬ ((l.length : Int) + 1 < 1 ∨ (l.length : Int) < (l.length : Int) + 1 - 1) by omega), if_neg (by simpa using hc)]
  have e : ((l.length : Int) + 1 - 1).toNat = l.length := by omega
  rw [e, List.take_length]
  unfold chkE
  rw [if_neg (by omega)]
  by_cases h4 : (l.length : Int) = room
  · rw [if_pos (by simp; omega), if_pos h4]
  · rw [if_neg (by simp; omega), if_neg h4, badE_snoc h]
theorem spl_list (l : List Entry) (x : Entry) : l.take ((l.length : Int) + 1 - 1).toNat ++ [x] = l ++ [x] := by
  have e : ((l.length : Int) + 1 - 1).toNat = l.length := by omega
  rw [e, List.take_length]
def dflt : Entry := ⟨0, 1, ⟨4, 0, ⟨#[]⟩⟩⟩
theorem app_full {l : List Entry} (h : GoodE l) {room : Int} {x : Entry} (h1 : 1 ≤ room) (h2 : room ≤ 256) (h3 : (l.length : Int) = room) : appE l room x = 60 := by
  have hc : (chkE l room).1 = 0 := chkE_zero.2 ⟨h1, h2, by omega, h⟩
  unfold appE
  rw [if_neg (by simpa using hc), if_pos h3]
theorem app_twice {l : List Entry} (h : GoodE l) {room : Int} {x : Entry} (h1 : 1 ≤ room) (h2 : room ≤ 256) (h3 : (l.length : Int) < room) (hx : x ∈ l) : appE l room x = 64 := by
  have hc : (chkE l room).1 = 0 := chkE_zero.2 ⟨h1, h2, by omega, h⟩
  unfold appE
  rw [if_neg (by simpa using hc), if_neg (by omega)]
  have hb := h.base hx
  have ht : twice l x = true := by
    simp only [twice, List.any_eq_true]
    exact ⟨x, hx, by simp⟩
  unfold fitE
  rw [if_neg (by simpa using hb), ht]
  rfl
theorem app_first {room : Int} (h1 : 1 ≤ room) (h2 : room ≤ 256) : appE [] room dflt = 0 := by
  have hc : (chkE [] room).1 = 0 := chkE_zero.2 ⟨h1, h2, by simp; omega, GoodE.nil⟩
  unfold appE
  rw [if_neg (by simpa using hc), if_neg (by simp; omega)]
  decide
/-- What Check may say of a piece of a good log with another good log behind it. -/
theorem spl_says {l t : List Entry} (hl : GoodE l) (ht : GoodE t) {room : Int} {n : Nat} (h1 : 1 ≤ room) (h2 : room ≤ 256) : (chkE (l.take n ++ t) room).1 = 0 ∨ (chkE (l.take n ++ t) room).1 = 60 ∨ (chkE (l.take n ++ t) room).1 = 64 := by
  unfold chkE
  rw [if_neg (by omega)]
  split
  · exact .inr (.inl rfl)
  · unfold badE
    split
    · rename_i i hi
      have hb : baseE (l.take n ++ t)[i.1] = 0 := by
        have hm : (l.take n ++ t)[i.1] ∈ l.take n ++ t := List.getElem_mem _
        rcases List.mem_append.1 hm with h | h
        · exact hl.base (List.mem_of_mem_take h)
        · exact ht.base h
      simp only
      unfold fitE
      rw [if_neg (by simpa using hb)]
      split
      · exact .inr (.inr rfl)
      · exact .inl rfl
    · exact .inl rfl
end Go.Proofs.Ytnfilklgogaheaa
