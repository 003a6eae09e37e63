/- Logs that grow entry by entry: what the next entry must be; plain lists. Conditions: none. -/
import Derived.Test.YtnfilklgogaheaaLog
namespace Go.Proofs.Ytnfilklgogaheaa
set_option linter.unusedVariables false
set_option linter.unusedSimpArgs false

theorem GoodE.base {xs : List Entry} (h : GoodE xs) {y : Entry} (hy : y ∈ xs) : baseE y = 0 := by
  obtain ⟨i, hi, rfl⟩ := List.mem_iff_getElem.1 hy
  exact (fitE_zero.1 (h i hi)).1
theorem baseE_zero {y : Entry} (h : baseE y = 0) : 0 ≤ y.client ∧ y.client < 16 ∧ 1 ≤ y.number ∧ checkOp y.op = 0 := by
  unfold baseE at h
  split at h
  · omega
  · split at h
    · omega
    · exact ⟨by omega, by omega, by omega, h⟩
theorem checkOp_size {o : Op} (h : checkOp o = 0) : o.value.size ≤ 64 := by
  unfold checkOp at h
  repeat' split at h
  all_goals first | omega | (split at * <;> omega)
theorem GoodE.vals {xs : List Entry} (h : GoodE xs) : ∀ x ∈ xs, x.op.value.size ≤ 9223372036854775807 := fun x hx => by
  have := checkOp_size (baseE_zero (h.base hx)).2.2.2
  omega
def lastD (xs : List Entry) (c : Int) : Int := (lastN xs c).getD 0
theorem lastD_nil (c : Int) : lastD [] c = 0 := rfl
theorem lastD_take {xs : List Entry} {i : Nat} (h : i < xs.length) (c : Int) : lastD (xs.take (i + 1)) c = if xs[i].client = c then xs[i].number else lastD (xs.take i) c := by
  unfold lastD
  rw [take_snoc h, lastN_snoc]
  split <;> rfl
theorem lastD_bounds {xs : List Entry} (h : GoodE xs) {M : Int} (hM : 0 ≤ M) (hn : ∀ x ∈ xs, x.number ≤ M) (c : Int) : 0 ≤ lastD xs c ∧ lastD xs c ≤ M := by
  unfold lastD
  cases hl : lastN xs c with
  | none => simp [hM]
  | some n =>
    obtain ⟨⟨y, hy, _, rfl⟩, _⟩ := (lastN_spec h c).1 n hl
    have := (baseE_zero (h.base hy)).2.2.1
    have := hn y hy
    simp
    omega
theorem grow_fit {xs : List Entry} (h : GoodE xs) {c u : Int} {o : Op} (h0 : 0 ≤ c) (h1 : c < 16) (hu : 0 ≤ u) (ho : checkOp o = 0) : fitE xs ⟨c, lastD xs c + 1 + u, o⟩ = 0 := by
  refine fitE_zero.2 ⟨?_, twice_false.2 fun y hy hc => ?_⟩
  · have h2 : 0 ≤ lastD xs c := by
      unfold lastD
      cases hl : lastN xs c with
      | none => simp
      | some n =>
        obtain ⟨⟨y, hy, _, rfl⟩, _⟩ := (lastN_spec h c).1 n hl
        have := (baseE_zero (h.base hy)).2.2.1
        simp
        omega
    unfold baseE
    rw [if_neg (by simp; omega), if_neg (by simp; omega)]
    exact ho
  · obtain ⟨s1, s2⟩ := lastN_spec h c
    simp only at hc ⊢
    unfold lastD
    cases hl : lastN xs c with
    | none => exact absurd hc (s2 hl y hy)
    | some n => have := (s1 n hl).2 y hy hc; simp; omega
theorem grow_app {xs : List Entry} (h : GoodE xs) {room c u : Int} {o : Op} (hr1 : 1 ≤ room) (hr2 : room ≤ 256) (hl : (xs.length : Int) < room) (h0 : 0 ≤ c) (h1 : c < 16) (hu : 0 ≤ u) (ho : checkOp o = 0) : appE xs room ⟨c, lastD xs c + 1 + u, o⟩ = 0 := by
  unfold appE
  rw [if_neg (by simpa using chkE_zero.2 ⟨hr1, hr2, by omega, h⟩), if_neg (by omega)]
  exact grow_fit h h0 h1 hu ho
theorem app_good {xs : List Entry} {room : Int} {x : Entry} (h : appE xs room x = 0) : GoodE (xs ++ [x]) := by
  unfold appE at h
  split at h
  · omega
  · rename_i h1
    split at h
    · omega
    · exact (chkE_zero.1 (by simpa using h1)).2.2.2.snoc h
theorem op_fits {k s : Int} {v : ByteArray} (hk : 0 ≤ k) (hk' : k < 4) (hs : 0 ≤ s) (hs' : s < 1024) (hv : v.size ≤ 64) (h1 : 1 + k = 2 ∨ 1 + k = 4 → s = 0) (h2 : 1 + k = 3 ∨ 1 + k = 4 → v.size = 0) : checkOp ⟨1 + k, s, v⟩ = 0 := by
  unfold checkOp
  simp only
  by_cases a : 1 + k = 1
  · rw [if_pos (.inl a), if_neg (by omega), if_neg (by rw [if_pos a]; omega)]
  · by_cases b : 1 + k = 3
    · rw [if_pos (.inr b), if_neg (by omega), if_neg (by rw [if_neg a, h2 (.inl b)]; omega)]
    · rw [if_neg (by omega)]
      by_cases d : 1 + k = 2
      · rw [if_pos (.inl d), if_neg (by have := h1 (.inl d); omega), if_neg (by rw [if_pos d]; omega)]
      · have e : 1 + k = 4 := by omega
        rw [if_pos (.inr e), if_neg (by have := h1 (.inr e); omega), if_neg (by rw [if_neg d, h2 (.inr e)]; omega)]
end Go.Proofs.Ytnfilklgogaheaa
