/- A range over a map keyed by int, in whatever order: the iterator, its step; over any program. Conditions: none. -/
import Derived.Test.YtmfidhlhcochoaaMap
import Derived.Maps.RangeRun
namespace Go.Proofs.Ytmfidhlhcochoaa
open Go.RowKit
set_option linter.unusedVariables false
set_option linter.unusedSimpArgs false

/-- Block r is an iterator over the map in block mb (which reads as ps); these are yet to come. -/
def RangeIs {α : Type} (ev : α → Value) (w : World) (mb r : Nat) (ps left : List (Int × α)) : Prop :=
  ∃ (es : Array MapEntry) (clock since : Nat) (seen : Array Nat) (c0 : Nat), w.heap[mb]? = some (.map es clock) ∧ es.toList.map (fun e => (e.key, e.val)) = ps.map (fun p => (Value.int .i64 p.1, ev p.2)) ∧
    (ps.map (·.1)).Nodup ∧ (es.toList.map (·.born)).Nodup ∧ (∀ e ∈ es.toList, e.born < clock) ∧ w.heap[r]? = some (.mapIter (some mb) since seen c0) ∧ (∀ x ∈ es.toList, x.born < since) ∧ since ≤ c0 ∧ since ≤ clock ∧
    (leftOf es seen).toList.map (fun e => (e.key, e.val)) = left.map (fun p => (Value.int .i64 p.1, ev p.2))
section
variable {α : Type} {ev : α → Value} {w w' : World} {mb r : Nat} {ps left : List (Int × α)} {P : Program} {T K E : TypeId}
theorem RangeIs.map (h : RangeIs ev w mb r ps left) : MapIs ev w mb ps := by
  obtain ⟨es, c, s, seen, c0, h1, h2, h3, h4, h5, _⟩ := h
  exact ⟨es, c, h1, h2, h3, h4, h5⟩
theorem RangeIs.same (h : RangeIs ev w mb r ps left) (h1 : w'.heap[mb]? = w.heap[mb]?) (h2 : w'.heap[r]? = w.heap[r]?) : RangeIs ev w' mb r ps left := by
  obtain ⟨es, c, s, seen, c0, hb, a, b, d, e, hr, rest⟩ := h
  exact ⟨es, c, s, seen, c0, h1.trans hb, a, b, d, e, h2.trans hr, rest⟩
theorem RangeIs.lt (h : RangeIs ev w mb r ps left) : mb < w.heap.size ∧ r < w.heap.size := by
  obtain ⟨es, c, s, seen, c0, hb, a, b, d, e, hr, rest⟩ := h
  exact ⟨(Array.getElem?_eq_some_iff.1 hb).1, (Array.getElem?_eq_some_iff.1 hr).1⟩
theorem RangeIs.ne (h : RangeIs ev w mb r ps left) : mb ≠ r := by
  obtain ⟨es, c, s, seen, c0, hb, a, b, d, e, hr, rest⟩ := h
  rintro rfl
  rw [hb] at hr; cases hr
theorem leftOf_none (es : Array MapEntry) : leftOf es #[] = es := by
  unfold leftOf
  exact Array.filter_eq_self.2 (fun x _ => by simp)
theorem MapIs.range (h : MapIs ev w mb ps) (hT : P.underlying T = some (.map K E)) :
    (Instr.range T (.map (some mb))).run P w = .ok (.pointer (some ⟨w.heap.size, 0, none⟩)) (w.alloc (.mapIter (some mb) (match w.heap[mb]? with | some (.map _ c) => c | _ => 0) #[] (match w.heap[mb]? with | some (.map _ c) => c | _ => 0))) ∧
      RangeIs ev (w.alloc (.mapIter (some mb) (match w.heap[mb]? with | some (.map _ c) => c | _ => 0) #[] (match w.heap[mb]? with | some (.map _ c) => c | _ => 0))) mb w.heap.size ps ps := by
  have hlt := h.lt
  obtain ⟨es, c, hb, h2, h3, h4, h5⟩ := h
  rw [hb]
  simp only
  refine ⟨run_range_map w T K E mb es c hT hb, es, c, c, #[], c, (heap_alloc_old w _ hlt).trans hb, h2, h3, h4, h5, heap_alloc_new w _, h5, Nat.le_refl _, Nat.le_refl _, ?_⟩
  rw [leftOf_none]
  exact h2
theorem perm_eraseAt {β : Type} (l : List β) (i : Nat) (h : i < l.length) : (l[i] :: l.eraseIdx i).Perm l := by
  induction l generalizing i with
  | nil => simp at h
  | cons x l ih =>
    cases i with
    | zero => exact List.Perm.refl _
    | succ i =>
      simp only [List.getElem_cons_succ, List.eraseIdx_cons_succ]
      exact (List.Perm.swap _ _ _).trans ((ih i (by simpa using h)).cons _)
theorem map_eraseAt {β γ : Type} (f : β → γ) (l : List β) (i : Nat) : (l.eraseIdx i).map f = (l.map f).eraseIdx i := by
  induction l generalizing i with
  | nil => rfl
  | cons x l ih =>
    cases i with
    | zero => rfl
    | succ i => simp only [List.eraseIdx_cons_succ, List.map_cons, ih]
theorem filter_eraseIdx {L : List MapEntry} (hn : (L.map (·.born)).Nodup) {i : Nat} (hi : i < L.length) : L.filter (fun x => !(x.born == L[i].born)) = L.eraseIdx i := by
  induction L generalizing i with
  | nil => simp at hi
  | cons x L ih =>
    obtain ⟨h1, h2⟩ := List.nodup_cons.1 hn
    cases i with
    | zero =>
      simp only [List.getElem_cons_zero, List.eraseIdx_cons_zero, List.filter_cons, beq_self_eq_true, Bool.not_true, Bool.false_eq_true, if_false]
      rw [List.filter_eq_self]
      intro y hy
      have : y.born ≠ x.born := fun e => h1 (List.mem_map.2 ⟨y, hy, e⟩)
      simpa using this
    | succ i =>
      have hi' : i < L.length := by simpa using hi
      simp only [List.getElem_cons_succ, List.eraseIdx_cons_succ, List.filter_cons]
      have : x.born ≠ L[i].born := fun e => h1 (List.mem_map.2 ⟨L[i], List.getElem_mem hi', e.symm⟩)
      rw [if_pos (by simpa using this), ih h2 hi']
theorem leftOf_push (es : Array MapEntry) (seen : Array Nat) (hn : (es.toList.map (·.born)).Nodup) {i : Nat} (hi : i < (leftOf es seen).toList.length) : (leftOf es (seen.push (leftOf es seen).toList[i].born)).toList = (leftOf es seen).toList.eraseIdx i := by
  have hsub : (leftOf es seen).toList = es.toList.filter (fun x => !seen.contains x.born) := by unfold leftOf; rw [Array.toList_filter]
  have hnl : ((leftOf es seen).toList.map (·.born)).Nodup := by
    rw [hsub]
    exact hn.sublist ((List.filter_sublist).map _)
  rw [← filter_eraseIdx hnl hi]
  have h2 : (leftOf es (seen.push (leftOf es seen).toList[i].born)).toList = es.toList.filter (fun x => !(seen.push (leftOf es seen).toList[i].born).contains x.born) := by unfold leftOf; rw [Array.toList_filter]
  rw [h2]
  generalize (leftOf es seen).toList[i].born = b
  rw [hsub, List.filter_filter]
  congr 1
  funext x
  rw [contains_push]
  cases seen.contains x.born <;> cases (x.born == b) <;> rfl
theorem RangeIs.next (h : RangeIs ev w mb r ps left) (ty : TypeId) :
    (left = [] ∧ (Instr.next (.pointer (some ⟨r, 0, none⟩)) false ty).run P w = .ok (.tuple #[.bool false]) w) ∨
    ∃ k u left' w', left.Perm ((k, u) :: left') ∧ (Instr.next (.pointer (some ⟨r, 0, none⟩)) false ty).run P w = .ok (.tuple #[.bool true, .int .i64 k, ev u]) w' ∧ RangeIs ev w' mb r ps left' ∧
      w.grownBy w' (some r) ∧ w'.heap.size = w.heap.size ∧ (Instr.entry (.pointer (some ⟨r, 0, none⟩))).run P w' = .ok (.tuple #[.int .i64 k, ev u]) w' := by
  have hne := h.ne
  have hlt := h.lt
  obtain ⟨es, clock, since, seen, c0, hb, a, b, d, e, hr, hold, hsc, hsk, hleft⟩ := h
  rcases run_next_at (P := P) w ty r mb since c0 seen es clock hr hb hold hsc with ⟨h0, hrun⟩ | ⟨x, hx, w1, hal, hrun⟩
  · refine .inl ⟨?_, hrun⟩
    have h1 := congrArg List.length hleft
    simp only [List.length_map, Array.length_toList] at h1
    rw [h0] at h1
    exact List.eq_nil_of_length_eq_zero h1.symm
  · right
    obtain ⟨i, hi, rfl⟩ := List.mem_iff_getElem.1 hx
    have hlen := congrArg List.length hleft
    simp only [List.length_map] at hlen
    have hil : i < left.length := by omega
    have hkey := congrArg (fun l => l[i]?) hleft
    simp only [List.getElem?_map, List.getElem?_eq_getElem hi, List.getElem?_eq_getElem hil, Option.map_some, Option.some.injEq, Prod.mk.injEq] at hkey
    have hr1 : w1.heap[r]? = some (.mapIter (some mb) since seen c0) := by rcases hal with rfl | rfl <;> exact hr
    have hb1 : w1.heap[mb]? = some (.map es clock) := by rcases hal with rfl | rfl <;> exact hb
    have hset := MapKept.heap_set (o' := .mapIter (some mb) since (seen.push (leftOf es seen).toList[i].born) clock) hr1
    have hb' : (Go.ChangeMaps.setBlock w1 r (.mapIter (some mb) since (seen.push (leftOf es seen).toList[i].born) clock)).heap[mb]? = some (.map es clock) := (hset.2 mb hne).trans hb1
    have hr' : (Go.ChangeMaps.setBlock w1 r (.mapIter (some mb) since (seen.push (leftOf es seen).toList[i].born) clock)).heap[r]? = some (.mapIter (some mb) since (seen.push (leftOf es seen).toList[i].born) clock) := hset.1
    have hent := run_entry_at (P := P) _ r mb since seen es clock (leftOf es seen).toList[i] hr' hb' (mem_left hx).1 d
    rw [hkey.1, hkey.2] at hrun hent
    refine ⟨left[i].1, left[i].2, left.eraseIdx i, _, ?_, hrun, ⟨es, clock, since, seen.push (leftOf es seen).toList[i].born, clock, hb', a, b, d, e, hr', hold, hsk, hsk, ?_⟩, ?_, ?_, hent⟩
    · exact (perm_eraseAt left i hil).symm
    · rw [leftOf_push es seen d hi, map_eraseAt, hleft, map_eraseAt]
    · rcases hal with rfl | rfl <;> exact ⟨rfl, rfl, rfl, by simp [Go.ChangeMaps.setBlock], fun j _ hj => hset.2 j (fun e1 => hj (by rw [e1]))⟩
    · rcases hal with rfl | rfl <;> simp [Go.ChangeMaps.setBlock]
end
end Go.Proofs.Ytmfidhlhcochoaa
