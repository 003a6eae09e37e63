/- Maps keyed by int, read as association lists: look-up, store, len; over any program. Conditions: none. -/
import Derived.Test.YtmfidhlhcochoaaMem
import Derived.MapKept
import Derived.RangeFuncRecord
import Derived.Maps.OwnOps
import Derived.Maps.OwnSet
import Derived.Maps.RangeWalk
namespace Go.Proofs.Ytmfidhlhcochoaa
open Go.RowKit
set_option linter.unusedVariables false
set_option linter.unusedSimpArgs false

section assoc
variable {α : Type}
def look (ps : List (Int × α)) (k : Int) : Option α := (ps.find? (fun p => p.1 == k)).map (·.2)
def setP : List (Int × α) → Int → α → List (Int × α)
  | [], k, v => [(k, v)]
  | p :: ps, k, v => if p.1 = k then (k, v) :: ps else p :: setP ps k v
theorem look_cons (p : Int × α) (ps : List (Int × α)) (k : Int) : look (p :: ps) k = if p.1 = k then some p.2 else look ps k := by
  by_cases h : p.1 = k
  · simp [look, h]
  · have : (p.1 == k) = false := by simpa using h
    simp [look, this, h]
theorem look_none {ps : List (Int × α)} {k : Int} : look ps k = none ↔ ∀ p ∈ ps, p.1 ≠ k := by simp [look]
theorem look_setP (ps : List (Int × α)) (k : Int) (v : α) (j : Int) : look (setP ps k v) j = if k = j then some v else look ps j := by
  induction ps with
  | nil => simp only [setP, look_cons]
  | cons p ps ih =>
    simp only [setP]
    split
    · rename_i h
      simp only [look_cons]
      by_cases hj : k = j
      · simp [hj]
      · rw [if_neg hj, if_neg hj, if_neg (by omega)]
    · rename_i h
      rw [look_cons, ih, look_cons]
      by_cases hp : p.1 = j
      · rw [if_pos hp, if_pos hp, if_neg (by omega)]
      · rw [if_neg hp, if_neg hp]
theorem setP_absent {ps : List (Int × α)} {k : Int} {v : α} (h : ∀ p ∈ ps, p.1 ≠ k) : setP ps k v = ps ++ [(k, v)] := by
  induction ps with
  | nil => rfl
  | cons p ps ih =>
    simp only [setP]
    rw [if_neg (h p (by simp)), ih (fun q hq => h q (by simp [hq]))]
    rfl
theorem keys_setP (ps : List (Int × α)) (k : Int) (v : α) : (setP ps k v).map (·.1) = if k ∈ ps.map (·.1) then ps.map (·.1) else ps.map (·.1) ++ [k] := by
  induction ps with
  | nil => simp [setP]
  | cons p ps ih =>
    simp only [setP]
    split
    · rename_i h
      subst h
      simp
    · rename_i h
      simp only [List.map_cons, ih]
      by_cases hk : k ∈ ps.map (·.1)
      · rw [if_pos hk, if_pos (by simp [hk])]
      · rw [if_neg hk, if_neg (by
          intro hm
          rcases List.mem_cons.1 hm with h1 | h1
          · exact h h1.symm
          · exact hk h1)]
        rfl
theorem keys_nodup_setP {ps : List (Int × α)} (h : (ps.map (·.1)).Nodup) (k : Int) (v : α) : ((setP ps k v).map (·.1)).Nodup := by
  rw [keys_setP]
  split
  · exact h
  · rename_i hk
    rw [List.nodup_append]
    exact ⟨h, by simp, fun a ha b hb => by simp at hb; subst hb; intro e; subst e; exact hk ha⟩
end assoc

/-- Block mb is a map that reads as ps. -/
def MapIs {α : Type} (ev : α → Value) (w : World) (mb : Nat) (ps : List (Int × α)) : Prop :=
  ∃ (es : Array MapEntry) (clock : Nat), w.heap[mb]? = some (.map es clock) ∧ es.toList.map (fun e => (e.key, e.val)) = ps.map (fun p => (Value.int .i64 p.1, ev p.2)) ∧
    (ps.map (·.1)).Nodup ∧ (es.toList.map (·.born)).Nodup ∧ ∀ e ∈ es.toList, e.born < clock

section
variable {α : Type} {ev : α → Value} {w w' : World} {mb : Nat} {ps : List (Int × α)} {P : Program} {T K E : TypeId}
theorem MapIs.lt (h : MapIs ev w mb ps) : mb < w.heap.size := by
  obtain ⟨es, c, hb, _⟩ := h
  exact (Array.getElem?_eq_some_iff.1 hb).1
theorem MapIs.same (h : MapIs ev w mb ps) (hs : w'.heap[mb]? = w.heap[mb]?) : MapIs ev w' mb ps := by
  obtain ⟨es, c, hb, r⟩ := h
  exact ⟨es, c, hs.trans hb, r⟩
theorem MapIs.nodup (h : MapIs ev w mb ps) : (ps.map (·.1)).Nodup := by
  obtain ⟨es, c, _, _, hn, _⟩ := h
  exact hn
theorem MapIs.new (w : World) : MapIs ev (w.alloc (.map #[] 0)) w.heap.size [] := ⟨#[], 0, World.alloc_heap_new w _, rfl, by simp, by simp, by simp⟩

theorem findNow_look (k : Int) : ∀ (l : List MapEntry) (ps : List (Int × α)) (i : Nat), l.map (fun e => (e.key, e.val)) = ps.map (fun p => (Value.int .i64 p.1, ev p.2)) →
    (∃ j v, look ps k = some v ∧ (ps[j]?).map (·.1) = some k ∧ Instr.findNow (.int .i64) (.int .i64 k) l i = some (some (i + j, ev v)) ∧ (∀ u, setP ps k u = ps.set j (k, u))) ∨ (look ps k = none ∧ Instr.findNow (.int .i64) (.int .i64 k) l i = some none) := by
  intro l
  induction l with
  | nil =>
    intro ps i h
    have : ps = [] := by simpa using h
    subst this
    exact .inr ⟨rfl, rfl⟩
  | cons e l ih =>
    intro ps i h
    cases ps with
    | nil => simp at h
    | cons p ps =>
      simp only [List.map_cons, List.cons.injEq, Prod.mk.injEq] at h
      obtain ⟨⟨hk, hv⟩, hr⟩ := h
      simp only [Instr.findNow, hk, Instr.sameNow, if_true]
      by_cases hp : p.1 = k
      · left
        have hb : (k == p.1) = true := by simp; omega
        refine ⟨0, p.2, by rw [look_cons, if_pos hp], by simp [hp], by simp [hb, hv], fun u => by simp [setP, hp]⟩
      · have hb : (k == p.1) = false := by simp; omega
        simp only [hb]
        rcases ih ps (i + 1) hr with ⟨j, v, h1, h2, h3, h4⟩ | ⟨h1, h2⟩
        · left
          refine ⟨j + 1, v, by rw [look_cons, if_neg hp]; exact h1, by simpa using h2, by rw [h3]; congr 2; simp; omega, fun u => by simp [setP, hp, h4]⟩
        · right
          exact ⟨by rw [look_cons, if_neg hp]; exact h1, h2⟩

theorem run_checkKey_int (hK : P.underlying K = some (.int .i64)) (em : Bool) (n : Nat) (k : Int) (w : World) : (Instr.checkKey em (n + 1) K (.int .i64 k)).run P w = .ok () w := by
  unfold Instr.checkKey
  simp only [Sem.run_bind, run_underlying hK, Result.andThen]
  rfl

theorem MapIs.lookup (h : MapIs ev w mb ps) (hT : P.underlying T = some (.map K E)) (hK : P.underlying K = some (.int .i64)) {z : Value} (hz : (zeroValue E).run P w = .ok z w) (k : Int) (ok : Bool) :
    (Instr.lookup T (.map (some mb)) (.int .i64 k) ok).run P w = .ok (if ok then .tuple #[((look ps k).map ev).getD z, .bool (look ps k).isSome] else ((look ps k).map ev).getD z) w := by
  obtain ⟨es, c, hb, hl, _⟩ := h
  rcases findNow_look k es.toList ps 0 hl with ⟨j, v, h1, _, h3, _⟩ | ⟨h1, h3⟩
  · simp [Instr.lookup, run_underlying hT, MapKept.run_getObj_map hb, run_checkKey_int hK, Instr.findKey, run_underlying hK, h3, h1, Result.andThen]
  · simp [Instr.lookup, run_underlying hT, MapKept.run_getObj_map hb, run_checkKey_int hK, Instr.findKey, run_underlying hK, h3, h1, hz, Result.andThen]
theorem lookup_nil (hT : P.underlying T = some (.map K E)) (hK : P.underlying K = some (.int .i64)) {z : Value} (hz : (zeroValue E).run P w = .ok z w) (k : Int) (ok : Bool) :
    (Instr.lookup T (.map none) (.int .i64 k) ok).run P w = .ok (if ok then .tuple #[z, .bool false] else z) w := by
  simp [Instr.lookup, run_underlying hT, run_checkKey_int hK, Instr.findKey, run_underlying hK, Instr.findNow, hz, Result.andThen]

theorem MapIs.update (h : MapIs ev w mb ps) (hT : P.underlying T = some (.map K E)) (hK : P.underlying K = some (.int .i64)) (k : Int) (u : α) :
    ∃ w', (Instr.mapUpdate T (.map (some mb)) (.int .i64 k) (ev u)).run P w = .ok () w' ∧ MapIs ev w' mb (setP ps k u) ∧ w.grownBy w' (some mb) ∧ w'.heap.size = w.heap.size := by
  have hlt := h.lt
  obtain ⟨es, c, hb, hl, hn, hbn, hbc⟩ := h
  have hgr : ∀ o : Obj, w.grownBy { w with heap := w.heap.setIfInBounds mb o } (some mb) := fun o => ⟨rfl, rfl, rfl, by simp, fun i hi hne => by
    show (w.heap.setIfInBounds mb o)[i]? = _
    rw [Array.getElem?_setIfInBounds_ne (fun e => hne (by rw [e]))]⟩
  rcases findNow_look k es.toList ps 0 hl with ⟨j, v, h1, h2, h3, h4⟩ | ⟨h1, h3⟩
  · have hj : j < ps.length := by
      rcases Nat.lt_or_ge j ps.length with h | h
      · exact h
      · rw [List.getElem?_eq_none h] at h2; cases h2
    have hjs : j < es.size := by
      have := congrArg List.length hl
      simp at this
      omega
    have hkey : es[j].key = .int .i64 k := by
      have h5 := congrArg (fun l => l[j]?) hl
      simp [hj, hjs] at h5 h2
      rw [h5.1, h2]
    refine ⟨{ w with heap := w.heap.setIfInBounds mb (.map (es.modify j fun e => { e with key := .int .i64 k, val := ev u }) c) }, ?_, ⟨es.modify j fun e => { e with key := .int .i64 k, val := ev u }, c, by simp [hlt], ?_, keys_nodup_setP hn k u, ?_, ?_⟩, hgr _, by simp⟩
    · simp only [Nat.zero_add] at h3
      simp [Instr.mapUpdate, run_underlying hT, MapKept.run_getObj_map hb, run_checkKey_int hK, Instr.findKey, run_underlying hK, h3, Instr.keyThatStays, hjs, hkey, Instr.sameBits, MapKept.run_setObj_map _ hb, Result.andThen]
    · rw [h4 u]
      apply List.ext_getElem?
      intro i
      have h5 := congrArg (fun l => l[i]?) hl
      simp only [List.getElem?_map, Array.getElem?_toList] at h5
      simp only [List.getElem?_map, Array.getElem?_toList, Array.getElem?_modify]
      by_cases hi : j = i
      · subst hi
        simp [hj, hjs]
      · rw [if_neg hi, h5]
        simp [hi]
    · have : (es.modify j fun e => { e with key := .int .i64 k, val := ev u }).toList.map (·.born) = es.toList.map (·.born) := by
        apply List.ext_getElem?
        intro i
        simp only [List.getElem?_map, Array.getElem?_toList, Array.getElem?_modify]
        split
        · rename_i hi; subst hi; simp [hjs]
        · rfl
      rw [this]; exact hbn
    · intro e he
      obtain ⟨i, hi, rfl⟩ := List.mem_iff_getElem.1 he
      have hi' : i < es.size := by simpa using hi
      have h6 := hbc es[i] (by simp)
      simp only [Array.getElem_toList, Array.getElem_modify]
      split
      · rename_i h7; subst h7; exact h6
      · exact h6
  · refine ⟨{ w with heap := w.heap.setIfInBounds mb (.map (es.push { key := .int .i64 k, val := ev u, born := c }) (c + 1)) }, ?_, ⟨es.push { key := .int .i64 k, val := ev u, born := c }, c + 1, by simp [hlt], ?_, keys_nodup_setP hn k u, ?_, ?_⟩, hgr _, by simp⟩
    · simp [Instr.mapUpdate, run_underlying hT, MapKept.run_getObj_map hb, run_checkKey_int hK, Instr.findKey, run_underlying hK, h3, MapKept.run_setObj_map _ hb, Result.andThen]
    · rw [setP_absent (look_none.1 h1)]
      simp [hl]
    · simp only [Array.toList_push, List.map_append, List.nodup_append]
      refine ⟨hbn, by simp, fun a ha b hb => ?_⟩
      simp at hb
      subst hb
      simp only [List.mem_map] at ha
      obtain ⟨e, he, rfl⟩ := ha
      have := hbc e he
      omega
    · intro e he
      simp only [Array.toList_push, List.mem_append, List.mem_singleton] at he
      rcases he with he | rfl
      · have := hbc e he; omega
      · simp

/-! ### at the operation -/
theorem wpList_lookup {ops : Array Oper} {rest : List Oper} {o : Oper} {a : Act} {Q : Exit → Act → World → Prop} (h : MapIs ev w mb ps) (hg : o.guard = none) (m x : Operand) (ok : Bool) (hop : o.op = Op.lookup T m x ok)
    (hT : P.underlying T = some (.map K E)) (hK : P.underlying K = some (.int .i64)) {z : Value} (hz : (zeroValue E).run P w = .ok z w) (hm : a.eval m = .map (some mb)) (k : Int) (hx : a.eval x = .int .i64 k)
    (hK' : wpList P ops Q rest (a.put o.dst (if ok then .tuple #[((look ps k).map ev).getD z, .bool (look ps k).isSome] else ((look ps k).map ev).getD z)) w) : wpList P ops Q (o :: rest) a w := by
  refine wpList_plain hg fun K1 hK1 => ?_
  have hrun := h.lookup (T := T) hT hK hz k ok
  unfold Oper.wp
  simp only [execOp, hop, hm, hx, Sem.run_bind, Sem.run_pure, hrun, Result.andThen_ok]
  exact hK1 _ _ hK'
theorem wpList_update {ops : Array Oper} {rest : List Oper} {o : Oper} {a : Act} {Q : Exit → Act → World → Prop} (h : MapIs ev w mb ps) (hg : o.guard = none) (m x v : Operand) (hop : o.op = Op.mapUpdate T m x v)
    (hT : P.underlying T = some (.map K E)) (hK : P.underlying K = some (.int .i64)) (hm : a.eval m = .map (some mb)) (k : Int) (hx : a.eval x = .int .i64 k) (u : α) (hv : a.eval v = ev u)
    (hK' : ∀ w', MapIs ev w' mb (setP ps k u) → w.grownBy w' (some mb) → w'.heap.size = w.heap.size → wpList P ops Q rest (a.put o.dst undef) w') : wpList P ops Q (o :: rest) a w := by
  refine wpList_plain hg fun K1 hK1 => ?_
  obtain ⟨w', hrun, h1, h2, h3⟩ := h.update (T := T) hT hK k u
  unfold Oper.wp
  simp only [execOp, hop, hm, hx, hv, Sem.run_bind, Sem.run_pure, hrun, Result.andThen_ok]
  exact hK1 _ _ (hK' w' h1 h2 h3)
theorem MapIs.len (h : MapIs ev w mb ps) (t ty : TypeId) (hT : P.underlying t = some (.map K E)) : (Builtin.len_ #[t] ty #[.map (some mb)]).run P w = .ok (.int .i64 ps.length) w := by
  obtain ⟨es, c, hb, hl, _⟩ := h
  have hs : es.size = ps.length := by have := congrArg List.length hl; simpa using this
  simp [Builtin.len_, run_underlying hT, MapKept.run_getObj_map hb, hs, goInt, Result.andThen]
end
end Go.Proofs.Ytmfidhlhcochoaa
