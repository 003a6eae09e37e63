/- Maps keyed by a struct, read as association lists: look-up, store; over any program. Conditions: what the key's type says (KeyT). -/
import Derived.Test.YtjjekpkgfhcknaaMem
import Derived.MapKept
import Derived.RangeFuncRecord
import Derived.Maps.OwnOps
import Derived.Maps.OwnSet
namespace Go.Proofs.Ytjjekpkgfhcknaa
open Go.RowKit
set_option linter.unusedVariables false
set_option linter.unusedSimpArgs false

section assocK
variable {κ α : Type} [DecidableEq κ]
def lookK (ps : List (κ × α)) (k : κ) : Option α := match ps with
  | [] => none
  | p :: ps => if p.1 = k then some p.2 else lookK ps k
def setK : List (κ × α) → κ → α → List (κ × α)
  | [], k, v => [(k, v)]
  | p :: ps, k, v => if p.1 = k then (k, v) :: ps else p :: setK ps k v
theorem lookK_none {ps : List (κ × α)} {k : κ} : lookK ps k = none ↔ ∀ p ∈ ps, p.1 ≠ k := by
  induction ps with
  | nil => simp [lookK]
  | cons p ps ih =>
    simp only [lookK]
    by_cases h : p.1 = k
    · simp [h]
    · simp [h, ih]
theorem lookK_setK (ps : List (κ × α)) (k : κ) (v : α) (j : κ) : lookK (setK ps k v) j = if k = j then some v else lookK ps j := by
  induction ps with
  | nil => rfl
  | cons p ps ih =>
    simp only [setK]
    by_cases h : p.1 = k
    · rw [if_pos h]
      simp only [lookK]
      by_cases hj : k = j
      · rw [if_pos hj, if_pos hj]
      · rw [if_neg hj, if_neg hj, if_neg (by rw [h]; exact hj)]
    · rw [if_neg h]
      simp only [lookK]
      rw [ih]
      by_cases hp : p.1 = j
      · rw [if_pos hp, if_pos hp, if_neg (fun e => h (hp.trans e.symm))]
      · rw [if_neg hp, if_neg hp]
theorem setK_absent {ps : List (κ × α)} {k : κ} {v : α} (h : ∀ p ∈ ps, p.1 ≠ k) : setK ps k v = ps ++ [(k, v)] := by
  induction ps with
  | nil => rfl
  | cons p ps ih =>
    simp only [setK]
    rw [if_neg (h p (by simp)), ih (fun q hq => h q (by simp [hq]))]
    rfl
end assocK

/-- What a map's look-up asks of its key's type. -/
structure KeyT {κ : Type} [DecidableEq κ] (P : Program) (K : TypeId) (ek : κ → Value) : Prop where
  check : ∀ em k w, (Instr.checkKey em 10000 K (ek k)).run P w = .ok () w
  eq : ∀ k j w, (Op.equal K (ek k) (ek j)).run P w = .ok (decide (k = j)) w
  under : ∃ fs, P.underlying K = some (.struct fs)
  bits : ∀ k, Instr.sameBits 10000 (ek k) (ek k) = true

/-- Block mb is a map that reads as ps. -/
def MapK {κ α : Type} (ek : κ → Value) (ev : α → Value) (w : World) (mb : Nat) (ps : List (κ × α)) : Prop :=
  ∃ (es : Array MapEntry) (clock : Nat), w.heap[mb]? = some (.map es clock) ∧ es.toList.map (fun e => (e.key, e.val)) = ps.map (fun p => (ek p.1, ev p.2))

section
variable {κ α : Type} {ek : κ → Value} {ev : α → Value} {w w' : World} {mb : Nat} {ps : List (κ × α)}
theorem MapK.lt (h : MapK ek ev w mb ps) : mb < w.heap.size := by
  obtain ⟨es, c, hb, _⟩ := h
  exact (Array.getElem?_eq_some_iff.1 hb).1
theorem MapK.same (h : MapK ek ev w mb ps) (hs : w'.heap[mb]? = w.heap[mb]?) : MapK ek ev w' mb ps := by
  obtain ⟨es, c, hb, r⟩ := h
  exact ⟨es, c, hs.trans hb, r⟩
theorem MapK.new (w : World) : MapK ek ev (w.alloc (.map #[] 0)) w.heap.size [] := ⟨#[], 0, World.alloc_heap_new w _, rfl⟩

end
section
variable {κ α : Type} [DecidableEq κ] {ek : κ → Value} {ev : α → Value} {w w' : World} {mb : Nat} {ps : List (κ × α)} {P : Program} {T K E : TypeId}
theorem run_findAsking (hk : KeyT P K ek) (k : κ) (w : World) : ∀ (l : List MapEntry) (ps : List (κ × α)) (i : Nat), l.map (fun e => (e.key, e.val)) = ps.map (fun p => (ek p.1, ev p.2)) →
    (∃ j v, lookK ps k = some v ∧ (ps[j]?).map (·.1) = some k ∧ (Instr.findAsking K (ek k) l i).run P w = .ok (some (i + j, ev v)) w ∧ (∀ u, setK ps k u = ps.set j (k, u))) ∨ (lookK ps k = none ∧ (Instr.findAsking K (ek k) l i).run P w = .ok none w) := by
  intro l
  induction l with
  | nil =>
    intro ps i h
    have : ps = [] := by simpa using h
    subst this
    exact .inr ⟨rfl, rfl⟩
  | cons e l ih =>
    intro ps i h
    cases ps with
    | nil => simp at h
    | cons p ps =>
      simp only [List.map_cons, List.cons.injEq, Prod.mk.injEq] at h
      obtain ⟨⟨hk1, hv⟩, hr⟩ := h
      have heq := hk.eq k p.1 w
      by_cases hp : p.1 = k
      · left
        refine ⟨0, p.2, by simp [lookK, hp], by simp [hp], ?_, fun u => by simp [setK, hp]⟩
        rw [decide_eq_true hp.symm] at heq
        simp [Instr.findAsking, Sem.run_bind, hk1, hv, heq, Result.andThen]
      · have hp' : ¬ k = p.1 := fun e => hp e.symm
        rw [decide_eq_false hp'] at heq
        have hstep : (Instr.findAsking K (ek k) (e :: l) i).run P w = (Instr.findAsking K (ek k) l (i + 1)).run P w := by
          simp [Instr.findAsking, Sem.run_bind, hk1, heq, Result.andThen]
        rw [hstep]
        rcases ih ps (i + 1) hr with ⟨j, v, h1, h2, h3, h4⟩ | ⟨h1, h2⟩
        · left
          refine ⟨j + 1, v, by simp [lookK, hp, h1], by simpa using h2, by rw [h3]; congr 3; omega, fun u => by simp [setK, hp, h4]⟩
        · right
          exact ⟨by simp [lookK, hp, h1], h2⟩
theorem run_findKey (hk : KeyT P K ek) (k : κ) (w : World) (l : List MapEntry) : (Instr.findKey K (ek k) l).run P w = (Instr.findAsking K (ek k) l).run P w := by
  obtain ⟨fs, hu⟩ := hk.under
  unfold Instr.findKey
  simp only [Sem.run_bind, run_underlying hu, Result.andThen_ok]
  cases l with
  | nil => rfl
  | cons e l => simp [Instr.findNow, Instr.sameNow]
theorem MapK.lookup (h : MapK ek ev w mb ps) (hk : KeyT P K ek) (hT : P.underlying T = some (.map K E)) {z : Value} (hz : (zeroValue E).run P w = .ok z w) (k : κ) :
    (Instr.lookup T (.map (some mb)) (ek k) false).run P w = .ok (((lookK ps k).map ev).getD z) w := by
  obtain ⟨es, c, hb, hl⟩ := h
  rcases run_findAsking hk k w es.toList ps 0 hl with ⟨j, v, h1, _, h3, _⟩ | ⟨h1, h3⟩
  · simp [Instr.lookup, run_underlying hT, MapKept.run_getObj_map hb, hk.check, run_findKey hk, h3, h1, Result.andThen]
  · simp [Instr.lookup, run_underlying hT, MapKept.run_getObj_map hb, hk.check, run_findKey hk, h3, h1, hz, Result.andThen]
theorem MapK.update (h : MapK ek ev w mb ps) (hk : KeyT P K ek) (hT : P.underlying T = some (.map K E)) (k : κ) (u : α) :
    ∃ w', (Instr.mapUpdate T (.map (some mb)) (ek k) (ev u)).run P w = .ok () w' ∧ MapK ek ev w' mb (setK ps k u) ∧ w.grownBy w' (some mb) ∧ w'.heap.size = w.heap.size := by
  have hlt := h.lt
  obtain ⟨es, c, hb, hl⟩ := h
  have hgr : ∀ o : Obj, w.grownBy { w with heap := w.heap.setIfInBounds mb o } (some mb) := fun o => ⟨rfl, rfl, rfl, by simp, fun i hi hne => by
    show (w.heap.setIfInBounds mb o)[i]? = _
    rw [Array.getElem?_setIfInBounds_ne (fun e => hne (by rw [e]))]⟩
  rcases run_findAsking hk k w es.toList ps 0 hl with ⟨j, v, h1, h2, h3, h4⟩ | ⟨h1, h3⟩
  · have hj : j < ps.length := by
      rcases Nat.lt_or_ge j ps.length with h | h
      · exact h
      · rw [List.getElem?_eq_none h] at h2; cases h2
    have hjs : j < es.size := by
      have := congrArg List.length hl
      simp at this
      omega
    have hkey : es[j].key = ek k := by
      have h5 := congrArg (fun l => l[j]?) hl
      simp [hj, hjs] at h5 h2
      rw [h5.1, h2]
    refine ⟨{ w with heap := w.heap.setIfInBounds mb (.map (es.modify j fun e => { e with key := ek k, val := ev u }) c) }, ?_, ⟨es.modify j fun e => { e with key := ek k, val := ev u }, c, by simp [hlt], ?_⟩, hgr _, by simp⟩
    · simp only [Nat.zero_add] at h3
      simp [Instr.mapUpdate, run_underlying hT, MapKept.run_getObj_map hb, hk.check, run_findKey hk, h3, Instr.keyThatStays, hjs, hkey, hk.bits, MapKept.run_setObj_map _ hb, Result.andThen]
    · rw [h4 u]
      apply List.ext_getElem?
      intro i
      have h5 := congrArg (fun l => l[i]?) hl
      simp only [List.getElem?_map, Array.getElem?_toList] at h5
      simp only [List.getElem?_map, Array.getElem?_toList, Array.getElem?_modify]
      by_cases hi : j = i
      · subst hi
        simp [hj, hjs]
      · rw [if_neg hi, h5]
        simp [hi]
  · refine ⟨{ w with heap := w.heap.setIfInBounds mb (.map (es.push { key := ek k, val := ev u, born := c }) (c + 1)) }, ?_, ⟨es.push { key := ek k, val := ev u, born := c }, c + 1, by simp [hlt], ?_⟩, hgr _, by simp⟩
    · simp [Instr.mapUpdate, run_underlying hT, MapKept.run_getObj_map hb, hk.check, run_findKey hk, h3, MapKept.run_setObj_map _ hb, Result.andThen]
    · rw [setK_absent (lookK_none.1 h1)]
      simp [hl]
/-! ### at the operation -/
theorem wpList_updateK {ops : Array Oper} {rest : List Oper} {o : Oper} {a : Act} {Q : Exit → Act → World → Prop} (h : MapK ek ev w mb ps) (hk : KeyT P K ek) (hg : o.guard = none) (m x v : Operand) (hop : o.op = Op.mapUpdate T m x v)
    (hT : P.underlying T = some (.map K E)) (hm : a.eval m = .map (some mb)) (k : κ) (hx : a.eval x = ek k) (u : α) (hv : a.eval v = ev u)
    (hK' : ∀ w', MapK ek ev w' mb (setK ps k u) → w.grownBy w' (some mb) → w'.heap.size = w.heap.size → wpList P ops Q rest (a.put o.dst undef) w') : wpList P ops Q (o :: rest) a w := by
  refine wpList_plain hg fun K1 hK1 => ?_
  obtain ⟨w', hrun, h1, h2, h3⟩ := h.update (T := T) hk hT k u
  unfold Oper.wp
  simp only [execOp, hop, hm, hx, hv, Sem.run_bind, Sem.run_pure, hrun, Result.andThen_ok]
  exact hK1 _ _ (hK' w' h1 h2 h3)
end
end Go.Proofs.Ytjjekpkgfhcknaa
