/- The ledger's object: New, Get, Len, put, Would, Do: what they answer and what they turn. Conditions: none beyond the object's own shape. -/
import Derived.Test.YtmfidhlhcochoaaOpCheck
import Derived.Test.YtmfidhlhcochoaaMap
import Derived.Deep.QuietTactic
import Derived.BigQuiet
import Derived.RegionTactic
import Derived.BigRegion
import Derived.WalkSpells
namespace Go.Proofs.Ytmfidhlhcochoaa
open Go.RowKit
set_option linter.unusedVariables false
set_option linter.unusedSimpArgs false

def evS (s : ByteArray) : Value := .agg #[.string s]
/-- Block b is a ledger's struct, block mb its map; it has just these cells. -/
def Ledger (w : World) (b mb : Nat) (cs : List Cell) : Prop :=
  ∃ ps : List (Int × ByteArray), w.heap[b]? = some (.cells #[.map (some mb), .int .i64 (nextC cs)] 155 (0, 0)) ∧ MapIs evS w mb ps ∧ (ps.map (fun p => (⟨p.1, p.2⟩ : Cell))).Perm cs ∧ Rising cs

theorem look_cells {ps : List (Int × ByteArray)} {cs : List Cell} (hp : (ps.map (fun p => (⟨p.1, p.2⟩ : Cell))).Perm cs) (hr : Rising cs) (k : Int) : look ps k = getC cs k := by
  cases hl : look ps k with
  | none =>
    refine (getC_none.2 fun c hc => ?_).symm
    obtain ⟨p, hp', rfl⟩ := List.mem_map.1 (hp.mem_iff.2 hc)
    exact look_none.1 hl p hp'
  | some v =>
    refine (getC_of_mem hr (hp.mem_iff.1 (List.mem_map.2 ⟨(k, v), ?_, rfl⟩))).symm
    simp only [look, Option.map_eq_some_iff] at hl
    obtain ⟨p, h1, rfl⟩ := hl
    have h2 := List.find?_some h1
    have h3 := List.mem_of_find?_eq_some h1
    simp at h2
    subst h2
    exact h3
theorem Ledger.rising {w : World} {b mb : Nat} {cs : List Cell} (h : Ledger w b mb cs) : Rising cs := by
  obtain ⟨ps, _, _, _, hr⟩ := h
  exact hr
theorem Ledger.lt {w : World} {b mb : Nat} {cs : List Cell} (h : Ledger w b mb cs) : b < w.heap.size ∧ mb < w.heap.size := by
  obtain ⟨ps, hb, hm, _⟩ := h
  exact ⟨(Array.getElem?_eq_some_iff.1 hb).1, hm.lt⟩
theorem Ledger.ne {w : World} {b mb : Nat} {cs : List Cell} (h : Ledger w b mb cs) : b ≠ mb := by
  obtain ⟨ps, hb, ⟨es, c, hm, _⟩, _⟩ := h
  rintro rfl
  rw [hb] at hm; cases hm
theorem Ledger.same {w w' : World} {b mb : Nat} {cs : List Cell} (h : Ledger w b mb cs) (h1 : w'.heap[b]? = w.heap[b]?) (h2 : w'.heap[mb]? = w.heap[mb]?) : Ledger w' b mb cs := by
  obtain ⟨ps, hb, hm, r⟩ := h
  exact ⟨ps, h1.trans hb, hm.same h2, r⟩
theorem Ledger.below {w w' : World} {b mb : Nat} {cs : List Cell} (h : Ledger w b mb cs) (hb : Below w.heap.size w w') : Ledger w' b mb cs :=
  h.same (hb.block b h.lt.1) (hb.block mb h.lt.2)
/-- The blocks that a ledger's own calls may turn. -/
def LedS (b mb : Nat) (k : Nat) : Prop := k = b ∨ k = mb

theorem zeroV (w : World) : (zeroValue 183).run Try.prog w = .ok (evS emp) w := by kernel_rfl
theorem undMap : Try.prog.underlying 153 = some (.map 3 183) := Try.underlying153
theorem undInt : Try.prog.underlying 3 = some (.int .i64) := Try.underlying3

theorem newLedger (w : World) : Calls Try.prog 46 #[] w fun e w' => ∃ b mb, e = .returned (.pointer (some ⟨b, 0, none⟩)) ∧ Ledger w' b mb [] ∧ w.heap.size ≤ b ∧ w.heap.size ≤ mb ∧ Below w.heap.size w w' := by
  have hmm := @run_makeMap Try.prog
  go_enter Try.func46, Try.ntmps46
  go_wp2
  go_ret
  refine ⟨w.heap.size + 1, w.heap.size, rfl, ⟨[], ?_, ?_, by simp, Rising.nil⟩, by omega, by omega, ((Below.refl _ _).alloc (Nat.le_refl _) _).alloc (by simp) _⟩
  · exact heap_alloc2_new w _ _
  · exact (MapIs.new w).same (Below.heap_alloc _ _ _ (by simp))

theorem maxInt (a b : Int) : max a b = if a < b then b else a := by omega
set_option maxRecDepth 100000 in
theorem putLedger (b mb : Nat) (cs : List Cell) (k : Int) (s : ByteArray) (w : World) (h : Ledger w b mb cs) (hg : Good ⟨k, s⟩) (hn : ∀ d ∈ cs, d.slot ≠ k) :
    Calls Try.prog 77 #[.pointer (some ⟨b, 0, none⟩), .int .i64 k, .string s] w fun e w' => e = .returned (.tuple #[]) ∧ Ledger w' b mb (putC cs ⟨k, s⟩) ∧ Kept (LedS b mb) w w' := by
  have hne := h.ne
  obtain ⟨hbl, hml⟩ := h.lt
  obtain ⟨ps, hb, hm, hp, hr⟩ := h
  have c0 : w.cell? ⟨b, 0, none⟩ = some (.map (some mb)) := cell_of_row w b 0 _ _ _ hb
  obtain ⟨hk0, hk1, hk2⟩ := hg
  simp only at hk0 hk1 hk2
  have hnb := nextC_bounds hr
  have hnp := nextC_put hr ⟨k, s⟩ hk0 hn
  simp only at hnp
  have HNP := Lib.hid hnp
  generalize hq : nextC cs = q at *
  have HQ := Lib.hid hq
  have HB := Lib.hid hb
  have HP := Lib.hid hp
  clear hnp hq hb hp
  have hnil := fun (W : World) (r : Option Nat) => run_eql_map_nil (P := Try.prog) W 153 _ _ r undMap
  go_enter Try.func77, Try.ntmps77
  go_wp2_with (at_mapUpdate; refine wpList_update (ev := evS) hm rfl _ _ _ rfl undMap undInt rfl k rfl s rfl ?_; intro w1 hm1 hg1 hs1; have hb1 := (hg1.block b hbl (by simpa using hne)).trans HB.out; have c1 : w1.cell? ⟨b, 1, none⟩ = some (.int .i64 q) := cell_of_row w1 b 1 _ _ _ hb1; have f1 : w1.frozen? ⟨b, 1, none⟩ = false := frozen_of_row w1 b 1 _ _ hb1; have HB1 := Lib.hid hb1; have HG1 := Lib.hid hg1; have HM1 := Lib.hid hm1; clear hb1 hm c0 hg1 hm1)
  all_goals
    go_end0
    have hd := next_free hr
    have hval : ∀ v : Int, v = max q (k + 1) → Ledger (w1.setCell ⟨b, 1, none⟩ (.int .i64 v)) b mb (putC cs ⟨k, s⟩) ∧ Kept (LedS b mb) w (w1.setCell ⟨b, 1, none⟩ (.int .i64 v)) := fun v hv => by
      refine ⟨⟨setP ps k s, ?_, HM1.out.same (Below.heap_setCell _ _ _ _ (by simpa using hne.symm)), ?_, putC_rising hr ⟨hk0, hk1, hk2⟩ hn⟩, ?_⟩
      · rw [heap_setCell_same w1 b 1 _ _ _ HB1.out, HNP.out, hv]; rfl
      · have habs : ∀ p ∈ ps, p.1 ≠ k := fun p hp => hn ⟨p.1, p.2⟩ (HP.out.mem_iff.1 (List.mem_map.2 ⟨p, hp, rfl⟩))
        rw [setP_absent habs, List.map_append]
        refine (List.perm_append_comm).trans ?_
        exact ((HP.out.cons (⟨k, s⟩ : Cell))).trans (putC_perm cs ⟨k, s⟩).symm
      · refine Kept.setCell ((Kept.of_grown HG1.out).mono fun j _ hj => .inr (by simpa using hj.symm)) (fun _ => .inl rfl) _
    exact ⟨rfl, hval _ (by omega)⟩
end Go.Proofs.Ytmfidhlhcochoaa
