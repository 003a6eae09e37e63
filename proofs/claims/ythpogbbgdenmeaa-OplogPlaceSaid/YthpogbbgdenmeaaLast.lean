/- oplog.Last: a client's greatest number. Conditions: sizes within Go's own limits. -/
import Derived.Test.YthpogbbgdenmeaaEntryRef
namespace Go.Proofs.Ythpogbbgdenmeaa
open Go.RowKit Go.Shelf
set_option linter.unusedVariables false
set_option linter.unusedSimpArgs false
attribute [local go_sem] Oper.semAt_some

/-- The elements at places. -/
def got (xs : List Entry) (pre : List (Fin xs.length)) : List Entry := pre.map fun i => xs[i.1]
theorem got_snoc (xs : List Entry) (pre : List (Fin xs.length)) (x : Fin xs.length) : got xs (pre ++ [x]) = got xs pre ++ [xs[x.1]] := by simp [got]
theorem got_places (xs : List Entry) (s : Nat) : got xs (places xs.length s) = xs.drop s := by
  unfold got places
  apply List.ext_getElem
  · simp
  · intro i h1 h2
    simp
theorem got_take (xs : List Entry) (k : Nat) : got xs ((places xs.length 0).take k) = xs.take k := by
  unfold got places
  apply List.ext_getElem
  · simp
  · intro i h1 h2
    simp

set_option maxRecDepth 100000 in
set_option maxHeartbeats 2000000 in
theorem last_prog (A : Option Addr) (c n : Nat) (xs : List Entry) (ca : Int) (hn : n = xs.length) (w : World) (hb : xs.length * 48 ≤ 140737488355328) (ha : Rd Entry.cells 5 w w.heap.size A xs) :
    Calls Try.prog 37 #[.slice A n c, .int .i64 ca] w fun e w' => e = .returned (.int .i64 (lastE xs ca)) ∧ Below w.heap.size w w' := by
  subst hn
  refine (callsIn_wide (n := 3)).1 ?_
  refine callsIn_of_wp_marks Try.func37 rfl trivial ?_ rfl
  simp only [Try.ntmps37, List.size_toArray, List.length_cons, List.length_nil, Nat.reduceAdd, Nat.reduceSub, Array.replicate_succ, Array.replicate_zero, List.push_toArray, List.append_toArray, List.nil_append, List.cons_append]
  gi_wp2_with fail
  obtain ⟨W0, hW0⟩ : ∃ W0, W0 = (w.alloc (.cells #[.int .i64 ca] 3)).alloc (.cells #[.int .i64 0] 3) := ⟨_, rfl⟩
  have hb0 : Below w.heap.size w W0 := by rw [hW0]; exact ((Below.refl _ w).alloc (Nat.le_refl _) _).alloc (by simp) _
  have hz0 : W0.heap.size = w.heap.size + 2 := by rw [hW0]; simp
  have r0 : W0.heap[w.heap.size]? = some (.cells #[.int .i64 ca] 3 (0, 0)) := by rw [hW0, heap_alloc_old _ _ (by simp)]; exact heap_alloc_new _ _
  have r1 : W0.heap[w.heap.size + 1]? = some (.cells #[.int .i64 0] 3 (0, 0)) := by rw [hW0]; exact heap_alloc2_new w _ _
  rw [← hW0]
  refine ⟨trivial, (callsIn_wide.2 (oplogEach A c xs.length (-9223372036854775808) xs rfl W0 hb ((ha.below hb0).more hb0.size))).mono ?_⟩
  rintro e W1 ⟨v, rfl, hE, hb1⟩
  dsimp only
  obtain ⟨Bf, Bs, rfl, hB1, hB2, hS⟩ := hE.stops (by unfold I64; omega) (by omega)
  have r0' := (hb1.block _ (by omega)).trans r0
  have r1' := (hb1.block _ (by omega)).trans r1
  have hbw := hb0.trans (hb1.mono hb0.size)
  have hs0 : (max (-9223372036854775808 : Int) 1 - 1).toNat = 0 := by omega
  rw [hs0] at hS
  gi_wp2_with fail
  have hz1 : w.heap.size + 2 ≤ W1.heap.size := by have := hb1.size; omega
  refine wpIn_rangeFunc_ownH rfl (by omega) (gf := 47) (lb := #[.pointer (some ⟨Bf, 0, none⟩), .pointer (some ⟨Bs, 0, none⟩)]) rfl trivial (enters_of Try.func47 (by kernel_rfl) rfl)
    (hS _ W1 (Below.refl _ _)) midK_t (midK_b (by omega)) (Below.refl _ _) (fun _ => rfl)
    (fun pre W => (W.heap[w.heap.size]? = some (.cells #[.int .i64 ca] 3 (0, 0)) ∧ W.heap[w.heap.size + 1]? = some (.cells #[.int .i64 (lastE (got xs pre) ca)] 3 (0, 0))) ∧ Below w.heap.size W1 W)
    (fun _ _ _ => False)
    ?hI ?hIx ?h0
    (fun x a' W => ∃ Bx, w.heap.size + 1 < Bx ∧ W.heap[Bx]? = some (.cells #[.int .i64 xs[x.1].client, .int .i64 xs[x.1].number, .int .i64 xs[x.1].op.kind, .int .i64 xs[x.1].op.slot, .string xs[x.1].op.value] 41 (0, 0)) ∧ a' = { tmps := #[.slice A xs.length c, .int .i64 ca, undef, .pointer (some ⟨w.heap.size, 0, none⟩), .int .i64 0, .pointer (some ⟨w.heap.size + 1, 0, none⟩), undef, .pointer (some ⟨Bx, 0, none⟩), .slice A xs.length c, .func (.func 47) #[] #[.pointer (some ⟨Bf, 0, none⟩), .pointer (some ⟨Bs, 0, none⟩)], .int .i64 ((x.1 : Int) + 1), .agg #[.int .i64 xs[x.1].client, .int .i64 xs[x.1].number, .int .i64 xs[x.1].op.kind, .int .i64 xs[x.1].op.slot, .string xs[x.1].op.value], undef, undef, undef, undef, undef, undef, undef, undef, undef], defers := [] })
    ?hAx ?assign ?body ?done ?stop
  case hI => exact OwnFrom.and (OwnFrom.and (row_own _ _ _ _) (row_own _ _ (fun pre => #[Value.int .i64 (lastE (got xs pre) ca)]) _)) (ownFrom_below (by omega) (by omega))
  case hIx => intro c s X Y row hs; exact hs.elim
  case h0 => exact ⟨⟨r0', r1'⟩, Below.refl _ _⟩
  case hAx =>
    intro x a' _ X Y row hs hg hr
    obtain ⟨Bx, h1, h2, h3⟩ := hs
    exact ⟨Bx, h1, row_own _ _ (fun (_ : Unit) => _) _ () X Y row h2 hg hr, h3⟩
  case assign =>
    rintro l pre x W K ⟨⟨k0, k1⟩, hB⟩ hK
    dsimp only [encE]
    gi_wp2
    have hW : Below w.heap.size W (W.alloc (.cells #[.int .i64 xs[x.1].client, .int .i64 xs[x.1].number, .int .i64 xs[x.1].op.kind, .int .i64 xs[x.1].op.slot, .string xs[x.1].op.value] 41)) := (Below.refl _ W).alloc (by have := hB.size; omega) _
    have hlt2 : w.heap.size + 1 < W.heap.size := (Array.getElem?_eq_some_iff.1 k1).1
    refine hK _ _ ((KeepsOthers.alloc _ _).from _) ((Mid.refl W).alloc ?_ _) ⟨⟨?_, ?_⟩, hB.trans hW⟩ ⟨W.heap.size, hlt2, heap_alloc_new W _, rfl⟩
    · have := hB.size; omega
    · rw [heap_alloc_old _ _ (by omega)]; exact k0
    · rw [heap_alloc_old _ _ (by omega)]; exact k1
  case body =>
    rintro l pre x a' W hl ⟨r, hr⟩ ⟨⟨k0, k1⟩, hB⟩ ⟨Bx, hBx, kx, rfl⟩ hlt
    obtain ⟨c0, c1⟩ : W.cell? ⟨Bx, 0, none⟩ = some (.int .i64 xs[x.1].client) ∧ W.cell? ⟨Bx, 1, none⟩ = some (.int .i64 xs[x.1].number) := ⟨cell_of_row _ _ 0 _ _ _ kx, cell_of_row _ _ 1 _ _ _ kx⟩
    have d0 : W.cell? ⟨w.heap.size, 0, none⟩ = some (.int .i64 ca) := cell_of_row _ _ 0 _ _ _ k0
    have d1 : W.cell? ⟨w.heap.size + 1, 0, none⟩ = some (.int .i64 (lastE (got xs pre) ca)) := cell_of_row _ _ 0 _ _ _ k1
    have f1 : W.frozen? ⟨w.heap.size + 1, 0, none⟩ = false := frozen_of_row _ _ _ _ _ k1
    have hs := lastE_snoc (got xs pre) xs[x.1] ca
    rw [← got_snoc] at hs
    by_cases h1 : xs[x.1].client = ca
    · rw [if_pos h1] at hs
      have HS := Lib.hid hs
      clear hs
      gi_wp2
      all_goals exact ⟨(KeepsOthers.setCell _ _ _).from _, (Mid.refl W).setCell (p := ⟨w.heap.size + 1, 0, none⟩) (.inl (by show w.heap.size + 1 < _; omega)) _, ⟨by rw [Below.heap_setCell _ _ _ _ (by simp)]; exact k0, by rw [heap_setCell_same W (w.heap.size + 1) 0 _ _ _ k1, HS.out]; simp <;> omega⟩, hB.setCell (p := ⟨w.heap.size + 1, 0, none⟩) (by simp) _⟩
    · rw [if_neg h1] at hs
      gi_wp2
      exact ⟨KeepsFrom.refl _ _, Mid.refl _, ⟨k0, by rw [hs]; exact k1⟩, hB⟩
  case done =>
    rintro D ys W hD rfl ⟨⟨k0, k1⟩, hB⟩ hK
    rw [got_places, List.drop_zero] at k1
    have d1 : W.cell? ⟨w.heap.size + 1, 0, none⟩ = some (.int .i64 (lastE xs ca)) := cell_of_row _ _ 0 _ _ _ k1
    gi_wp2
    refine ⟨by simp, .inl ⟨_, _, rfl, run_takeDeferred hK, ?_⟩⟩
    exact ⟨_, results_tmp rfl _ _ _, rfl, hbw.trans (hB.trans (belowK_b (w := W1) (by omega) W D _ _ hD hK rfl rfl))⟩
  case stop =>
    rintro D c pre W hD hSp h
    exact h.elim
end Go.Proofs.Ythpogbbgdenmeaa
