/- oplog.Find: it answers the first place of a request, as the reference does. Conditions: sizes within Go's own limits. -/
import Derived.Test.YthpogbbgdenmeaaEach
namespace Go.Proofs.Ythpogbbgdenmeaa
open Go.RowKit Go.Shelf
set_option linter.unusedVariables false
set_option linter.unusedSimpArgs false
attribute [local go_sem] Oper.semAt_some

/-- A row of cells is no block that a loop's book-keeping turns. -/
theorem row_own {β : Type} (B b : Nat) (f : β → Array Value) (T : TypeId) : OwnFrom B (fun s W => W.heap[b]? = some (.cells (f s) T (0, 0))) := fun s X Y row hs hg hr =>
  (hg.block b (Array.getElem?_eq_some_iff.1 hs).1 (fun e => by obtain ⟨_, o, ho, hc⟩ := hr b e.symm; rw [hs] at ho; cases ho; cases hc)).trans hs
theorem places_mem {N s : Nat} {x : Fin N} : x ∈ places N s ↔ s ≤ x.1 := by
  unfold places
  rw [List.mem_drop_iff_getElem]
  constructor
  · rintro ⟨i, hi, rfl⟩; simp
  · intro h
    exact ⟨x.1 - s, by simp; omega, by ext; simp; omega⟩
/-- A beginning of the places tells its last one. -/
theorem places_last {N s : Nat} {pre : List (Fin N)} {x : Fin N} (h : pre ++ [x] <+: places N s) : pre = (places N s).take pre.length ∧ x.1 = s + pre.length := by
  have h1 := List.prefix_iff_eq_take.1 h
  have hl := h.length_le
  simp only [List.length_append, List.length_singleton, places, List.length_drop, List.length_finRange] at hl
  rw [List.length_append, List.length_singleton, places_take' (by omega)] at h1
  obtain ⟨h2, h3⟩ := List.append_inj' h1 rfl
  exact ⟨h2, by simp at h3; rw [h3]⟩

/-- A named result of one cell. -/
theorem results_int {fn : Func} {p : Tmp} (h : fn.results = #[.cell p 3]) (tmps : Array Value) (w : World) (g : Nat) (x : Int) (hp : tmps.getD p undef = .pointer (some ⟨g, 0, none⟩)) (hc : w.cell? ⟨g, 0, none⟩ = some (.int .i64 x)) :
    (results fn tmps).run Try.prog w = .ok (.int .i64 x) w := by
  have hp' : tmps[p]?.getD undef = .pointer (some ⟨g, 0, none⟩) := by simpa using hp
  simp [results, h, hp', asAddr, go_sem, hc, Try.underlying3]
theorem cell_takeDef {W : World} {D g : Nat} {v : Value} (h : W.cell? ⟨g, 0, none⟩ = some v) (hK : W.heap[D]? = some (.deferred (some []))) : (W.putObj D (.deferred none)).cell? ⟨g, 0, none⟩ = some v :=
  cell_kept h (grownBy_putObj' _ D (.deferred none)) (fun r e => by cases e; exact ⟨_, hK, rfl⟩)

def hits (ca nb : Int) (x : Entry) : Prop := x.client = ca ∧ x.number = nb
instance (ca nb : Int) (x : Entry) : Decidable (hits ca nb x) := by unfold hits; infer_instance
def findE (xs : List Entry) (ca nb : Int) : Int :=
  match xs.findIdx? (fun x => decide (hits ca nb x)) with | some i => (i : Int) + 1 | none => 0
theorem findE_none {xs : List Entry} {ca nb : Int} (h : ∀ i : Fin xs.length, ¬ hits ca nb xs[i.1]) : findE xs ca nb = 0 := by
  have : xs.findIdx? (fun x => decide (hits ca nb x)) = none := by
    rw [List.findIdx?_eq_none_iff]
    intro x hx
    obtain ⟨i, hi, rfl⟩ := List.mem_iff_getElem.1 hx
    simpa using h ⟨i, hi⟩
  simp [findE, this]
theorem findE_some {xs : List Entry} {ca nb : Int} (i : Fin xs.length) (h : hits ca nb xs[i.1]) (h' : ∀ j : Fin xs.length, j.1 < i.1 → ¬ hits ca nb xs[j.1]) : findE xs ca nb = (i.1 : Int) + 1 := by
  have : xs.findIdx? (fun x => decide (hits ca nb x)) = some i.1 := by
    rw [List.findIdx?_eq_some_iff_getElem]
    exact ⟨i.2, by simpa using h, fun j hj => by simpa using h' ⟨j, by omega⟩ hj⟩
  simp [findE, this]

set_option maxRecDepth 100000 in
set_option maxHeartbeats 2000000 in
theorem find_prog (A : Option Addr) (c n : Nat) (xs : List Entry) (ca nb : Int) (hn : n = xs.length) (w : World) (hb : xs.length * 48 ≤ 140737488355328) (ha : Rd Entry.cells 5 w w.heap.size A xs) :
    Calls Try.prog 35 #[.slice A n c, .int .i64 ca, .int .i64 nb] w fun e w' => e = .returned (.int .i64 (findE xs ca nb)) ∧ Below w.heap.size w w' := by
  subst hn
  refine (callsIn_wide (n := 3)).1 ?_
  refine callsIn_of_wp_marks Try.func35 rfl trivial ?_ rfl
  simp only [Try.ntmps35, List.size_toArray, List.length_cons, List.length_nil, Nat.reduceAdd, Nat.reduceSub, Array.replicate_succ, Array.replicate_zero, List.push_toArray, List.append_toArray, List.nil_append, List.cons_append]
  gi_wp2_with fail
  obtain ⟨W0, hW0⟩ : ∃ W0, W0 = ((w.alloc (.cells #[.int .i64 ca] 3)).alloc (.cells #[.int .i64 nb] 3)).alloc (.cells #[.int .i64 0] 3) := ⟨_, rfl⟩
  have hb0 : Below w.heap.size w W0 := by rw [hW0]; exact (((Below.refl _ w).alloc (Nat.le_refl _) _).alloc (by simp) _).alloc (by simp; omega) _
  have hz0 : W0.heap.size = w.heap.size + 3 := by rw [hW0]; simp
  have r0 : W0.heap[w.heap.size]? = some (.cells #[.int .i64 ca] 3 (0, 0)) := by rw [hW0, heap_alloc_old _ _ (by simp; omega), heap_alloc_old _ _ (by simp)]; exact heap_alloc_new _ _
  have r1 : W0.heap[w.heap.size + 1]? = some (.cells #[.int .i64 nb] 3 (0, 0)) := by rw [hW0, heap_alloc_old _ _ (by simp)]; exact heap_alloc2_new w _ _
  have r2 : W0.heap[w.heap.size + 2]? = some (.cells #[.int .i64 0] 3 (0, 0)) := by rw [hW0]; have := heap_alloc_new ((w.alloc (.cells #[.int .i64 ca] 3)).alloc (.cells #[.int .i64 nb] 3)) (.cells #[.int .i64 0] 3); simpa using this
  rw [← hW0]
  refine ⟨trivial, (callsIn_wide.2 (oplogEach A c xs.length 1 xs rfl W0 hb ((ha.below hb0).more hb0.size))).mono ?_⟩
  rintro e W1 ⟨v, rfl, hE, hb1⟩
  dsimp only
  obtain ⟨Bf, Bs, rfl, hB1, hB2, hS⟩ := hE.stops (by unfold I64; omega) (by omega)
  have r0' := (hb1.block _ (by omega)).trans r0
  have r1' := (hb1.block _ (by omega)).trans r1
  have r2' := (hb1.block _ (by omega)).trans r2
  have hbw := hb0.trans (hb1.mono hb0.size)
  gi_wp2_with fail
  have hz1 : w.heap.size + 3 ≤ W1.heap.size := by have := hb1.size; omega
  refine wpIn_rangeFunc_ownH rfl (by omega) (gf := 47) (lb := #[.pointer (some ⟨Bf, 0, none⟩), .pointer (some ⟨Bs, 0, none⟩)]) rfl trivial (enters_of Try.func47 (by kernel_rfl) rfl)
    (hS _ W1 (Below.refl _ _)) midK_t (midK_b (by omega)) (Below.refl _ _) (fun _ => rfl)
    (fun pre W => ((W.heap[w.heap.size]? = some (.cells #[.int .i64 ca] 3 (0, 0)) ∧ W.heap[w.heap.size + 1]? = some (.cells #[.int .i64 nb] 3 (0, 0))) ∧ W.heap[w.heap.size + 2]? = some (.cells #[.int .i64 0] 3 (0, 0))) ∧ (Below w.heap.size W1 W ∧ ∀ x ∈ pre, ¬ hits ca nb xs[x.1]))
    (fun c pre W => (c = .ret ∧ ∃ pre' x, pre = pre' ++ [x] ∧ (∀ y ∈ pre', ¬ hits ca nb xs[y.1]) ∧ hits ca nb xs[x.1] ∧ W.heap[w.heap.size + 2]? = some (.cells #[.int .i64 ((x.1 : Int) + 1)] 3 (0, 0))) ∧ Below w.heap.size W1 W)
    ?hI ?hIx ?h0
    (fun x a' W => ∃ Bx, w.heap.size + 2 < Bx ∧ W.heap[Bx]? = some (.cells #[.int .i64 xs[x.1].client, .int .i64 xs[x.1].number, .int .i64 xs[x.1].op.kind, .int .i64 xs[x.1].op.slot, .string xs[x.1].op.value] 41 (0, 0)) ∧ a' = { tmps := #[.slice A xs.length c, .int .i64 ca, .int .i64 nb, undef, .pointer (some ⟨w.heap.size, 0, none⟩), .pointer (some ⟨w.heap.size + 1, 0, none⟩), .pointer (some ⟨w.heap.size + 1 + 1, 0, none⟩), .int .i64 ((x.1 : Int) + 1), .pointer (some ⟨Bx, 0, none⟩), .slice A xs.length c, .func (.func 47) #[] #[.pointer (some ⟨Bf, 0, none⟩), .pointer (some ⟨Bs, 0, none⟩)], .int .i64 ((x.1 : Int) + 1), .agg #[.int .i64 xs[x.1].client, .int .i64 xs[x.1].number, .int .i64 xs[x.1].op.kind, .int .i64 xs[x.1].op.slot, .string xs[x.1].op.value], undef, undef, undef, undef, undef, undef, undef, undef, undef, undef, undef], defers := [] })
    ?hAx ?assign ?body ?done ?stop
  case hI => exact OwnFrom.and (OwnFrom.and (OwnFrom.and (row_own _ _ _ _) (row_own _ _ _ _)) (row_own _ _ _ _)) (OwnFrom.and (ownFrom_below (by omega) (by omega)) (ownFrom_pure _ _))
  case hIx =>
    intro c
    refine OwnFrom.and (fun s X Y row hs hg hr => ?_) (ownFrom_below (by omega) (by omega))
    obtain ⟨rfl, pre', x, e, h1, h2, h3⟩ := hs
    exact ⟨rfl, pre', x, e, h1, h2, row_own _ _ (fun (_ : Unit) => #[Value.int .i64 ((x.1 : Int) + 1)]) _ () X Y row h3 hg hr⟩
  case h0 => exact ⟨⟨⟨r0', r1'⟩, r2'⟩, Below.refl _ _, by simp⟩
  case hAx =>
    intro x a' _ X Y row hs hg hr
    obtain ⟨Bx, h1, h2, h3⟩ := hs
    exact ⟨Bx, h1, row_own _ _ (fun (_ : Unit) => _) _ () X Y row h2 hg hr, h3⟩
  case assign =>
    rintro l pre x W K ⟨⟨⟨k0, k1⟩, k2⟩, hB, hpre⟩ hK
    dsimp only [encE]
    gi_wp2
    have hW : Below w.heap.size W (W.alloc (.cells #[.int .i64 xs[x.1].client, .int .i64 xs[x.1].number, .int .i64 xs[x.1].op.kind, .int .i64 xs[x.1].op.slot, .string xs[x.1].op.value] 41)) := (Below.refl _ W).alloc (by have := hB.size; omega) _
    have hlt2 : w.heap.size + 2 < W.heap.size := (Array.getElem?_eq_some_iff.1 k2).1
    refine hK _ _ ((KeepsOthers.alloc _ _).from _) ((Mid.refl W).alloc ?_ _) ⟨⟨⟨?_, ?_⟩, ?_⟩, hB.trans hW, hpre⟩ ⟨W.heap.size, hlt2, heap_alloc_new W _, rfl⟩
    · have := hB.size; omega
    · rw [heap_alloc_old _ _ (by omega)]; exact k0
    · rw [heap_alloc_old _ _ (by omega)]; exact k1
    · rw [heap_alloc_old _ _ (by omega)]; exact k2
  case body =>
    rintro l pre x a' W hl ⟨r, hr⟩ ⟨⟨⟨k0, k1⟩, k2⟩, hB, hpre⟩ ⟨Bx, hBx, kx, rfl⟩ hlt
    obtain ⟨c0, c1⟩ : W.cell? ⟨Bx, 0, none⟩ = some (.int .i64 xs[x.1].client) ∧ W.cell? ⟨Bx, 1, none⟩ = some (.int .i64 xs[x.1].number) := ⟨cell_of_row _ _ 0 _ _ _ kx, cell_of_row _ _ 1 _ _ _ kx⟩
    have d0 : W.cell? ⟨w.heap.size, 0, none⟩ = some (.int .i64 ca) := cell_of_row _ _ 0 _ _ _ k0
    have d1 : W.cell? ⟨w.heap.size + 1, 0, none⟩ = some (.int .i64 nb) := cell_of_row _ _ 0 _ _ _ k1
    have d2 : W.cell? ⟨w.heap.size + 2, 0, none⟩ = some (.int .i64 0) := cell_of_row _ _ 0 _ _ _ k2
    have f2 : W.frozen? ⟨w.heap.size + 2, 0, none⟩ = false := frozen_of_row _ _ _ _ _ k2
    by_cases h1 : xs[x.1].client = ca
    · by_cases h2 : xs[x.1].number = nb
      · gi_wp2
        exact ⟨(KeepsOthers.setCell _ _ _).from _, ⟨rfl, pre, x, rfl, hpre, ⟨h1, h2⟩, by rw [heap_setCell_same W (w.heap.size + 2) 0 _ _ _ k2]; rfl⟩, hB.setCell (p := ⟨w.heap.size + 2, 0, none⟩) (by simp) _⟩
      · gi_wp2
        exact ⟨KeepsFrom.refl _ _, Mid.refl _, ⟨⟨k0, k1⟩, k2⟩, hB, fun y hy => by
          rcases List.mem_append.1 hy with hy | hy
          · exact hpre y hy
          · simp at hy; subst hy; exact fun q => h2 q.2⟩
    · gi_wp2
      exact ⟨KeepsFrom.refl _ _, Mid.refl _, ⟨⟨k0, k1⟩, k2⟩, hB, fun y hy => by
          rcases List.mem_append.1 hy with hy | hy
          · exact hpre y hy
          · simp at hy; subst hy; exact fun q => h1 q.1⟩
  case done =>
    rintro D ys W hD rfl ⟨⟨⟨k0, k1⟩, k2⟩, hB, hpre⟩ hK
    have d2 : W.cell? ⟨w.heap.size + 2, 0, none⟩ = some (.int .i64 0) := cell_of_row _ _ 0 _ _ _ k2
    have f2 : W.frozen? ⟨w.heap.size + 2, 0, none⟩ = false := frozen_of_row _ _ _ _ _ k2
    have hfe := findE_none (ca := ca) (nb := nb) (fun i => hpre i (places_mem.2 (by simp)))
    gi_wp2
    have hK' : (W.setCell ⟨w.heap.size + 2, 0, none⟩ (.int .i64 0)).heap[D]? = some (.deferred (some [])) := by rw [Below.heap_setCell _ _ _ _ (by simp; omega)]; exact hK
    refine ⟨by simp, .inl ⟨_, _, rfl, run_takeDeferred hK', ?_⟩⟩
    exact ⟨_, results_int rfl _ _ _ 0 rfl (cell_takeDef (World.cell?_setCell_same' _ _ _ (by rw [d2]; rfl)) hK'), by rw [hfe], hbw.trans ((hB.setCell (p := ⟨w.heap.size + 2, 0, none⟩) (by simp) _).trans (belowK_b (w := W1) (by omega) _ D _ _ hD hK' rfl rfl))⟩
  case stop =>
    rintro D c pre W hD hSp ⟨⟨rfl, pre', x, rfl, h1, h2, h3⟩, hB⟩ hK
    obtain ⟨h4, h5⟩ := places_last hSp
    have hfe := findE_some (ca := ca) (nb := nb) x h2 (fun j hj => h1 j (by
      rw [h4]
      have hx : x.1 = pre'.length := by simpa using h5
      refine List.mem_iff_getElem.2 ⟨j.1, by simp [places]; omega, by simp [places]⟩))
    gi_wp2
    refine ⟨by simp, .inl ⟨_, _, rfl, run_takeDeferred hK, ?_⟩⟩
    exact ⟨_, results_int rfl _ _ _ _ rfl (cell_takeDef (cell_of_row _ _ 0 _ _ _ h3) hK), by rw [hfe], hbw.trans (hB.trans (belowK_b (w := W1) (by omega) W D _ _ hD hK rfl rfl))⟩
end Go.Proofs.Ythpogbbgdenmeaa
