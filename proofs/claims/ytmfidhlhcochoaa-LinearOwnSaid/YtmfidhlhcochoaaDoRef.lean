/- The reference's Do: it answers 'after' and 'would'. Conditions: rising cells; sizes within Go's own limits. -/
import Derived.Test.YtmfidhlhcochoaaRef04
import Derived.Test.YtmfidhlhcochoaaCells3
import Derived.Deep.RegionHeld3
import Derived.Laws.ResultCell
namespace Go.Proofs.Ytmfidhlhcochoaa
open Go.RowKit
set_option linter.unusedVariables false
set_option linter.unusedSimpArgs false

theorem results_tmp_cell_row {P : Program} {fn : Func} {p u : Tmp} {ty : TypeId} (h : fn.results = #[.tmp u, .cell p ty]) (tmps : Array Value) (w : World) (g : Nat) (t : TypeId) (cs : Array Value) (fr : Nat × Nat) (d : TypeDesc)
    (hp : tmps.getD p undef = .pointer (some ⟨g, 0, none⟩)) (hg : w.heap[g]? = some (.cells cs t fr))
    (hu : P.underlying ty = some d) (hd : (match d with | .struct _ | .array _ _ => true | _ => false) = true) (hi : (P.info? ty).map (·.size) = some cs.size) :
    (results fn tmps).run P w = .ok (.tuple #[tmps.getD u undef, .agg cs]) w := by
  have hp' : tmps[p]?.getD undef = .pointer (some ⟨g, 0, none⟩) := by simpa using hp
  simp [results, h, hp', asAddr, run_loadVar_row w g t ty cs fr d hg hu hd hi]

theorem sizeResR : (Try.prog.info? 40).map (·.size) = some 3 := by kernel_rfl
theorem res2_end {fn : Func} {p u : Tmp} (hres : fn.results = #[.tmp u, .cell p 40]) {R : Ending → World → Prop} {a : Act} {w : World} {B : Nat} {r : Res} {T : TypeId} {v : Value} (hv : a.tmps.getD u undef = v) (hp : a.tmps.getD p undef = .pointer (some ⟨B, 0, none⟩)) (hd : a.defers = [])
    (h : w.heap[B]? = some (.cells #[.int .i64 r.code, .int .i64 r.slot, .string r.value] T (0, 0))) (hR : R (.returned (.tuple #[v, .agg #[.int .i64 r.code, .int .i64 r.slot, .string r.value]])) w) : bodyPost Try.prog fn R .ret a w := by
  subst hv
  exact bodyPost_ret (results_tmp_cell_row hres a.tmps w B T _ (0, 0) _ hp h Try.underlying40 rfl sizeResR) hd hR

theorem row3R {w : World} {B : Nat} {x y z : Value} {T : TypeId} (h : w.heap[B]? = some (.cells #[x, y, z] T (0, 0))) (a b c : Value) : (((w.setCell ⟨B, 0, none⟩ a).setCell ⟨B, 1, none⟩ b).setCell ⟨B, 2, none⟩ c).heap[B]? = some (.cells #[a, b, c] T (0, 0)) := by
  rw [heap_setCell_same _ _ _ _ _ _ (heap_setCell_same _ _ _ _ _ _ (heap_setCell_same _ _ _ _ _ _ h))]
  rfl
theorem below3R {W w : World} {B : Nat} (h : Below W.heap.size W w) (hB : W.heap.size ≤ B) (a b c : Value) : Below W.heap.size W (((w.setCell ⟨B, 0, none⟩ a).setCell ⟨B, 1, none⟩ b).setCell ⟨B, 2, none⟩ c) :=
  ((h.setCell (p := ⟨B, 0, none⟩) hB a).setCell (p := ⟨B, 1, none⟩) hB b).setCell (p := ⟨B, 2, none⟩) hB c

/-- Behind Check: the two blocks that Do lays, and what was there. -/
theorem doRef_start (o : Op) (w w1 : World)
    (hb1 : Below ((w.alloc (.cells #[.int .i64 o.kind, .int .i64 o.slot, .string o.value] 38)).alloc (.cells #[.int .i64 0, .int .i64 0, .string ⟨#[]⟩] 40)).heap.size ((w.alloc (.cells #[.int .i64 o.kind, .int .i64 o.slot, .string o.value] 38)).alloc (.cells #[.int .i64 0, .int .i64 0, .string ⟨#[]⟩] 40)) w1) :
    w1.heap[w.heap.size]? = some (.cells #[.int .i64 o.kind, .int .i64 o.slot, .string o.value] 38 (0, 0)) ∧ w1.heap[w.heap.size + 1]? = some (.cells #[.int .i64 0, .int .i64 0, .string ⟨#[]⟩] 40 (0, 0)) ∧ w.heap.size + 2 ≤ w1.heap.size ∧ Below w.heap.size w w1 := by
  have hs : ((w.alloc (.cells #[.int .i64 o.kind, .int .i64 o.slot, .string o.value] 38)).alloc (.cells #[.int .i64 0, .int .i64 0, .string ⟨#[]⟩] 40)).heap.size = w.heap.size + 2 := by simp
  have hB : Below w.heap.size w ((w.alloc (.cells #[.int .i64 o.kind, .int .i64 o.slot, .string o.value] 38)).alloc (.cells #[.int .i64 0, .int .i64 0, .string ⟨#[]⟩] 40)) := ((Below.refl _ _).alloc (Nat.le_refl _) _).alloc (by simp) _
  rw [hs] at hb1
  exact ⟨(hb1.block _ (by omega)).trans (heap_alloc2_old w _ _), (hb1.block _ (by omega)).trans (heap_alloc2_new w _ _), by have := hb1.size; omega, hB.trans (hb1.mono (by omega))⟩

/-- What Do answers: its cells, its result, and nothing old turned. -/
def DoRefPost (A : Option Addr) (w : World) (cs' : List Cell) (r : Res) (e : Ending) (w' : World) : Prop :=
  ∃ A' c', e = .returned (.tuple #[.slice A' cs'.length c', .agg #[.int .i64 r.code, .int .i64 r.slot, .string r.value]]) ∧ Rd Cell.cells 2 w' w'.heap.size A' cs' ∧ (A' = A ∨ ∀ ad, A' = some ad → w.heap.size ≤ ad.block ∧ ad.block < w'.heap.size) ∧ Below w.heap.size w w'

set_option maxRecDepth 100000 in
set_option maxHeartbeats 4000000 in
theorem doRef_bad (A : Option Addr) (c : Nat) (cs : List Cell) (o : Op) (hv : o.value.size ≤ 9223372036854775807) (w : World) (ha : Rd Cell.cells 2 w w.heap.size A cs) (hc : checkOp o ≠ 0) :
    Calls Try.prog 18 #[.slice A cs.length c, .agg #[.int .i64 o.kind, .int .i64 o.slot, .string o.value]] w (DoRefPost A w cs ⟨0, 0, emp⟩) := by
  have HA := Lib.hid ha
  clear ha
  go_enter Try.func18, Try.ntmps18
  go_wp2_with fail
  refine (check_ref o hv _).mono ?_
  rintro e w1 ⟨rfl, hb1⟩
  obtain ⟨h1, h2, hs, hB⟩ := doRef_start o w w1 hb1
  have hne : (checkOp o != 0) = true := by simpa using hc
  have f0 : w1.frozen? ⟨w.heap.size + 1, 0, none⟩ = false := frozen_of_row w1 _ 0 _ _ h2
  have f1 : w1.frozen? ⟨w.heap.size + 1, 1, none⟩ = false := frozen_of_row w1 _ 1 _ _ h2
  have f2 : w1.frozen? ⟨w.heap.size + 1, 2, none⟩ = false := frozen_of_row w1 _ 2 _ _ h2
  have c0 : w1.cell? ⟨w.heap.size + 1, 0, none⟩ = some (.int .i64 0) := cell_of_row w1 _ 0 _ _ _ h2
  have c1 : w1.cell? ⟨w.heap.size + 1, 1, none⟩ = some (.int .i64 0) := cell_of_row w1 _ 1 _ _ _ h2
  have c2 : w1.cell? ⟨w.heap.size + 1, 2, none⟩ = some (.string ⟨#[]⟩) := cell_of_row w1 _ 2 _ _ _ h2
  have H2 := Lib.hid h2
  have HB := Lib.hid hB
  clear hc hb1 h1 h2 hB
  generalize checkOp o = r at *
  go_wp2
  have hB3 := below3R (B := w.heap.size + 1) HB.out (by omega) (.int .i64 0) (.int .i64 0) (.string ⟨#[]⟩)
  exact res2_end (r := ⟨0, 0, emp⟩) Try.results18 rfl rfl rfl (row3R (B := w.heap.size + 1) H2.out _ _ _) ⟨A, c, rfl, (HA.out.below hB3).more hB3.size, .inl rfl, hB3⟩


set_option maxRecDepth 100000 in
set_option maxHeartbeats 4000000 in
theorem doRef_taken (A : Option Addr) (c : Nat) (cs : List Cell) (s : Int) (v : ByteArray) (hv : v.size ≤ 9223372036854775807) (w : World) (ha : Rd Cell.cells 2 w w.heap.size A cs) (hl : cs.length ≤ 9223372036854775806) (hc : checkOp ⟨1, s, v⟩ = 0) (x : ByteArray) (hg : getC cs s = some x) :
    Calls Try.prog 18 #[.slice A cs.length c, .agg #[.int .i64 1, .int .i64 s, .string v]] w (DoRefPost A w cs ⟨2, s, x⟩) := by
  (
    have HA := Lib.hid ha
    clear ha
    go_enter Try.func18, Try.ntmps18
    go_wp2_with fail
    refine (check_ref ⟨1, s, v⟩ hv _).mono ?_
    rintro e w1 ⟨rfl, hb1⟩
    obtain ⟨h1, h2, hs, hB⟩ := doRef_start ⟨1, s, v⟩ w w1 hb1
    simp only at h1
    have f0 : w1.frozen? ⟨w.heap.size + 1, 0, none⟩ = false := frozen_of_row w1 _ 0 _ _ h2
    have f1 : w1.frozen? ⟨w.heap.size + 1, 1, none⟩ = false := frozen_of_row w1 _ 1 _ _ h2
    have f2 : w1.frozen? ⟨w.heap.size + 1, 2, none⟩ = false := frozen_of_row w1 _ 2 _ _ h2
    have c0 : w1.cell? ⟨w.heap.size + 1, 0, none⟩ = some (.int .i64 0) := cell_of_row w1 _ 0 _ _ _ h2
    have c1 : w1.cell? ⟨w.heap.size + 1, 1, none⟩ = some (.int .i64 0) := cell_of_row w1 _ 1 _ _ _ h2
    have c2 : w1.cell? ⟨w.heap.size + 1, 2, none⟩ = some (.string ⟨#[]⟩) := cell_of_row w1 _ 2 _ _ _ h2
    have d0 : w1.cell? ⟨w.heap.size, 0, none⟩ = some (.int .i64 1) := cell_of_row w1 _ 0 _ _ _ h1
    have d1 : w1.cell? ⟨w.heap.size, 1, none⟩ = some (.int .i64 s) := cell_of_row w1 _ 1 _ _ _ h1
    have d2 : w1.cell? ⟨w.heap.size, 2, none⟩ = some (.string v) := cell_of_row w1 _ 2 _ _ _ h1
    have hget := get_ref A c cs.length cs s rfl w1 hl (HA.out.below hB |>.more hB.size)
    rw [hg] at hget
    try simp only [Option.getD_some, Option.isSome_some, Option.getD_none, Option.isSome_none, emp] at hget
    have H2 := Lib.hid h2
    have HB := Lib.hid hB
    have HG := Lib.hid hget
    have HS := Lib.hid hs
    rw [hc]
    clear hc hb1 h1 h2 hB hget hs
    go_wp2_with fail
    refine HG.out.mono ?_
    rintro e w2 ⟨rfl, hw2⟩
    subst hw2
    clear HG
    go_wp2_with fail)
  go_region
  all_goals
    go_wp2_with fail
    have hB3 := below3R (B := w.heap.size + 1) HB.out (by omega) (.int .i64 2) (.int .i64 s) (.string x)
    exact res2_end (r := ⟨2, s, x⟩) Try.results18 rfl rfl rfl (row3R (B := w.heap.size + 1) H2.out _ _ _) ⟨A, c, rfl, by first | exact ⟨(HA.out.below hB3).more hB3.size, .inl rfl, hB3⟩ | exact ⟨(HA.out.below hB3.drew).more hB3.size, .inl rfl, hB3.drew⟩⟩

set_option maxRecDepth 100000 in
set_option maxHeartbeats 4000000 in
theorem doRef_found (A : Option Addr) (c : Nat) (cs : List Cell) (s : Int) (v : ByteArray) (hv : v.size ≤ 9223372036854775807) (w : World) (ha : Rd Cell.cells 2 w w.heap.size A cs) (hl : cs.length ≤ 9223372036854775806) (hc : checkOp ⟨3, s, v⟩ = 0) (x : ByteArray) (hg : getC cs s = some x) :
    Calls Try.prog 18 #[.slice A cs.length c, .agg #[.int .i64 3, .int .i64 s, .string v]] w (DoRefPost A w cs ⟨4, s, x⟩) := by
  (
    have HA := Lib.hid ha
    clear ha
    go_enter Try.func18, Try.ntmps18
    go_wp2_with fail
    refine (check_ref ⟨3, s, v⟩ hv _).mono ?_
    rintro e w1 ⟨rfl, hb1⟩
    obtain ⟨h1, h2, hs, hB⟩ := doRef_start ⟨3, s, v⟩ w w1 hb1
    simp only at h1
    have f0 : w1.frozen? ⟨w.heap.size + 1, 0, none⟩ = false := frozen_of_row w1 _ 0 _ _ h2
    have f1 : w1.frozen? ⟨w.heap.size + 1, 1, none⟩ = false := frozen_of_row w1 _ 1 _ _ h2
    have f2 : w1.frozen? ⟨w.heap.size + 1, 2, none⟩ = false := frozen_of_row w1 _ 2 _ _ h2
    have c0 : w1.cell? ⟨w.heap.size + 1, 0, none⟩ = some (.int .i64 0) := cell_of_row w1 _ 0 _ _ _ h2
    have c1 : w1.cell? ⟨w.heap.size + 1, 1, none⟩ = some (.int .i64 0) := cell_of_row w1 _ 1 _ _ _ h2
    have c2 : w1.cell? ⟨w.heap.size + 1, 2, none⟩ = some (.string ⟨#[]⟩) := cell_of_row w1 _ 2 _ _ _ h2
    have d0 : w1.cell? ⟨w.heap.size, 0, none⟩ = some (.int .i64 3) := cell_of_row w1 _ 0 _ _ _ h1
    have d1 : w1.cell? ⟨w.heap.size, 1, none⟩ = some (.int .i64 s) := cell_of_row w1 _ 1 _ _ _ h1
    have d2 : w1.cell? ⟨w.heap.size, 2, none⟩ = some (.string v) := cell_of_row w1 _ 2 _ _ _ h1
    have hget := get_ref A c cs.length cs s rfl w1 hl (HA.out.below hB |>.more hB.size)
    rw [hg] at hget
    try simp only [Option.getD_some, Option.isSome_some, Option.getD_none, Option.isSome_none, emp] at hget
    have H2 := Lib.hid h2
    have HB := Lib.hid hB
    have HG := Lib.hid hget
    have HS := Lib.hid hs
    rw [hc]
    clear hc hb1 h1 h2 hB hget hs
    go_wp2_with fail
    refine HG.out.mono ?_
    rintro e w2 ⟨rfl, hw2⟩
    subst hw2
    clear HG
    go_wp2_with fail)
  go_region
  all_goals
    go_wp2_with fail
    have hB3 := below3R (B := w.heap.size + 1) HB.out (by omega) (.int .i64 4) (.int .i64 s) (.string x)
    exact res2_end (r := ⟨4, s, x⟩) Try.results18 rfl rfl rfl (row3R (B := w.heap.size + 1) H2.out _ _ _) ⟨A, c, rfl, by first | exact ⟨(HA.out.below hB3).more hB3.size, .inl rfl, hB3⟩ | exact ⟨(HA.out.below hB3.drew).more hB3.size, .inl rfl, hB3.drew⟩⟩

set_option maxRecDepth 100000 in
set_option maxHeartbeats 4000000 in
theorem doRef_none (A : Option Addr) (c : Nat) (cs : List Cell) (s : Int) (v : ByteArray) (hv : v.size ≤ 9223372036854775807) (w : World) (ha : Rd Cell.cells 2 w w.heap.size A cs) (hl : cs.length ≤ 9223372036854775806) (hc : checkOp ⟨3, s, v⟩ = 0) (hg : getC cs s = none) :
    Calls Try.prog 18 #[.slice A cs.length c, .agg #[.int .i64 3, .int .i64 s, .string v]] w (DoRefPost A w cs ⟨5, s, emp⟩) := by
  (
    have HA := Lib.hid ha
    clear ha
    go_enter Try.func18, Try.ntmps18
    go_wp2_with fail
    refine (check_ref ⟨3, s, v⟩ hv _).mono ?_
    rintro e w1 ⟨rfl, hb1⟩
    obtain ⟨h1, h2, hs, hB⟩ := doRef_start ⟨3, s, v⟩ w w1 hb1
    simp only at h1
    have f0 : w1.frozen? ⟨w.heap.size + 1, 0, none⟩ = false := frozen_of_row w1 _ 0 _ _ h2
    have f1 : w1.frozen? ⟨w.heap.size + 1, 1, none⟩ = false := frozen_of_row w1 _ 1 _ _ h2
    have f2 : w1.frozen? ⟨w.heap.size + 1, 2, none⟩ = false := frozen_of_row w1 _ 2 _ _ h2
    have c0 : w1.cell? ⟨w.heap.size + 1, 0, none⟩ = some (.int .i64 0) := cell_of_row w1 _ 0 _ _ _ h2
    have c1 : w1.cell? ⟨w.heap.size + 1, 1, none⟩ = some (.int .i64 0) := cell_of_row w1 _ 1 _ _ _ h2
    have c2 : w1.cell? ⟨w.heap.size + 1, 2, none⟩ = some (.string ⟨#[]⟩) := cell_of_row w1 _ 2 _ _ _ h2
    have d0 : w1.cell? ⟨w.heap.size, 0, none⟩ = some (.int .i64 3) := cell_of_row w1 _ 0 _ _ _ h1
    have d1 : w1.cell? ⟨w.heap.size, 1, none⟩ = some (.int .i64 s) := cell_of_row w1 _ 1 _ _ _ h1
    have d2 : w1.cell? ⟨w.heap.size, 2, none⟩ = some (.string v) := cell_of_row w1 _ 2 _ _ _ h1
    have hget := get_ref A c cs.length cs s rfl w1 hl (HA.out.below hB |>.more hB.size)
    rw [hg] at hget
    try simp only [Option.getD_some, Option.isSome_some, Option.getD_none, Option.isSome_none, emp] at hget
    have H2 := Lib.hid h2
    have HB := Lib.hid hB
    have HG := Lib.hid hget
    have HS := Lib.hid hs
    rw [hc]
    clear hc hb1 h1 h2 hB hget hs
    go_wp2_with fail
    refine HG.out.mono ?_
    rintro e w2 ⟨rfl, hw2⟩
    subst hw2
    clear HG
    go_wp2_with fail)
  go_region
  all_goals
    go_wp2_with fail
    have hB3 := below3R (B := w.heap.size + 1) HB.out (by omega) (.int .i64 5) (.int .i64 s) (.string emp)
    exact res2_end (r := ⟨5, s, emp⟩) Try.results18 rfl rfl rfl (row3R (B := w.heap.size + 1) H2.out _ _ _) ⟨A, c, rfl, by first | exact ⟨(HA.out.below hB3).more hB3.size, .inl rfl, hB3⟩ | exact ⟨(HA.out.below hB3.drew).more hB3.size, .inl rfl, hB3.drew⟩⟩

set_option maxRecDepth 100000 in
set_option maxHeartbeats 4000000 in
theorem doRef_count (A : Option Addr) (c : Nat) (cs : List Cell) (s : Int) (v : ByteArray) (hv : v.size ≤ 9223372036854775807) (w : World) (ha : Rd Cell.cells 2 w w.heap.size A cs) (hl : cs.length ≤ 9223372036854775806) (hc : checkOp ⟨4, s, v⟩ = 0) (g : Option ByteArray) (hg : getC cs s = g) :
    Calls Try.prog 18 #[.slice A cs.length c, .agg #[.int .i64 4, .int .i64 s, .string v]] w (DoRefPost A w cs ⟨6, cs.length, emp⟩) := by
  (
    have HA := Lib.hid ha
    clear ha
    go_enter Try.func18, Try.ntmps18
    go_wp2_with fail
    refine (check_ref ⟨4, s, v⟩ hv _).mono ?_
    rintro e w1 ⟨rfl, hb1⟩
    obtain ⟨h1, h2, hs, hB⟩ := doRef_start ⟨4, s, v⟩ w w1 hb1
    simp only at h1
    have f0 : w1.frozen? ⟨w.heap.size + 1, 0, none⟩ = false := frozen_of_row w1 _ 0 _ _ h2
    have f1 : w1.frozen? ⟨w.heap.size + 1, 1, none⟩ = false := frozen_of_row w1 _ 1 _ _ h2
    have f2 : w1.frozen? ⟨w.heap.size + 1, 2, none⟩ = false := frozen_of_row w1 _ 2 _ _ h2
    have c0 : w1.cell? ⟨w.heap.size + 1, 0, none⟩ = some (.int .i64 0) := cell_of_row w1 _ 0 _ _ _ h2
    have c1 : w1.cell? ⟨w.heap.size + 1, 1, none⟩ = some (.int .i64 0) := cell_of_row w1 _ 1 _ _ _ h2
    have c2 : w1.cell? ⟨w.heap.size + 1, 2, none⟩ = some (.string ⟨#[]⟩) := cell_of_row w1 _ 2 _ _ _ h2
    have d0 : w1.cell? ⟨w.heap.size, 0, none⟩ = some (.int .i64 4) := cell_of_row w1 _ 0 _ _ _ h1
    have d1 : w1.cell? ⟨w.heap.size, 1, none⟩ = some (.int .i64 s) := cell_of_row w1 _ 1 _ _ _ h1
    have d2 : w1.cell? ⟨w.heap.size, 2, none⟩ = some (.string v) := cell_of_row w1 _ 2 _ _ _ h1
    have hget := get_ref A c cs.length cs s rfl w1 hl (HA.out.below hB |>.more hB.size)
    rw [hg] at hget
    try simp only [Option.getD_some, Option.isSome_some, Option.getD_none, Option.isSome_none, emp] at hget
    have H2 := Lib.hid h2
    have HB := Lib.hid hB
    have HG := Lib.hid hget
    have HS := Lib.hid hs
    rw [hc]
    clear hc hb1 h1 h2 hB hget hs
    go_wp2_with fail
    refine HG.out.mono ?_
    rintro e w2 ⟨rfl, hw2⟩
    subst hw2
    clear HG
    go_wp2_with fail)
  have hB3 := below3R (B := w.heap.size + 1) HB.out (by omega) (.int .i64 6) (.int .i64 cs.length) (.string emp)
  exact res2_end (r := ⟨6, cs.length, emp⟩) Try.results18 rfl rfl rfl (row3R (B := w.heap.size + 1) H2.out _ _ _) ⟨A, c, rfl, by first | exact ⟨(HA.out.below hB3).more hB3.size, .inl rfl, hB3⟩ | exact ⟨(HA.out.below hB3.drew).more hB3.size, .inl rfl, hB3.drew⟩⟩


set_option maxRecDepth 100000 in
set_option maxHeartbeats 4000000 in
theorem doRef_wrote (A : Option Addr) (c : Nat) (cs : List Cell) (s : Int) (v : ByteArray) (hv : v.size ≤ 9223372036854775807) (w : World) (ha : Rd Cell.cells 2 w w.heap.size A cs) (hl : (cs.length + 2) * 24 ≤ 140737488355328) (hc : checkOp ⟨1, s, v⟩ = 0) (hg : getC cs s = none) :
    Calls Try.prog 18 #[.slice A cs.length c, .agg #[.int .i64 1, .int .i64 s, .string v]] w (DoRefPost A w (putC cs ⟨s, v⟩) ⟨1, s, v⟩) := by
  have hl' := hl
  replace hl : cs.length ≤ 9223372036854775806 := by omega
  (
    have HA := Lib.hid ha
    clear ha
    go_enter Try.func18, Try.ntmps18
    go_wp2_with fail
    refine (check_ref ⟨1, s, v⟩ hv _).mono ?_
    rintro e w1 ⟨rfl, hb1⟩
    obtain ⟨h1, h2, hs, hB⟩ := doRef_start ⟨1, s, v⟩ w w1 hb1
    simp only at h1
    have f0 : w1.frozen? ⟨w.heap.size + 1, 0, none⟩ = false := frozen_of_row w1 _ 0 _ _ h2
    have f1 : w1.frozen? ⟨w.heap.size + 1, 1, none⟩ = false := frozen_of_row w1 _ 1 _ _ h2
    have f2 : w1.frozen? ⟨w.heap.size + 1, 2, none⟩ = false := frozen_of_row w1 _ 2 _ _ h2
    have c0 : w1.cell? ⟨w.heap.size + 1, 0, none⟩ = some (.int .i64 0) := cell_of_row w1 _ 0 _ _ _ h2
    have c1 : w1.cell? ⟨w.heap.size + 1, 1, none⟩ = some (.int .i64 0) := cell_of_row w1 _ 1 _ _ _ h2
    have c2 : w1.cell? ⟨w.heap.size + 1, 2, none⟩ = some (.string ⟨#[]⟩) := cell_of_row w1 _ 2 _ _ _ h2
    have d0 : w1.cell? ⟨w.heap.size, 0, none⟩ = some (.int .i64 1) := cell_of_row w1 _ 0 _ _ _ h1
    have d1 : w1.cell? ⟨w.heap.size, 1, none⟩ = some (.int .i64 s) := cell_of_row w1 _ 1 _ _ _ h1
    have d2 : w1.cell? ⟨w.heap.size, 2, none⟩ = some (.string v) := cell_of_row w1 _ 2 _ _ _ h1
    have hget := get_ref A c cs.length cs s rfl w1 hl (HA.out.below hB |>.more hB.size)
    rw [hg] at hget
    try simp only [Option.getD_some, Option.isSome_some, Option.getD_none, Option.isSome_none, emp] at hget
    have H2 := Lib.hid h2
    have HB := Lib.hid hB
    have HG := Lib.hid hget
    have HS := Lib.hid hs
    rw [hc]
    clear hc hb1 h1 h2 hB hget hs
    go_wp2_with fail
    refine HG.out.mono ?_
    rintro e w2 ⟨rfl, hw2⟩
    subst hw2
    clear HG
    go_wp2_with fail)
  go_region_held3 (fun w' => w'.cell? ⟨w.heap.size, 1, none⟩ = some (.int .i64 s) ∧ w'.cell? ⟨w.heap.size, 2, none⟩ = some (.string v))
    (first | go_keep)
    (first
      | (go_at_call 49
         refine (put_ref A c cs.length cs ⟨s, v⟩ rfl w2.drew hl' (by exact (HA.out.below HB.out).more HB.out.size)).mono ?_
         rintro e w3 ⟨v3, rfl, hm3, hb3⟩
         obtain ⟨A3, c3, hv3, hc3⟩ := hm3.form
         subst hv3
         have hs3 : w2.heap.size ≤ w3.heap.size := hb3.size
         have i2 : w3.heap[w.heap.size + 1]? = some (.cells #[.int .i64 0, .int .i64 0, .string ⟨#[]⟩] 40 (0, 0)) := (hb3.block _ (by show w.heap.size + 1 < w2.heap.size; have := HS.out; omega)).trans H2.out
         have j0 : w3.frozen? ⟨w.heap.size + 1, 0, none⟩ = false := frozen_of_row w3 _ 0 _ _ i2
         have j1 : w3.frozen? ⟨w.heap.size + 1, 1, none⟩ = false := frozen_of_row w3 _ 1 _ _ i2
         have j2 : w3.frozen? ⟨w.heap.size + 1, 2, none⟩ = false := frozen_of_row w3 _ 2 _ _ i2
         have k0 : w3.cell? ⟨w.heap.size + 1, 0, none⟩ = some (.int .i64 0) := cell_of_row w3 _ 0 _ _ _ i2
         have k1 : w3.cell? ⟨w.heap.size + 1, 1, none⟩ = some (.int .i64 0) := cell_of_row w3 _ 1 _ _ _ i2
         have k2 : w3.cell? ⟨w.heap.size + 1, 2, none⟩ = some (.string ⟨#[]⟩) := cell_of_row w3 _ 2 _ _ _ i2
         have l1 : w3.cell? ⟨w.heap.size, 1, none⟩ = some (.int .i64 s) := (hb3.cell (p := ⟨w.heap.size, 1, none⟩) (by show w.heap.size < w2.heap.size; have := HS.out; omega)).trans d1
         have l2 : w3.cell? ⟨w.heap.size, 2, none⟩ = some (.string v) := (hb3.cell (p := ⟨w.heap.size, 2, none⟩) (by show w.heap.size < w2.heap.size; have := HS.out; omega)).trans d2
         have hbb : Below w.heap.size w w3 := HB.out.drew.trans (hb3.mono (by show w.heap.size ≤ w2.heap.size; exact HB.out.size))
         have HM3 := Lib.hid hm3
         have HBB := Lib.hid hbb
         have I2 := Lib.hid i2
         clear hm3 hb3 hc3 hbb i2 hs3)
      | fail)
  all_goals
    go_wp2_with fail
    have hB3 := below3R (B := w.heap.size + 1) HBB.out (by omega) (.int .i64 1) (.int .i64 s) (.string v)
    have hm4 := HM3.out.same (w' := ((w3.setCell ⟨w.heap.size + 1, 0, none⟩ (.int .i64 1)).setCell ⟨w.heap.size + 1, 1, none⟩ (.int .i64 s)).setCell ⟨w.heap.size + 1, 2, none⟩ (.string v)) fun q hq => by
      have hq' := HM3.out.lt q hq
      have hs' := HS.out
      have hq2 : w2.heap.size ≤ q := hq'.1
      rw [Below.heap_setCell _ _ _ _ (by simp; omega), Below.heap_setCell _ _ _ _ (by simp; omega), Below.heap_setCell _ _ _ _ (by simp; omega)]
    refine res2_end (r := ⟨1, s, v⟩) Try.results18 rfl rfl rfl (row3R (B := w.heap.size + 1) I2.out _ _ _) ⟨A3, c3, rfl, ?_⟩
    exact ⟨hm4.rd encCell.len, .inr fun ad e => by subst e; have h1 := (hm4.lt ad.block (by rfl)); have h2 := HB.out.size; exact ⟨Nat.le_trans h2 h1.1, h1.2⟩, hB3⟩

theorem nextC_snoc (xs : List Cell) (c : Cell) : nextC (xs ++ [c]) = c.slot + 1 := by
  induction xs with
  | nil => rfl
  | cons d ds ih =>
    cases ds with
    | nil => rfl
    | cons e es => simpa [nextC] using ih
theorem nextC_take {cs : List Cell} (h : Rising cs) {k : Nat} (hk : k < cs.length) : nextC (cs.take k) ≤ cs[k].slot ∧ nextC (cs.take (k + 1)) = cs[k].slot + 1 := by
  refine ⟨?_, by rw [List.take_succ_eq_append_getElem hk, nextC_snoc]⟩
  by_cases h0 : cs.take k = []
  · rw [h0]; exact (h.good cs[k] (by simp)).1
  · obtain ⟨d, hd, h1⟩ := nextC_mem h0
    have hs := h.sorted
    rw [← List.take_append_drop k cs, List.pairwise_append] at hs
    have h2 := hs.2.2 d hd cs[k] (by rw [List.drop_eq_getElem_cons hk]; exact List.mem_cons_self ..)
    omega


set_option maxRecDepth 100000 in
set_option maxHeartbeats 4000000 in
theorem doRef_full (A : Option Addr) (c : Nat) (cs : List Cell) (s : Int) (v : ByteArray) (hv : v.size ≤ 9223372036854775807) (w : World) (ha : Rd Cell.cells 2 w w.heap.size A cs) (hl : cs.length ≤ 9223372036854775806) (hr : Rising cs) (hc : checkOp ⟨2, s, v⟩ = 0) (hf : nextC cs = 1024) (g : Option ByteArray) (hg : getC cs s = g) :
    Calls Try.prog 18 #[.slice A cs.length c, .agg #[.int .i64 2, .int .i64 s, .string v]] w (DoRefPost A w cs ⟨3, 0, emp⟩) := by
  have HF := Lib.hid hf
  clear hf
  (
    have HA := Lib.hid ha
    clear ha
    go_enter Try.func18, Try.ntmps18
    go_wp2_with fail
    refine (check_ref ⟨2, s, v⟩ hv _).mono ?_
    rintro e w1 ⟨rfl, hb1⟩
    obtain ⟨h1, h2, hs, hB⟩ := doRef_start ⟨2, s, v⟩ w w1 hb1
    simp only at h1
    have f0 : w1.frozen? ⟨w.heap.size + 1, 0, none⟩ = false := frozen_of_row w1 _ 0 _ _ h2
    have f1 : w1.frozen? ⟨w.heap.size + 1, 1, none⟩ = false := frozen_of_row w1 _ 1 _ _ h2
    have f2 : w1.frozen? ⟨w.heap.size + 1, 2, none⟩ = false := frozen_of_row w1 _ 2 _ _ h2
    have c0 : w1.cell? ⟨w.heap.size + 1, 0, none⟩ = some (.int .i64 0) := cell_of_row w1 _ 0 _ _ _ h2
    have c1 : w1.cell? ⟨w.heap.size + 1, 1, none⟩ = some (.int .i64 0) := cell_of_row w1 _ 1 _ _ _ h2
    have c2 : w1.cell? ⟨w.heap.size + 1, 2, none⟩ = some (.string ⟨#[]⟩) := cell_of_row w1 _ 2 _ _ _ h2
    have d0 : w1.cell? ⟨w.heap.size, 0, none⟩ = some (.int .i64 2) := cell_of_row w1 _ 0 _ _ _ h1
    have d1 : w1.cell? ⟨w.heap.size, 1, none⟩ = some (.int .i64 s) := cell_of_row w1 _ 1 _ _ _ h1
    have d2 : w1.cell? ⟨w.heap.size, 2, none⟩ = some (.string v) := cell_of_row w1 _ 2 _ _ _ h1
    have hget := get_ref A c cs.length cs s rfl w1 hl (HA.out.below hB |>.more hB.size)
    rw [hg] at hget
    try simp only [Option.getD_some, Option.isSome_some, Option.getD_none, Option.isSome_none, emp] at hget
    have H2 := Lib.hid h2
    have HB := Lib.hid hB
    have HG := Lib.hid hget
    have HS := Lib.hid hs
    rw [hc]
    clear hc hb1 h1 h2 hB hget hs
    go_wp2_with fail
    refine HG.out.mono ?_
    rintro e w2 ⟨rfl, hw2⟩
    subst hw2
    clear HG
    go_wp2_with fail)
  (
    have HR := Lib.hid hr
    clear hr
    go_loopw [8, 9] (fun u i wr => ∃ (j : Nat) (m : Int), j ≤ cs.length ∧ i = .int .i64 j ∧ u = .int .i64 m ∧ Hid (m = nextC (cs.take j)) ∧ 0 ≤ m ∧ m ≤ 1024 ∧ wr = w2) (fun _ i _ => cs.length - (intOf i).toNat)
    case atStart => exact ⟨0, 0, by omega, rfl, rfl, (show (0 : Int) = nextC (cs.take 0) by simp [nextC]), by omega, by omega, by first | rfl | trivial⟩
    obtain ⟨j, m, hj, rfl, rfl, hm, hm0, hm1, rfl⟩ := hrel
    by_cases hj1 : j < cs.length
    case pos =>
      obtain ⟨ad, hA, _, hca⟩ := ((HA.out.below HB.out).more HB.out.size).at_ hj1
      subst hA
      obtain ⟨y0, y1⟩ := hca.two
      have g1 : (j:Int) < (cs.length : Int) := by omega
      obtain ⟨hn1, hn2⟩ := nextC_take HR.out hj1
      have hgd := HR.out.good cs[j] (by simp)
      obtain ⟨hgd0, hgd1, _⟩ := hgd
      rw [← hm.out] at hn1
      have HN := Lib.hid hn2
      clear hca hn2 hm
      generalize cs[j] = y at *
      have hge : (y.slot ≥ m) = True := by simpa using hn1
      have hge2 : decide (m ≤ y.slot) = true := by simpa using hn1
      have hadd : IntKind.i64.wrap (y.slot + 1) = y.slot + 1 := IntWalk.i64_in _ (by omega)
      go_wp2_with fail
      go_roundw
      case rel => exact ⟨j + 1, y.slot + 1, by omega, by go_num, by go_num, HN.out.symm, by omega, by omega, by first | rfl | trivial⟩
      case measure => simp [intOf]; omega
    have g1 : decide ((j:Int) < (cs.length : Int)) = false := by simp; omega
    have hme : m = nextC cs := by have := hm.out; rwa [List.take_of_length_le (by omega)] at this
    have HM := Lib.hid hme
    clear hm hme)
  have hm' : m = 1024 := HM.out.trans HF.out
  subst hm'
  go_wp2_with fail
  have hB3 := below3R (B := w.heap.size + 1) HB.out (by omega) (.int .i64 3) (.int .i64 0) (.string emp)
  exact res2_end (r := ⟨3, 0, emp⟩) Try.results18 rfl rfl rfl (row3R (B := w.heap.size + 1) H2.out _ _ _) ⟨A, c, rfl, by first | exact ⟨(HA.out.below hB3).more hB3.size, .inl rfl, hB3⟩ | exact ⟨(HA.out.below hB3.drew).more hB3.size, .inl rfl, hB3.drew⟩⟩

set_option maxRecDepth 100000 in
set_option maxHeartbeats 4000000 in
theorem doRef_behind (A : Option Addr) (c : Nat) (cs : List Cell) (s : Int) (v : ByteArray) (hv : v.size ≤ 9223372036854775807) (w : World) (ha : Rd Cell.cells 2 w w.heap.size A cs) (hl : (cs.length + 2) * 24 ≤ 140737488355328) (hr : Rising cs) (hc : checkOp ⟨2, s, v⟩ = 0) (hf : nextC cs ≠ 1024) (g : Option ByteArray) (hg : getC cs s = g) :
    Calls Try.prog 18 #[.slice A cs.length c, .agg #[.int .i64 2, .int .i64 s, .string v]] w (DoRefPost A w (putC cs ⟨nextC cs, v⟩) ⟨1, nextC cs, v⟩) := by
  have hl' := hl
  replace hl : cs.length ≤ 9223372036854775806 := by omega
  have HF := Lib.hid hf
  clear hf
  (
    have HA := Lib.hid ha
    clear ha
    go_enter Try.func18, Try.ntmps18
    go_wp2_with fail
    refine (check_ref ⟨2, s, v⟩ hv _).mono ?_
    rintro e w1 ⟨rfl, hb1⟩
    obtain ⟨h1, h2, hs, hB⟩ := doRef_start ⟨2, s, v⟩ w w1 hb1
    simp only at h1
    have f0 : w1.frozen? ⟨w.heap.size + 1, 0, none⟩ = false := frozen_of_row w1 _ 0 _ _ h2
    have f1 : w1.frozen? ⟨w.heap.size + 1, 1, none⟩ = false := frozen_of_row w1 _ 1 _ _ h2
    have f2 : w1.frozen? ⟨w.heap.size + 1, 2, none⟩ = false := frozen_of_row w1 _ 2 _ _ h2
    have c0 : w1.cell? ⟨w.heap.size + 1, 0, none⟩ = some (.int .i64 0) := cell_of_row w1 _ 0 _ _ _ h2
    have c1 : w1.cell? ⟨w.heap.size + 1, 1, none⟩ = some (.int .i64 0) := cell_of_row w1 _ 1 _ _ _ h2
    have c2 : w1.cell? ⟨w.heap.size + 1, 2, none⟩ = some (.string ⟨#[]⟩) := cell_of_row w1 _ 2 _ _ _ h2
    have d0 : w1.cell? ⟨w.heap.size, 0, none⟩ = some (.int .i64 2) := cell_of_row w1 _ 0 _ _ _ h1
    have d1 : w1.cell? ⟨w.heap.size, 1, none⟩ = some (.int .i64 s) := cell_of_row w1 _ 1 _ _ _ h1
    have d2 : w1.cell? ⟨w.heap.size, 2, none⟩ = some (.string v) := cell_of_row w1 _ 2 _ _ _ h1
    have hget := get_ref A c cs.length cs s rfl w1 hl (HA.out.below hB |>.more hB.size)
    rw [hg] at hget
    try simp only [Option.getD_some, Option.isSome_some, Option.getD_none, Option.isSome_none, emp] at hget
    have H2 := Lib.hid h2
    have HB := Lib.hid hB
    have HG := Lib.hid hget
    have HS := Lib.hid hs
    rw [hc]
    clear hc hb1 h1 h2 hB hget hs
    go_wp2_with fail
    refine HG.out.mono ?_
    rintro e w2 ⟨rfl, hw2⟩
    subst hw2
    clear HG
    go_wp2_with fail)
  (
    have HR := Lib.hid hr
    clear hr
    go_loopw [8, 9] (fun u i wr => ∃ (j : Nat) (m : Int), j ≤ cs.length ∧ i = .int .i64 j ∧ u = .int .i64 m ∧ Hid (m = nextC (cs.take j)) ∧ 0 ≤ m ∧ m ≤ 1024 ∧ wr = w2) (fun _ i _ => cs.length - (intOf i).toNat)
    case atStart => exact ⟨0, 0, by omega, rfl, rfl, (show (0 : Int) = nextC (cs.take 0) by simp [nextC]), by omega, by omega, by first | rfl | trivial⟩
    obtain ⟨j, m, hj, rfl, rfl, hm, hm0, hm1, rfl⟩ := hrel
    by_cases hj1 : j < cs.length
    case pos =>
      obtain ⟨ad, hA, _, hca⟩ := ((HA.out.below HB.out).more HB.out.size).at_ hj1
      subst hA
      obtain ⟨y0, y1⟩ := hca.two
      have g1 : (j:Int) < (cs.length : Int) := by omega
      obtain ⟨hn1, hn2⟩ := nextC_take HR.out hj1
      have hgd := HR.out.good cs[j] (by simp)
      obtain ⟨hgd0, hgd1, _⟩ := hgd
      rw [← hm.out] at hn1
      have HN := Lib.hid hn2
      clear hca hn2 hm
      generalize cs[j] = y at *
      have hge : (y.slot ≥ m) = True := by simpa using hn1
      have hge2 : decide (m ≤ y.slot) = true := by simpa using hn1
      have hadd : IntKind.i64.wrap (y.slot + 1) = y.slot + 1 := IntWalk.i64_in _ (by omega)
      go_wp2_with fail
      go_roundw
      case rel => exact ⟨j + 1, y.slot + 1, by omega, by go_num, by go_num, HN.out.symm, by omega, by omega, by first | rfl | trivial⟩
      case measure => simp [intOf]; omega
    have g1 : decide ((j:Int) < (cs.length : Int)) = false := by simp; omega
    have hme : m = nextC cs := by have := hm.out; rwa [List.take_of_length_le (by omega)] at this
    have HM := Lib.hid hme
    clear hm hme)
  have hlt : m < 1024 := by have h1 := HM.out; have h2 := HF.out; rw [← h1] at h2; omega
  have hge1 : decide (1024 ≤ m) = false := by simp; omega
  have hge2 : (m ≥ 1024) = False := by simp; omega
  go_wp2_with fail
  go_region_held3 (fun w' => w'.cell? ⟨w.heap.size, 1, none⟩ = some (.int .i64 s) ∧ w'.cell? ⟨w.heap.size, 2, none⟩ = some (.string v))
    (first | go_keep)
    (first
      | (go_at_call 49
         refine (put_ref A c cs.length cs ⟨m, v⟩ rfl wr.drew hl' (by exact (HA.out.below HB.out).more HB.out.size)).mono ?_
         rintro e w3 ⟨v3, rfl, hm3, hb3⟩
         obtain ⟨A3, c3, hv3, hc3⟩ := hm3.form
         subst hv3
         have hs3 : wr.heap.size ≤ w3.heap.size := hb3.size
         have i2 : w3.heap[w.heap.size + 1]? = some (.cells #[.int .i64 0, .int .i64 0, .string ⟨#[]⟩] 40 (0, 0)) := (hb3.block _ (by show w.heap.size + 1 < wr.heap.size; have := HS.out; omega)).trans H2.out
         have j0 : w3.frozen? ⟨w.heap.size + 1, 0, none⟩ = false := frozen_of_row w3 _ 0 _ _ i2
         have j1 : w3.frozen? ⟨w.heap.size + 1, 1, none⟩ = false := frozen_of_row w3 _ 1 _ _ i2
         have j2 : w3.frozen? ⟨w.heap.size + 1, 2, none⟩ = false := frozen_of_row w3 _ 2 _ _ i2
         have k0 : w3.cell? ⟨w.heap.size + 1, 0, none⟩ = some (.int .i64 0) := cell_of_row w3 _ 0 _ _ _ i2
         have k1 : w3.cell? ⟨w.heap.size + 1, 1, none⟩ = some (.int .i64 0) := cell_of_row w3 _ 1 _ _ _ i2
         have k2 : w3.cell? ⟨w.heap.size + 1, 2, none⟩ = some (.string ⟨#[]⟩) := cell_of_row w3 _ 2 _ _ _ i2
         have l1 : w3.cell? ⟨w.heap.size, 1, none⟩ = some (.int .i64 s) := (hb3.cell (p := ⟨w.heap.size, 1, none⟩) (by show w.heap.size < wr.heap.size; have := HS.out; omega)).trans d1
         have l2 : w3.cell? ⟨w.heap.size, 2, none⟩ = some (.string v) := (hb3.cell (p := ⟨w.heap.size, 2, none⟩) (by show w.heap.size < wr.heap.size; have := HS.out; omega)).trans d2
         have hbb : Below w.heap.size w w3 := HB.out.drew.trans (hb3.mono (by show w.heap.size ≤ wr.heap.size; exact HB.out.size))
         have HM3 := Lib.hid hm3
         have HBB := Lib.hid hbb
         have I2 := Lib.hid i2
         clear hm3 hb3 hc3 hbb i2 hs3)
      | fail)
  all_goals
    go_wp2_with fail
    have hM := HM.out
    clear HM
    subst hM
    have hB3 := below3R (B := w.heap.size + 1) HBB.out (by omega) (.int .i64 1) (.int .i64 (nextC cs)) (.string v)
    have hm4 := HM3.out.same (w' := ((w3.setCell ⟨w.heap.size + 1, 0, none⟩ (.int .i64 1)).setCell ⟨w.heap.size + 1, 1, none⟩ (.int .i64 (nextC cs))).setCell ⟨w.heap.size + 1, 2, none⟩ (.string v)) fun q hq => by
      have hq' := HM3.out.lt q hq
      have hs' := HS.out
      have hq2 : wr.heap.size ≤ q := hq'.1
      rw [Below.heap_setCell _ _ _ _ (by simp; omega), Below.heap_setCell _ _ _ _ (by simp; omega), Below.heap_setCell _ _ _ _ (by simp; omega)]
    refine res2_end (r := ⟨1, nextC cs, v⟩) Try.results18 rfl rfl rfl (row3R (B := w.heap.size + 1) I2.out _ _ _) ⟨A3, c3, rfl, ?_⟩
    exact ⟨hm4.rd encCell.len, .inr fun ad e => by subst e; have h1 := (hm4.lt ad.block (by rfl)); have h2 := HB.out.size; exact ⟨Nat.le_trans h2 h1.1, h1.2⟩, hB3⟩

/-- The reference's Do. -/
theorem do_ref (A : Option Addr) (c n : Nat) (cs : List Cell) (o : Op) (hn : n = cs.length) (hv : o.value.size ≤ 9223372036854775807) (w : World) (ha : Rd Cell.cells 2 w w.heap.size A cs) (hr : Rising cs) :
    Calls Try.prog 18 #[.slice A n c, .agg #[.int .i64 o.kind, .int .i64 o.slot, .string o.value]] w (DoRefPost A w (after cs o) (would cs o)) := by
  subst hn
  have hl := rising_length hr
  obtain ⟨k, s, v⟩ := o
  cases told cs ⟨k, s, v⟩ with
  | bad h r a => rw [r, a]; exact doRef_bad A c cs ⟨k, s, v⟩ hv w ha h
  | wrote x h k1 g r a => simp only at k1 g; subst k1; rw [r, a]; exact doRef_wrote A c cs s v hv w ha (by omega) h g
  | taken x h k1 g r a => simp only at k1 g; subst k1; rw [r, a]; exact doRef_taken A c cs s v hv w ha (by omega) h x g
  | full h k1 g r a => simp only at k1 g; subst k1; rw [r, a]; exact doRef_full A c cs s v hv w ha (by omega) hr h g _ rfl
  | behind h k1 g r a => simp only at k1 g; subst k1; rw [r, a]; exact doRef_behind A c cs s v hv w ha (by omega) hr h g _ rfl
  | found x h k1 g r a => simp only at k1 g; subst k1; rw [r, a]; exact doRef_found A c cs s v hv w ha (by omega) h x g
  | none_ h k1 g r a => simp only at k1 g; subst k1; rw [r, a]; exact doRef_none A c cs s v hv w ha (by omega) h g
  | count h k1 r a => simp only at k1; subst k1; rw [r, a]; exact doRef_count A c cs s v hv w ha (by omega) h _ rfl
end Go.Proofs.Ytmfidhlhcochoaa
