/- The ledger's Would: it answers 'would' and turns nothing that was there. Conditions: the operation's value is a Go string. -/
import Derived.Test.YtmfidhlhcochoaaLedger
namespace Go.Proofs.Ytmfidhlhcochoaa
open Go.RowKit
set_option linter.unusedVariables false
set_option linter.unusedSimpArgs false

theorem bcell {W w1 : World} (hb : Below W.heap.size W w1) : (∀ b o, b < W.heap.size → w1.cell? ⟨b, o, none⟩ = W.cell? ⟨b, o, none⟩) ∧ (∀ b o, b < W.heap.size → w1.frozen? ⟨b, o, none⟩ = W.frozen? ⟨b, o, none⟩) :=
  ⟨fun b o h => hb.cell (p := ⟨b, o, none⟩) h, fun b o h => hb.frozen (p := ⟨b, o, none⟩) h⟩

/-- The two blocks that Would lays first, and the ledger's, behind Check. -/
theorem would_start (b mb : Nat) (cs : List Cell) (o : Op) (w w1 : World) (h : Ledger w b mb cs)
    (hb1 : Below ((w.alloc (.cells #[.int .i64 o.kind, .int .i64 o.slot, .string o.value] 38)).alloc (.cells #[.int .i64 0, .int .i64 0, .string ⟨#[]⟩] 40)).heap.size ((w.alloc (.cells #[.int .i64 o.kind, .int .i64 o.slot, .string o.value] 38)).alloc (.cells #[.int .i64 0, .int .i64 0, .string ⟨#[]⟩] 40)) w1) :
    w1.heap[w.heap.size]? = some (.cells #[.int .i64 o.kind, .int .i64 o.slot, .string o.value] 38 (0, 0)) ∧ w1.heap[w.heap.size + 1]? = some (.cells #[.int .i64 0, .int .i64 0, .string ⟨#[]⟩] 40 (0, 0)) ∧ Ledger w1 b mb cs ∧ w.heap.size + 2 ≤ w1.heap.size ∧ Below w.heap.size w w1 := by
  have hs : ((w.alloc (.cells #[.int .i64 o.kind, .int .i64 o.slot, .string o.value] 38)).alloc (.cells #[.int .i64 0, .int .i64 0, .string ⟨#[]⟩] 40)).heap.size = w.heap.size + 2 := by simp
  have hB : Below w.heap.size w ((w.alloc (.cells #[.int .i64 o.kind, .int .i64 o.slot, .string o.value] 38)).alloc (.cells #[.int .i64 0, .int .i64 0, .string ⟨#[]⟩] 40)) := ((Below.refl _ _).alloc (Nat.le_refl _) _).alloc (by simp) _
  rw [hs] at hb1
  refine ⟨(hb1.block _ (by omega)).trans (heap_alloc2_old w _ _), (hb1.block _ (by omega)).trans (heap_alloc2_new w _ _), (h.below hB).same (hb1.block _ (by have := h.lt.1; omega)) (hb1.block _ (by have := h.lt.2; omega)), by have := hb1.size; omega, hB.trans (hb1.mono (by omega))⟩

theorem row3 {w : World} {B : Nat} {x y z : Value} {T : TypeId} (h : w.heap[B]? = some (.cells #[x, y, z] T (0, 0))) (a b c : Value) : (((w.setCell ⟨B, 0, none⟩ a).setCell ⟨B, 1, none⟩ b).setCell ⟨B, 2, none⟩ c).heap[B]? = some (.cells #[a, b, c] T (0, 0)) := by
  rw [heap_setCell_same _ _ _ _ _ _ (heap_setCell_same _ _ _ _ _ _ (heap_setCell_same _ _ _ _ _ _ h))]
  rfl
theorem below3 {W w : World} {B : Nat} (h : Below W.heap.size W w) (hB : W.heap.size ≤ B) (a b c : Value) : Below W.heap.size W (((w.setCell ⟨B, 0, none⟩ a).setCell ⟨B, 1, none⟩ b).setCell ⟨B, 2, none⟩ c) :=
  ((h.setCell (p := ⟨B, 0, none⟩) hB a).setCell (p := ⟨B, 1, none⟩) hB b).setCell (p := ⟨B, 2, none⟩) hB c
theorem sizeRes : (Try.prog.info? 40).map (·.size) = some 3 := by kernel_rfl
/-- The end of Would and of Do: the result's block is read. -/
theorem res_end {fn : Func} {p : Tmp} (hres : fn.results = #[.cell p 40]) {R : Ending → World → Prop} {a : Act} {w : World} {B : Nat} {r : Res} {T : TypeId} (hp : a.tmps.getD p undef = .pointer (some ⟨B, 0, none⟩)) (hd : a.defers = [])
    (h : w.heap[B]? = some (.cells #[.int .i64 r.code, .int .i64 r.slot, .string r.value] T (0, 0))) (hR : R (.returned (.agg #[.int .i64 r.code, .int .i64 r.slot, .string r.value])) w) : bodyPost Try.prog fn R .ret a w :=
  bodyPost_ret (results_cell_row hres a.tmps w B T _ (0, 0) _ hp h Try.underlying40 rfl sizeRes) hd hR

set_option maxRecDepth 100000 in
set_option maxHeartbeats 2000000 in
theorem would_bad (b mb : Nat) (cs : List Cell) (o : Op) (hv : o.value.size ≤ 9223372036854775807) (w : World) (h : Ledger w b mb cs) (hc : checkOp o ≠ 0) :
    Calls Try.prog 79 #[.pointer (some ⟨b, 0, none⟩), .agg #[.int .i64 o.kind, .int .i64 o.slot, .string o.value]] w fun e w' => e = .returned (.agg #[.int .i64 zres.code, .int .i64 zres.slot, .string zres.value]) ∧ Below w.heap.size w w' := by
  go_enter Try.func79, Try.ntmps79
  go_wp2_with fail
  refine (check_prog o hv _).mono ?_
  rintro e w1 ⟨rfl, hb1⟩
  obtain ⟨h1, h2, h3, hs, hB⟩ := would_start b mb cs o w w1 h hb1
  have hne : (checkOp o != 0) = true := by simpa using hc
  have f0 : w1.frozen? ⟨w.heap.size + 1, 0, none⟩ = false := frozen_of_row w1 _ 0 _ _ h2
  have f1 : w1.frozen? ⟨w.heap.size + 1, 1, none⟩ = false := frozen_of_row w1 _ 1 _ _ h2
  have f2 : w1.frozen? ⟨w.heap.size + 1, 2, none⟩ = false := frozen_of_row w1 _ 2 _ _ h2
  have c0 : w1.cell? ⟨w.heap.size + 1, 0, none⟩ = some (.int .i64 0) := cell_of_row w1 _ 0 _ _ _ h2
  have c1 : w1.cell? ⟨w.heap.size + 1, 1, none⟩ = some (.int .i64 0) := cell_of_row w1 _ 1 _ _ _ h2
  have c2 : w1.cell? ⟨w.heap.size + 1, 2, none⟩ = some (.string ⟨#[]⟩) := cell_of_row w1 _ 2 _ _ _ h2
  have H2 := Lib.hid h2
  clear hc hb1 h1 h2 h3
  generalize checkOp o = r at *
  go_wp2
  exact res_end Try.results79 rfl rfl (row3 (B := w.heap.size + 1) H2.out _ _ _) ⟨rfl, below3 hB (by omega) _ _ _⟩

set_option maxRecDepth 100000 in
set_option maxHeartbeats 4000000 in
theorem would_w1 (b mb : Nat) (cs : List Cell) (s : Int) (v : ByteArray) (hv : v.size ≤ 9223372036854775807) (w : World) (h : Ledger w b mb cs) (hc : checkOp ⟨1, s, v⟩ = 0) (x : ByteArray) (hg : getC cs s = some x) :
    Calls Try.prog 79 #[.pointer (some ⟨b, 0, none⟩), .agg #[.int .i64 1, .int .i64 s, .string v]] w fun e w' => e = .returned (.agg #[.int .i64 2, .int .i64 s, .string x]) ∧ Below w.heap.size w w' := by
  go_enter Try.func79, Try.ntmps79
  go_wp2_with fail
  refine (check_prog ⟨1, s, v⟩ hv _).mono ?_
  rintro e w1 ⟨rfl, hb1⟩
  obtain ⟨h1, h2, h3, hs, hB⟩ := would_start b mb cs ⟨1, s, v⟩ w w1 h hb1
  simp only at h1
  obtain ⟨ps, hb, hm, hp, hr⟩ := h3
  have hl : look ps s = some x := (look_cells hp hr s).trans hg
  have d1 : w1.cell? ⟨w.heap.size, 1, none⟩ = some (.int .i64 s) := cell_of_row w1 _ 1 _ _ _ h1
  have e0 : w1.cell? ⟨b, 0, none⟩ = some (.map (some mb)) := cell_of_row w1 b 0 _ _ _ hb
  have hlk := fun (W : World) (hW : MapIs evS W mb ps) => hW.lookup (P := Try.prog) (T := 153) undMap undInt (zeroV W) s true
  have l1 := hlk w1.drew hm
  have l2 := hlk (w1.alloc (.cells #[.string ⟨#[]⟩] 183)).drew (hm.same (Below.heap_alloc _ _ _ hm.lt))
  have hV : ((look ps s).map evS).getD (evS emp) = .agg #[.string x] := by rw [hl]; rfl
  have hS : (look ps s).isSome = true := by rw [hl]; rfl
  rw [if_pos rfl, hV, hS] at l1 l2
  have hbl : b < w1.heap.size := (Array.getElem?_eq_some_iff.1 hb).1
  have d1a : (w1.alloc (.cells #[.string ⟨#[]⟩] 183)).cell? ⟨w.heap.size, 1, none⟩ = some (.int .i64 s) := (World.cell?_alloc_lt _ _ _ (by show w.heap.size < w1.heap.size; omega)).trans d1
  have e0a : (w1.alloc (.cells #[.string ⟨#[]⟩] 183)).cell? ⟨b, 0, none⟩ = some (.map (some mb)) := (World.cell?_alloc_lt _ _ _ hbl).trans e0
  have hll : ps.length = cs.length := by simpa using hp.length_eq
  obtain ⟨W2, hW2⟩ : ∃ W2, W2 = (w1.alloc (.cells #[.string x] 183)).drew := ⟨_, rfl⟩
  have hk2 : ∀ k, k < w1.heap.size → W2.heap[k]? = w1.heap[k]? := fun k hk => by rw [hW2]; exact Below.heap_alloc _ _ _ hk
  have H1 := (hk2 w.heap.size (by omega)).trans h1
  have H2 := (hk2 (w.heap.size + 1) (by omega)).trans h2
  have H3 := (hk2 b hbl).trans hb
  have H4 : W2.heap[w1.heap.size]? = some (.cells #[.string x] 183 (0, 0)) := by rw [hW2]; exact heap_alloc_new _ _
  have hm2 := hm.same (hk2 mb hm.lt)
  have hB2 : Below w.heap.size w W2 := by rw [hW2]; exact (hB.alloc hB.size _).drew
  have HW2 := Lib.hid hW2
  have HL := Lib.hid hll
  have HB2 := Lib.hid hB2
  rw [hc]
  clear hb1 h1 h2 hb hr hp hlk hV hS hl hc hm hW2 hk2 hll hB hB2 h
  go_wp2_with fail
  go_region
  all_goals
    clear l1 l2 d1a e0a d1 e0
    rw [← HW2.out]
    have g0 : W2.cell? ⟨w1.heap.size, 0, none⟩ = some (.string x) := cell_of_row W2 _ 0 _ _ _ H4
    have f0 : W2.frozen? ⟨w.heap.size + 1, 0, none⟩ = false := frozen_of_row W2 _ 0 _ _ H2
    have f1 : W2.frozen? ⟨w.heap.size + 1, 1, none⟩ = false := frozen_of_row W2 _ 1 _ _ H2
    have f2 : W2.frozen? ⟨w.heap.size + 1, 2, none⟩ = false := frozen_of_row W2 _ 2 _ _ H2
    have c0 : W2.cell? ⟨w.heap.size + 1, 0, none⟩ = some (.int .i64 0) := cell_of_row W2 _ 0 _ _ _ H2
    have c1 : W2.cell? ⟨w.heap.size + 1, 1, none⟩ = some (.int .i64 0) := cell_of_row W2 _ 1 _ _ _ H2
    have c2 : W2.cell? ⟨w.heap.size + 1, 2, none⟩ = some (.string ⟨#[]⟩) := cell_of_row W2 _ 2 _ _ _ H2
    have d0 : W2.cell? ⟨w.heap.size, 0, none⟩ = some (.int .i64 1) := cell_of_row W2 _ 0 _ _ _ H1
    have d1 : W2.cell? ⟨w.heap.size, 1, none⟩ = some (.int .i64 s) := cell_of_row W2 _ 1 _ _ _ H1
    have d2 : W2.cell? ⟨w.heap.size, 2, none⟩ = some (.string v) := cell_of_row W2 _ 2 _ _ _ H1
    have e0 : W2.cell? ⟨b, 0, none⟩ = some (.map (some mb)) := cell_of_row W2 b 0 _ _ _ H3
    have e1 : W2.cell? ⟨b, 1, none⟩ = some (.int .i64 (nextC cs)) := cell_of_row W2 b 1 _ _ _ H3
    have HH2 := Lib.hid H2
    clear hm2
    clear H1 H2 H3 H4
    go_wp2
    exact res_end (r := ⟨2, s, x⟩) Try.results79 rfl rfl (row3 (B := w.heap.size + 1) HH2.out _ _ _) ⟨rfl, below3 HB2.out (by omega) _ _ _⟩

set_option maxRecDepth 100000 in
set_option maxHeartbeats 4000000 in
theorem would_w0 (b mb : Nat) (cs : List Cell) (s : Int) (v : ByteArray) (hv : v.size ≤ 9223372036854775807) (w : World) (h : Ledger w b mb cs) (hc : checkOp ⟨1, s, v⟩ = 0) (hg : getC cs s = none) :
    Calls Try.prog 79 #[.pointer (some ⟨b, 0, none⟩), .agg #[.int .i64 1, .int .i64 s, .string v]] w fun e w' => e = .returned (.agg #[.int .i64 1, .int .i64 s, .string v]) ∧ Below w.heap.size w w' := by
  go_enter Try.func79, Try.ntmps79
  go_wp2_with fail
  refine (check_prog ⟨1, s, v⟩ hv _).mono ?_
  rintro e w1 ⟨rfl, hb1⟩
  obtain ⟨h1, h2, h3, hs, hB⟩ := would_start b mb cs ⟨1, s, v⟩ w w1 h hb1
  simp only at h1
  obtain ⟨ps, hb, hm, hp, hr⟩ := h3
  have hl : look ps s = none := (look_cells hp hr s).trans hg
  have d1 : w1.cell? ⟨w.heap.size, 1, none⟩ = some (.int .i64 s) := cell_of_row w1 _ 1 _ _ _ h1
  have e0 : w1.cell? ⟨b, 0, none⟩ = some (.map (some mb)) := cell_of_row w1 b 0 _ _ _ hb
  have hlk := fun (W : World) (hW : MapIs evS W mb ps) => hW.lookup (P := Try.prog) (T := 153) undMap undInt (zeroV W) s true
  have l1 := hlk w1.drew hm
  have l2 := hlk (w1.alloc (.cells #[.string ⟨#[]⟩] 183)).drew (hm.same (Below.heap_alloc _ _ _ hm.lt))
  have hV : ((look ps s).map evS).getD (evS emp) = .agg #[.string emp] := by rw [hl]; rfl
  have hS : (look ps s).isSome = false := by rw [hl]; rfl
  rw [if_pos rfl, hV, hS] at l1 l2
  have hbl : b < w1.heap.size := (Array.getElem?_eq_some_iff.1 hb).1
  have d1a : (w1.alloc (.cells #[.string ⟨#[]⟩] 183)).cell? ⟨w.heap.size, 1, none⟩ = some (.int .i64 s) := (World.cell?_alloc_lt _ _ _ (by show w.heap.size < w1.heap.size; omega)).trans d1
  have e0a : (w1.alloc (.cells #[.string ⟨#[]⟩] 183)).cell? ⟨b, 0, none⟩ = some (.map (some mb)) := (World.cell?_alloc_lt _ _ _ hbl).trans e0
  have hll : ps.length = cs.length := by simpa using hp.length_eq
  obtain ⟨W2, hW2⟩ : ∃ W2, W2 = (w1.alloc (.cells #[.string emp] 183)).drew := ⟨_, rfl⟩
  have hk2 : ∀ k, k < w1.heap.size → W2.heap[k]? = w1.heap[k]? := fun k hk => by rw [hW2]; exact Below.heap_alloc _ _ _ hk
  have H1 := (hk2 w.heap.size (by omega)).trans h1
  have H2 := (hk2 (w.heap.size + 1) (by omega)).trans h2
  have H3 := (hk2 b hbl).trans hb
  have H4 : W2.heap[w1.heap.size]? = some (.cells #[.string emp] 183 (0, 0)) := by rw [hW2]; exact heap_alloc_new _ _
  have hm2 := hm.same (hk2 mb hm.lt)
  have hB2 : Below w.heap.size w W2 := by rw [hW2]; exact (hB.alloc hB.size _).drew
  have HW2 := Lib.hid hW2
  have HL := Lib.hid hll
  have HB2 := Lib.hid hB2
  rw [hc]
  clear hb1 h1 h2 hb hr hp hlk hV hS hl hc hm hW2 hk2 hll hB hB2 h
  go_wp2_with fail
  go_region
  all_goals
    clear l1 l2 d1a e0a d1 e0
    rw [← HW2.out]
    have g0 : W2.cell? ⟨w1.heap.size, 0, none⟩ = some (.string emp) := cell_of_row W2 _ 0 _ _ _ H4
    have f0 : W2.frozen? ⟨w.heap.size + 1, 0, none⟩ = false := frozen_of_row W2 _ 0 _ _ H2
    have f1 : W2.frozen? ⟨w.heap.size + 1, 1, none⟩ = false := frozen_of_row W2 _ 1 _ _ H2
    have f2 : W2.frozen? ⟨w.heap.size + 1, 2, none⟩ = false := frozen_of_row W2 _ 2 _ _ H2
    have c0 : W2.cell? ⟨w.heap.size + 1, 0, none⟩ = some (.int .i64 0) := cell_of_row W2 _ 0 _ _ _ H2
    have c1 : W2.cell? ⟨w.heap.size + 1, 1, none⟩ = some (.int .i64 0) := cell_of_row W2 _ 1 _ _ _ H2
    have c2 : W2.cell? ⟨w.heap.size + 1, 2, none⟩ = some (.string ⟨#[]⟩) := cell_of_row W2 _ 2 _ _ _ H2
    have d0 : W2.cell? ⟨w.heap.size, 0, none⟩ = some (.int .i64 1) := cell_of_row W2 _ 0 _ _ _ H1
    have d1 : W2.cell? ⟨w.heap.size, 1, none⟩ = some (.int .i64 s) := cell_of_row W2 _ 1 _ _ _ H1
    have d2 : W2.cell? ⟨w.heap.size, 2, none⟩ = some (.string v) := cell_of_row W2 _ 2 _ _ _ H1
    have e0 : W2.cell? ⟨b, 0, none⟩ = some (.map (some mb)) := cell_of_row W2 b 0 _ _ _ H3
    have e1 : W2.cell? ⟨b, 1, none⟩ = some (.int .i64 (nextC cs)) := cell_of_row W2 b 1 _ _ _ H3
    have HH2 := Lib.hid H2
    clear hm2
    clear H1 H2 H3 H4
    go_wp2
    exact res_end (r := ⟨1, s, v⟩) Try.results79 rfl rfl (row3 (B := w.heap.size + 1) HH2.out _ _ _) ⟨rfl, below3 HB2.out (by omega) _ _ _⟩

set_option maxRecDepth 100000 in
set_option maxHeartbeats 4000000 in
theorem would_r1 (b mb : Nat) (cs : List Cell) (s : Int) (v : ByteArray) (hv : v.size ≤ 9223372036854775807) (w : World) (h : Ledger w b mb cs) (hc : checkOp ⟨3, s, v⟩ = 0) (x : ByteArray) (hg : getC cs s = some x) :
    Calls Try.prog 79 #[.pointer (some ⟨b, 0, none⟩), .agg #[.int .i64 3, .int .i64 s, .string v]] w fun e w' => e = .returned (.agg #[.int .i64 4, .int .i64 s, .string x]) ∧ Below w.heap.size w w' := by
  go_enter Try.func79, Try.ntmps79
  go_wp2_with fail
  refine (check_prog ⟨3, s, v⟩ hv _).mono ?_
  rintro e w1 ⟨rfl, hb1⟩
  obtain ⟨h1, h2, h3, hs, hB⟩ := would_start b mb cs ⟨3, s, v⟩ w w1 h hb1
  simp only at h1
  obtain ⟨ps, hb, hm, hp, hr⟩ := h3
  have hl : look ps s = some x := (look_cells hp hr s).trans hg
  have d1 : w1.cell? ⟨w.heap.size, 1, none⟩ = some (.int .i64 s) := cell_of_row w1 _ 1 _ _ _ h1
  have e0 : w1.cell? ⟨b, 0, none⟩ = some (.map (some mb)) := cell_of_row w1 b 0 _ _ _ hb
  have hlk := fun (W : World) (hW : MapIs evS W mb ps) => hW.lookup (P := Try.prog) (T := 153) undMap undInt (zeroV W) s true
  have l1 := hlk w1.drew hm
  have l2 := hlk (w1.alloc (.cells #[.string ⟨#[]⟩] 183)).drew (hm.same (Below.heap_alloc _ _ _ hm.lt))
  have hV : ((look ps s).map evS).getD (evS emp) = .agg #[.string x] := by rw [hl]; rfl
  have hS : (look ps s).isSome = true := by rw [hl]; rfl
  rw [if_pos rfl, hV, hS] at l1 l2
  have hbl : b < w1.heap.size := (Array.getElem?_eq_some_iff.1 hb).1
  have d1a : (w1.alloc (.cells #[.string ⟨#[]⟩] 183)).cell? ⟨w.heap.size, 1, none⟩ = some (.int .i64 s) := (World.cell?_alloc_lt _ _ _ (by show w.heap.size < w1.heap.size; omega)).trans d1
  have e0a : (w1.alloc (.cells #[.string ⟨#[]⟩] 183)).cell? ⟨b, 0, none⟩ = some (.map (some mb)) := (World.cell?_alloc_lt _ _ _ hbl).trans e0
  have hll : ps.length = cs.length := by simpa using hp.length_eq
  obtain ⟨W2, hW2⟩ : ∃ W2, W2 = (w1.alloc (.cells #[.string x] 183)).drew := ⟨_, rfl⟩
  have hk2 : ∀ k, k < w1.heap.size → W2.heap[k]? = w1.heap[k]? := fun k hk => by rw [hW2]; exact Below.heap_alloc _ _ _ hk
  have H1 := (hk2 w.heap.size (by omega)).trans h1
  have H2 := (hk2 (w.heap.size + 1) (by omega)).trans h2
  have H3 := (hk2 b hbl).trans hb
  have H4 : W2.heap[w1.heap.size]? = some (.cells #[.string x] 183 (0, 0)) := by rw [hW2]; exact heap_alloc_new _ _
  have hm2 := hm.same (hk2 mb hm.lt)
  have hB2 : Below w.heap.size w W2 := by rw [hW2]; exact (hB.alloc hB.size _).drew
  have HW2 := Lib.hid hW2
  have HL := Lib.hid hll
  have HB2 := Lib.hid hB2
  rw [hc]
  clear hb1 h1 h2 hb hr hp hlk hV hS hl hc hm hW2 hk2 hll hB hB2 h
  go_wp2_with fail
  go_region
  all_goals
    clear l1 l2 d1a e0a d1 e0
    rw [← HW2.out]
    have g0 : W2.cell? ⟨w1.heap.size, 0, none⟩ = some (.string x) := cell_of_row W2 _ 0 _ _ _ H4
    have f0 : W2.frozen? ⟨w.heap.size + 1, 0, none⟩ = false := frozen_of_row W2 _ 0 _ _ H2
    have f1 : W2.frozen? ⟨w.heap.size + 1, 1, none⟩ = false := frozen_of_row W2 _ 1 _ _ H2
    have f2 : W2.frozen? ⟨w.heap.size + 1, 2, none⟩ = false := frozen_of_row W2 _ 2 _ _ H2
    have c0 : W2.cell? ⟨w.heap.size + 1, 0, none⟩ = some (.int .i64 0) := cell_of_row W2 _ 0 _ _ _ H2
    have c1 : W2.cell? ⟨w.heap.size + 1, 1, none⟩ = some (.int .i64 0) := cell_of_row W2 _ 1 _ _ _ H2
    have c2 : W2.cell? ⟨w.heap.size + 1, 2, none⟩ = some (.string ⟨#[]⟩) := cell_of_row W2 _ 2 _ _ _ H2
    have d0 : W2.cell? ⟨w.heap.size, 0, none⟩ = some (.int .i64 3) := cell_of_row W2 _ 0 _ _ _ H1
    have d1 : W2.cell? ⟨w.heap.size, 1, none⟩ = some (.int .i64 s) := cell_of_row W2 _ 1 _ _ _ H1
    have d2 : W2.cell? ⟨w.heap.size, 2, none⟩ = some (.string v) := cell_of_row W2 _ 2 _ _ _ H1
    have e0 : W2.cell? ⟨b, 0, none⟩ = some (.map (some mb)) := cell_of_row W2 b 0 _ _ _ H3
    have e1 : W2.cell? ⟨b, 1, none⟩ = some (.int .i64 (nextC cs)) := cell_of_row W2 b 1 _ _ _ H3
    have HH2 := Lib.hid H2
    clear hm2
    clear H1 H2 H3 H4
    go_wp2
    exact res_end (r := ⟨4, s, x⟩) Try.results79 rfl rfl (row3 (B := w.heap.size + 1) HH2.out _ _ _) ⟨rfl, below3 HB2.out (by omega) _ _ _⟩

set_option maxRecDepth 100000 in
set_option maxHeartbeats 4000000 in
theorem would_r0 (b mb : Nat) (cs : List Cell) (s : Int) (v : ByteArray) (hv : v.size ≤ 9223372036854775807) (w : World) (h : Ledger w b mb cs) (hc : checkOp ⟨3, s, v⟩ = 0) (hg : getC cs s = none) :
    Calls Try.prog 79 #[.pointer (some ⟨b, 0, none⟩), .agg #[.int .i64 3, .int .i64 s, .string v]] w fun e w' => e = .returned (.agg #[.int .i64 5, .int .i64 s, .string emp]) ∧ Below w.heap.size w w' := by
  go_enter Try.func79, Try.ntmps79
  go_wp2_with fail
  refine (check_prog ⟨3, s, v⟩ hv _).mono ?_
  rintro e w1 ⟨rfl, hb1⟩
  obtain ⟨h1, h2, h3, hs, hB⟩ := would_start b mb cs ⟨3, s, v⟩ w w1 h hb1
  simp only at h1
  obtain ⟨ps, hb, hm, hp, hr⟩ := h3
  have hl : look ps s = none := (look_cells hp hr s).trans hg
  have d1 : w1.cell? ⟨w.heap.size, 1, none⟩ = some (.int .i64 s) := cell_of_row w1 _ 1 _ _ _ h1
  have e0 : w1.cell? ⟨b, 0, none⟩ = some (.map (some mb)) := cell_of_row w1 b 0 _ _ _ hb
  have hlk := fun (W : World) (hW : MapIs evS W mb ps) => hW.lookup (P := Try.prog) (T := 153) undMap undInt (zeroV W) s true
  have l1 := hlk w1.drew hm
  have l2 := hlk (w1.alloc (.cells #[.string ⟨#[]⟩] 183)).drew (hm.same (Below.heap_alloc _ _ _ hm.lt))
  have hV : ((look ps s).map evS).getD (evS emp) = .agg #[.string emp] := by rw [hl]; rfl
  have hS : (look ps s).isSome = false := by rw [hl]; rfl
  rw [if_pos rfl, hV, hS] at l1 l2
  have hbl : b < w1.heap.size := (Array.getElem?_eq_some_iff.1 hb).1
  have d1a : (w1.alloc (.cells #[.string ⟨#[]⟩] 183)).cell? ⟨w.heap.size, 1, none⟩ = some (.int .i64 s) := (World.cell?_alloc_lt _ _ _ (by show w.heap.size < w1.heap.size; omega)).trans d1
  have e0a : (w1.alloc (.cells #[.string ⟨#[]⟩] 183)).cell? ⟨b, 0, none⟩ = some (.map (some mb)) := (World.cell?_alloc_lt _ _ _ hbl).trans e0
  have hll : ps.length = cs.length := by simpa using hp.length_eq
  obtain ⟨W2, hW2⟩ : ∃ W2, W2 = (w1.alloc (.cells #[.string emp] 183)).drew := ⟨_, rfl⟩
  have hk2 : ∀ k, k < w1.heap.size → W2.heap[k]? = w1.heap[k]? := fun k hk => by rw [hW2]; exact Below.heap_alloc _ _ _ hk
  have H1 := (hk2 w.heap.size (by omega)).trans h1
  have H2 := (hk2 (w.heap.size + 1) (by omega)).trans h2
  have H3 := (hk2 b hbl).trans hb
  have H4 : W2.heap[w1.heap.size]? = some (.cells #[.string emp] 183 (0, 0)) := by rw [hW2]; exact heap_alloc_new _ _
  have hm2 := hm.same (hk2 mb hm.lt)
  have hB2 : Below w.heap.size w W2 := by rw [hW2]; exact (hB.alloc hB.size _).drew
  have HW2 := Lib.hid hW2
  have HL := Lib.hid hll
  have HB2 := Lib.hid hB2
  rw [hc]
  clear hb1 h1 h2 hb hr hp hlk hV hS hl hc hm hW2 hk2 hll hB hB2 h
  go_wp2_with fail
  go_region
  all_goals
    clear l1 l2 d1a e0a d1 e0
    rw [← HW2.out]
    have g0 : W2.cell? ⟨w1.heap.size, 0, none⟩ = some (.string emp) := cell_of_row W2 _ 0 _ _ _ H4
    have f0 : W2.frozen? ⟨w.heap.size + 1, 0, none⟩ = false := frozen_of_row W2 _ 0 _ _ H2
    have f1 : W2.frozen? ⟨w.heap.size + 1, 1, none⟩ = false := frozen_of_row W2 _ 1 _ _ H2
    have f2 : W2.frozen? ⟨w.heap.size + 1, 2, none⟩ = false := frozen_of_row W2 _ 2 _ _ H2
    have c0 : W2.cell? ⟨w.heap.size + 1, 0, none⟩ = some (.int .i64 0) := cell_of_row W2 _ 0 _ _ _ H2
    have c1 : W2.cell? ⟨w.heap.size + 1, 1, none⟩ = some (.int .i64 0) := cell_of_row W2 _ 1 _ _ _ H2
    have c2 : W2.cell? ⟨w.heap.size + 1, 2, none⟩ = some (.string ⟨#[]⟩) := cell_of_row W2 _ 2 _ _ _ H2
    have d0 : W2.cell? ⟨w.heap.size, 0, none⟩ = some (.int .i64 3) := cell_of_row W2 _ 0 _ _ _ H1
    have d1 : W2.cell? ⟨w.heap.size, 1, none⟩ = some (.int .i64 s) := cell_of_row W2 _ 1 _ _ _ H1
    have d2 : W2.cell? ⟨w.heap.size, 2, none⟩ = some (.string v) := cell_of_row W2 _ 2 _ _ _ H1
    have e0 : W2.cell? ⟨b, 0, none⟩ = some (.map (some mb)) := cell_of_row W2 b 0 _ _ _ H3
    have e1 : W2.cell? ⟨b, 1, none⟩ = some (.int .i64 (nextC cs)) := cell_of_row W2 b 1 _ _ _ H3
    have HH2 := Lib.hid H2
    clear hm2
    clear H1 H2 H3 H4
    go_wp2
    exact res_end (r := ⟨5, s, emp⟩) Try.results79 rfl rfl (row3 (B := w.heap.size + 1) HH2.out _ _ _) ⟨rfl, below3 HB2.out (by omega) _ _ _⟩

set_option maxRecDepth 100000 in
set_option maxHeartbeats 4000000 in
theorem would_a1 (b mb : Nat) (cs : List Cell) (s : Int) (v : ByteArray) (hv : v.size ≤ 9223372036854775807) (w : World) (h : Ledger w b mb cs) (hc : checkOp ⟨2, s, v⟩ = 0) (g : Option ByteArray) (hg : getC cs s = g) (hf : nextC cs = 1024) :
    Calls Try.prog 79 #[.pointer (some ⟨b, 0, none⟩), .agg #[.int .i64 2, .int .i64 s, .string v]] w fun e w' => e = .returned (.agg #[.int .i64 3, .int .i64 0, .string emp]) ∧ Below w.heap.size w w' := by
  go_enter Try.func79, Try.ntmps79
  go_wp2_with fail
  refine (check_prog ⟨2, s, v⟩ hv _).mono ?_
  rintro e w1 ⟨rfl, hb1⟩
  obtain ⟨h1, h2, h3, hs, hB⟩ := would_start b mb cs ⟨2, s, v⟩ w w1 h hb1
  simp only at h1
  obtain ⟨ps, hb, hm, hp, hr⟩ := h3
  have hl : look ps s = g := (look_cells hp hr s).trans hg
  have d1 : w1.cell? ⟨w.heap.size, 1, none⟩ = some (.int .i64 s) := cell_of_row w1 _ 1 _ _ _ h1
  have e0 : w1.cell? ⟨b, 0, none⟩ = some (.map (some mb)) := cell_of_row w1 b 0 _ _ _ hb
  have hlk := fun (W : World) (hW : MapIs evS W mb ps) => hW.lookup (P := Try.prog) (T := 153) undMap undInt (zeroV W) s true
  have l1 := hlk w1.drew hm
  have l2 := hlk (w1.alloc (.cells #[.string ⟨#[]⟩] 183)).drew (hm.same (Below.heap_alloc _ _ _ hm.lt))
  have hV : ((look ps s).map evS).getD (evS emp) = .agg #[.string (g.getD emp)] := by rw [hl]; cases g <;> rfl
  have hS : (look ps s).isSome = g.isSome := by rw [hl]
  rw [if_pos rfl, hV, hS] at l1 l2
  have hbl : b < w1.heap.size := (Array.getElem?_eq_some_iff.1 hb).1
  have d1a : (w1.alloc (.cells #[.string ⟨#[]⟩] 183)).cell? ⟨w.heap.size, 1, none⟩ = some (.int .i64 s) := (World.cell?_alloc_lt _ _ _ (by show w.heap.size < w1.heap.size; omega)).trans d1
  have e0a : (w1.alloc (.cells #[.string ⟨#[]⟩] 183)).cell? ⟨b, 0, none⟩ = some (.map (some mb)) := (World.cell?_alloc_lt _ _ _ hbl).trans e0
  have hll : ps.length = cs.length := by simpa using hp.length_eq
  obtain ⟨W2, hW2⟩ : ∃ W2, W2 = (w1.alloc (.cells #[.string (g.getD emp)] 183)).drew := ⟨_, rfl⟩
  have hk2 : ∀ k, k < w1.heap.size → W2.heap[k]? = w1.heap[k]? := fun k hk => by rw [hW2]; exact Below.heap_alloc _ _ _ hk
  have H1 := (hk2 w.heap.size (by omega)).trans h1
  have H2 := (hk2 (w.heap.size + 1) (by omega)).trans h2
  have H3 := (hk2 b hbl).trans hb
  have H4 : W2.heap[w1.heap.size]? = some (.cells #[.string (g.getD emp)] 183 (0, 0)) := by rw [hW2]; exact heap_alloc_new _ _
  have hm2 := hm.same (hk2 mb hm.lt)
  have hB2 : Below w.heap.size w W2 := by rw [hW2]; exact (hB.alloc hB.size _).drew
  have HW2 := Lib.hid hW2
  have HL := Lib.hid hll
  have HB2 := Lib.hid hB2
  rw [hc]
  clear hb1 h1 h2 hb hr hp hlk hV hS hl hc hm hW2 hk2 hll hB hB2 h
  go_wp2_with fail
  go_region
  all_goals
    clear l1 l2 d1a e0a d1 e0
    rw [← HW2.out]
    have g0 : W2.cell? ⟨w1.heap.size, 0, none⟩ = some (.string (g.getD emp)) := cell_of_row W2 _ 0 _ _ _ H4
    have f0 : W2.frozen? ⟨w.heap.size + 1, 0, none⟩ = false := frozen_of_row W2 _ 0 _ _ H2
    have f1 : W2.frozen? ⟨w.heap.size + 1, 1, none⟩ = false := frozen_of_row W2 _ 1 _ _ H2
    have f2 : W2.frozen? ⟨w.heap.size + 1, 2, none⟩ = false := frozen_of_row W2 _ 2 _ _ H2
    have c0 : W2.cell? ⟨w.heap.size + 1, 0, none⟩ = some (.int .i64 0) := cell_of_row W2 _ 0 _ _ _ H2
    have c1 : W2.cell? ⟨w.heap.size + 1, 1, none⟩ = some (.int .i64 0) := cell_of_row W2 _ 1 _ _ _ H2
    have c2 : W2.cell? ⟨w.heap.size + 1, 2, none⟩ = some (.string ⟨#[]⟩) := cell_of_row W2 _ 2 _ _ _ H2
    have d0 : W2.cell? ⟨w.heap.size, 0, none⟩ = some (.int .i64 2) := cell_of_row W2 _ 0 _ _ _ H1
    have d1 : W2.cell? ⟨w.heap.size, 1, none⟩ = some (.int .i64 s) := cell_of_row W2 _ 1 _ _ _ H1
    have d2 : W2.cell? ⟨w.heap.size, 2, none⟩ = some (.string v) := cell_of_row W2 _ 2 _ _ _ H1
    have e0 : W2.cell? ⟨b, 0, none⟩ = some (.map (some mb)) := cell_of_row W2 b 0 _ _ _ H3
    have e1 : W2.cell? ⟨b, 1, none⟩ = some (.int .i64 (nextC cs)) := cell_of_row W2 b 1 _ _ _ H3
    have HH2 := Lib.hid H2
    rw [hf] at e1
    clear hm2
    clear H1 H2 H3 H4
    go_wp2
    exact res_end (r := ⟨3, 0, emp⟩) Try.results79 rfl rfl (row3 (B := w.heap.size + 1) HH2.out _ _ _) ⟨rfl, below3 HB2.out (by omega) _ _ _⟩

set_option maxRecDepth 100000 in
set_option maxHeartbeats 4000000 in
theorem would_a0 (b mb : Nat) (cs : List Cell) (s : Int) (v : ByteArray) (hv : v.size ≤ 9223372036854775807) (w : World) (h : Ledger w b mb cs) (hc : checkOp ⟨2, s, v⟩ = 0) (g : Option ByteArray) (hg : getC cs s = g) (hf : nextC cs ≠ 1024) :
    Calls Try.prog 79 #[.pointer (some ⟨b, 0, none⟩), .agg #[.int .i64 2, .int .i64 s, .string v]] w fun e w' => e = .returned (.agg #[.int .i64 1, .int .i64 (nextC cs), .string v]) ∧ Below w.heap.size w w' := by
  go_enter Try.func79, Try.ntmps79
  go_wp2_with fail
  refine (check_prog ⟨2, s, v⟩ hv _).mono ?_
  rintro e w1 ⟨rfl, hb1⟩
  obtain ⟨h1, h2, h3, hs, hB⟩ := would_start b mb cs ⟨2, s, v⟩ w w1 h hb1
  simp only at h1
  obtain ⟨ps, hb, hm, hp, hr⟩ := h3
  have hl : look ps s = g := (look_cells hp hr s).trans hg
  have d1 : w1.cell? ⟨w.heap.size, 1, none⟩ = some (.int .i64 s) := cell_of_row w1 _ 1 _ _ _ h1
  have e0 : w1.cell? ⟨b, 0, none⟩ = some (.map (some mb)) := cell_of_row w1 b 0 _ _ _ hb
  have hlk := fun (W : World) (hW : MapIs evS W mb ps) => hW.lookup (P := Try.prog) (T := 153) undMap undInt (zeroV W) s true
  have l1 := hlk w1.drew hm
  have l2 := hlk (w1.alloc (.cells #[.string ⟨#[]⟩] 183)).drew (hm.same (Below.heap_alloc _ _ _ hm.lt))
  have hV : ((look ps s).map evS).getD (evS emp) = .agg #[.string (g.getD emp)] := by rw [hl]; cases g <;> rfl
  have hS : (look ps s).isSome = g.isSome := by rw [hl]
  rw [if_pos rfl, hV, hS] at l1 l2
  have hbl : b < w1.heap.size := (Array.getElem?_eq_some_iff.1 hb).1
  have d1a : (w1.alloc (.cells #[.string ⟨#[]⟩] 183)).cell? ⟨w.heap.size, 1, none⟩ = some (.int .i64 s) := (World.cell?_alloc_lt _ _ _ (by show w.heap.size < w1.heap.size; omega)).trans d1
  have e0a : (w1.alloc (.cells #[.string ⟨#[]⟩] 183)).cell? ⟨b, 0, none⟩ = some (.map (some mb)) := (World.cell?_alloc_lt _ _ _ hbl).trans e0
  have hll : ps.length = cs.length := by simpa using hp.length_eq
  obtain ⟨W2, hW2⟩ : ∃ W2, W2 = (w1.alloc (.cells #[.string (g.getD emp)] 183)).drew := ⟨_, rfl⟩
  have hk2 : ∀ k, k < w1.heap.size → W2.heap[k]? = w1.heap[k]? := fun k hk => by rw [hW2]; exact Below.heap_alloc _ _ _ hk
  have H1 := (hk2 w.heap.size (by omega)).trans h1
  have H2 := (hk2 (w.heap.size + 1) (by omega)).trans h2
  have H3 := (hk2 b hbl).trans hb
  have H4 : W2.heap[w1.heap.size]? = some (.cells #[.string (g.getD emp)] 183 (0, 0)) := by rw [hW2]; exact heap_alloc_new _ _
  have hm2 := hm.same (hk2 mb hm.lt)
  have hB2 : Below w.heap.size w W2 := by rw [hW2]; exact (hB.alloc hB.size _).drew
  have HW2 := Lib.hid hW2
  have HL := Lib.hid hll
  have HB2 := Lib.hid hB2
  rw [hc]
  clear hb1 h1 h2 hb hr hp hlk hV hS hl hc hm hW2 hk2 hll hB hB2 h
  go_wp2_with fail
  go_region
  all_goals
    clear l1 l2 d1a e0a d1 e0
    rw [← HW2.out]
    have g0 : W2.cell? ⟨w1.heap.size, 0, none⟩ = some (.string (g.getD emp)) := cell_of_row W2 _ 0 _ _ _ H4
    have f0 : W2.frozen? ⟨w.heap.size + 1, 0, none⟩ = false := frozen_of_row W2 _ 0 _ _ H2
    have f1 : W2.frozen? ⟨w.heap.size + 1, 1, none⟩ = false := frozen_of_row W2 _ 1 _ _ H2
    have f2 : W2.frozen? ⟨w.heap.size + 1, 2, none⟩ = false := frozen_of_row W2 _ 2 _ _ H2
    have c0 : W2.cell? ⟨w.heap.size + 1, 0, none⟩ = some (.int .i64 0) := cell_of_row W2 _ 0 _ _ _ H2
    have c1 : W2.cell? ⟨w.heap.size + 1, 1, none⟩ = some (.int .i64 0) := cell_of_row W2 _ 1 _ _ _ H2
    have c2 : W2.cell? ⟨w.heap.size + 1, 2, none⟩ = some (.string ⟨#[]⟩) := cell_of_row W2 _ 2 _ _ _ H2
    have d0 : W2.cell? ⟨w.heap.size, 0, none⟩ = some (.int .i64 2) := cell_of_row W2 _ 0 _ _ _ H1
    have d1 : W2.cell? ⟨w.heap.size, 1, none⟩ = some (.int .i64 s) := cell_of_row W2 _ 1 _ _ _ H1
    have d2 : W2.cell? ⟨w.heap.size, 2, none⟩ = some (.string v) := cell_of_row W2 _ 2 _ _ _ H1
    have e0 : W2.cell? ⟨b, 0, none⟩ = some (.map (some mb)) := cell_of_row W2 b 0 _ _ _ H3
    have e1 : W2.cell? ⟨b, 1, none⟩ = some (.int .i64 (nextC cs)) := cell_of_row W2 b 1 _ _ _ H3
    have HH2 := Lib.hid H2
    have hq : (nextC cs == 1024) = false := by simpa using hf
    clear hm2 hf
    generalize hqq : nextC cs = q at e1 hq
    have HQ := Lib.hid hqq
    clear hqq
    clear H1 H2 H3 H4
    go_wp2
    go_region
    all_goals go_wp2
    all_goals exact res_end (r := ⟨1, q, v⟩) Try.results79 rfl rfl (by exact row3 (B := w.heap.size + 1) HH2.out _ _ _) ⟨by rw [HQ.out], (below3 HB2.out (by omega) _ _ _).drew⟩

set_option maxRecDepth 100000 in
set_option maxHeartbeats 4000000 in
theorem would_n (b mb : Nat) (cs : List Cell) (s : Int) (v : ByteArray) (hv : v.size ≤ 9223372036854775807) (w : World) (h : Ledger w b mb cs) (hc : checkOp ⟨4, s, v⟩ = 0) (g : Option ByteArray) (hg : getC cs s = g) :
    Calls Try.prog 79 #[.pointer (some ⟨b, 0, none⟩), .agg #[.int .i64 4, .int .i64 s, .string v]] w fun e w' => e = .returned (.agg #[.int .i64 6, .int .i64 cs.length, .string emp]) ∧ Below w.heap.size w w' := by
  go_enter Try.func79, Try.ntmps79
  go_wp2_with fail
  refine (check_prog ⟨4, s, v⟩ hv _).mono ?_
  rintro e w1 ⟨rfl, hb1⟩
  obtain ⟨h1, h2, h3, hs, hB⟩ := would_start b mb cs ⟨4, s, v⟩ w w1 h hb1
  simp only at h1
  obtain ⟨ps, hb, hm, hp, hr⟩ := h3
  have hl : look ps s = g := (look_cells hp hr s).trans hg
  have d1 : w1.cell? ⟨w.heap.size, 1, none⟩ = some (.int .i64 s) := cell_of_row w1 _ 1 _ _ _ h1
  have e0 : w1.cell? ⟨b, 0, none⟩ = some (.map (some mb)) := cell_of_row w1 b 0 _ _ _ hb
  have hlk := fun (W : World) (hW : MapIs evS W mb ps) => hW.lookup (P := Try.prog) (T := 153) undMap undInt (zeroV W) s true
  have l1 := hlk w1.drew hm
  have l2 := hlk (w1.alloc (.cells #[.string ⟨#[]⟩] 183)).drew (hm.same (Below.heap_alloc _ _ _ hm.lt))
  have hV : ((look ps s).map evS).getD (evS emp) = .agg #[.string (g.getD emp)] := by rw [hl]; cases g <;> rfl
  have hS : (look ps s).isSome = g.isSome := by rw [hl]
  rw [if_pos rfl, hV, hS] at l1 l2
  have hbl : b < w1.heap.size := (Array.getElem?_eq_some_iff.1 hb).1
  have d1a : (w1.alloc (.cells #[.string ⟨#[]⟩] 183)).cell? ⟨w.heap.size, 1, none⟩ = some (.int .i64 s) := (World.cell?_alloc_lt _ _ _ (by show w.heap.size < w1.heap.size; omega)).trans d1
  have e0a : (w1.alloc (.cells #[.string ⟨#[]⟩] 183)).cell? ⟨b, 0, none⟩ = some (.map (some mb)) := (World.cell?_alloc_lt _ _ _ hbl).trans e0
  have hll : ps.length = cs.length := by simpa using hp.length_eq
  obtain ⟨W2, hW2⟩ : ∃ W2, W2 = (w1.alloc (.cells #[.string (g.getD emp)] 183)).drew := ⟨_, rfl⟩
  have hk2 : ∀ k, k < w1.heap.size → W2.heap[k]? = w1.heap[k]? := fun k hk => by rw [hW2]; exact Below.heap_alloc _ _ _ hk
  have H1 := (hk2 w.heap.size (by omega)).trans h1
  have H2 := (hk2 (w.heap.size + 1) (by omega)).trans h2
  have H3 := (hk2 b hbl).trans hb
  have H4 : W2.heap[w1.heap.size]? = some (.cells #[.string (g.getD emp)] 183 (0, 0)) := by rw [hW2]; exact heap_alloc_new _ _
  have hm2 := hm.same (hk2 mb hm.lt)
  have hB2 : Below w.heap.size w W2 := by rw [hW2]; exact (hB.alloc hB.size _).drew
  have HW2 := Lib.hid hW2
  have HL := Lib.hid hll
  have HB2 := Lib.hid hB2
  rw [hc]
  clear hb1 h1 h2 hb hr hp hlk hV hS hl hc hm hW2 hk2 hll hB hB2 h
  go_wp2_with fail
  go_region
  all_goals
    clear l1 l2 d1a e0a d1 e0
    rw [← HW2.out]
    have g0 : W2.cell? ⟨w1.heap.size, 0, none⟩ = some (.string (g.getD emp)) := cell_of_row W2 _ 0 _ _ _ H4
    have f0 : W2.frozen? ⟨w.heap.size + 1, 0, none⟩ = false := frozen_of_row W2 _ 0 _ _ H2
    have f1 : W2.frozen? ⟨w.heap.size + 1, 1, none⟩ = false := frozen_of_row W2 _ 1 _ _ H2
    have f2 : W2.frozen? ⟨w.heap.size + 1, 2, none⟩ = false := frozen_of_row W2 _ 2 _ _ H2
    have c0 : W2.cell? ⟨w.heap.size + 1, 0, none⟩ = some (.int .i64 0) := cell_of_row W2 _ 0 _ _ _ H2
    have c1 : W2.cell? ⟨w.heap.size + 1, 1, none⟩ = some (.int .i64 0) := cell_of_row W2 _ 1 _ _ _ H2
    have c2 : W2.cell? ⟨w.heap.size + 1, 2, none⟩ = some (.string ⟨#[]⟩) := cell_of_row W2 _ 2 _ _ _ H2
    have d0 : W2.cell? ⟨w.heap.size, 0, none⟩ = some (.int .i64 4) := cell_of_row W2 _ 0 _ _ _ H1
    have d1 : W2.cell? ⟨w.heap.size, 1, none⟩ = some (.int .i64 s) := cell_of_row W2 _ 1 _ _ _ H1
    have d2 : W2.cell? ⟨w.heap.size, 2, none⟩ = some (.string v) := cell_of_row W2 _ 2 _ _ _ H1
    have e0 : W2.cell? ⟨b, 0, none⟩ = some (.map (some mb)) := cell_of_row W2 b 0 _ _ _ H3
    have e1 : W2.cell? ⟨b, 1, none⟩ = some (.int .i64 (nextC cs)) := cell_of_row W2 b 1 _ _ _ H3
    have HH2 := Lib.hid H2
    have hlen := fun (ty : TypeId) => hm2.len (P := Try.prog) 153 ty undMap
    rw [HL.out] at hlen
    clear hm2
    clear H1 H2 H3 H4
    go_wp2
    exact res_end (r := ⟨6, cs.length, emp⟩) Try.results79 rfl rfl (row3 (B := w.heap.size + 1) HH2.out _ _ _) ⟨rfl, below3 HB2.out (by omega) _ _ _⟩

/-- Would: whatever the operation. -/
theorem wouldLedger (b mb : Nat) (cs : List Cell) (o : Op) (hv : o.value.size ≤ 9223372036854775807) (w : World) (h : Ledger w b mb cs) :
    Calls Try.prog 79 #[.pointer (some ⟨b, 0, none⟩), .agg #[.int .i64 o.kind, .int .i64 o.slot, .string o.value]] w fun e w' => e = .returned (.agg #[.int .i64 (would cs o).code, .int .i64 (would cs o).slot, .string (would cs o).value]) ∧ Below w.heap.size w w' := by
  by_cases hc : checkOp o = 0
  · obtain ⟨k, s, v⟩ := o
    have hk : k = 1 ∨ k = 2 ∨ k = 3 ∨ k = 4 := by
      unfold checkOp at hc
      simp only at hc
      split at hc
      · omega
      · split at hc
        · omega
        · simp at hc
    rcases hk with rfl | rfl | rfl | rfl
    · cases hg : getC cs s with
      | some x => simpa [would, hc, hg] using would_w1 b mb cs s v hv w h hc x hg
      | none => simpa [would, hc, hg] using would_w0 b mb cs s v hv w h hc hg
    · by_cases hf : nextC cs = 1024
      · simpa [would, hc, hf] using would_a1 b mb cs s v hv w h hc _ rfl hf
      · simpa [would, hc, hf] using would_a0 b mb cs s v hv w h hc _ rfl hf
    · cases hg : getC cs s with
      | some x => simpa [would, hc, hg] using would_r1 b mb cs s v hv w h hc x hg
      | none => simpa [would, hc, hg] using would_r0 b mb cs s v hv w h hc hg
    · simpa [would, hc] using would_n b mb cs s v hv w h hc _ rfl
  · have e : would cs o = zres := by simp [would, hc]
    rw [e]
    exact would_bad b mb cs o hv w h hc
end Go.Proofs.Ytmfidhlhcochoaa
