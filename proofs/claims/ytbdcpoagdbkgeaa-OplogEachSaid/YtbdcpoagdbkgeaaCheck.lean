/- oplog.Check: may a log be? Conditions: sizes within Go's own limits. -/
import Derived.Test.YtbdcpoagdbkgeaaLast
import Derived.Maps.OwnIn
namespace Go.Proofs.Ytbdcpoagdbkgeaa
open Go.RowKit Go.Shelf
set_option linter.unusedVariables false
set_option linter.unusedSimpArgs false
attribute [local go_sem] Oper.semAt_some

section
variable {α : Type} {ev : α → Value} {w w' : World} {mb : Nat} {ps : List (Int × α)} {P : Program} {T K E : TypeId} {F : Fence} {nF : Nat}
theorem wpListIn_updateM {ops : Array Oper} {rest : List Oper} {o : Oper} {a : Act} {Q : Exit → Act → World → Prop} (h : MapIs ev w mb ps) (hg : o.guard = none) (m x v : Operand) (hop : o.op = Op.mapUpdate T m x v)
    (hT : P.underlying T = some (.map K E)) (hK : P.underlying K = some (.int .i64)) (hm : a.eval m = .map (some mb)) (k : Int) (hx : a.eval x = .int .i64 k) (u : α) (hv : a.eval v = ev u)
    (hK' : ∀ w', MapIs ev w' mb (setP ps k u) → w.grownBy w' (some mb) → w'.heap.size = w.heap.size → wpListIn F nF P ops Q rest (a.put o.dst undef) w') : wpListIn F nF P ops Q (o :: rest) a w := by
  refine wpListIn_plain hg fun K1 hK1 => ?_
  obtain ⟨w', hrun, h1, h2, h3⟩ := h.update (T := T) hT hK k u
  unfold Oper.wpIn
  refine ⟨by simp [Oper.about, hop], ?_⟩
  rw [Oper.semAt_plain F _ _ (by rw [hop]; intro c hc'; cases hc')]
  simp only [execOp, hop, hm, hx, hv, Sem.run_bind, Sem.run_pure, hrun, Result.andThen_ok]
  exact hK1 _ _ (hK' w' h1 h2 h3)
end
theorem KeepsFrom.of_below {B : Nat} {a b : World} (h : Below a.heap.size a b) : KeepsFrom B a b := ⟨h.size, fun k o _ hk _ => (h.block k (Array.getElem?_eq_some_iff.1 hk).1).trans hk⟩
/-- A map below B that tells what R asks. -/
theorem map_own {α β : Type} {ev : α → Value} {B mb : Nat} (hmb : mb < B) (R : β → List (Int × α) → Prop) : OwnFrom B (fun s W => ∃ ps, MapIs ev W mb ps ∧ R s ps) := fun s X Y row hs hg hr => by
  obtain ⟨ps, hm, hR⟩ := hs
  exact ⟨ps, hm.same (hg.block mb hm.lt (fun e => by have := (hr mb e.symm).1; omega)), hR⟩
theorem ownFrom_const {β : Type} {B b : Nat} {o : Obj} (hb : b < B) : OwnFrom B (fun (_ : β) W => W.heap[b]? = some o) := fun s X Y row hs hg hr =>
  (hg.block b (Array.getElem?_eq_some_iff.1 hs).1 (fun e => by have := (hr b e.symm).1; omega)).trans hs

/-- Two named results of a cell each. -/
theorem results_two {fn : Func} {p q : Tmp} (h : fn.results = #[.cell p 36, .cell q 3]) (tmps : Array Value) (w : World) (g g' : Nat) (x y : Int) (hp : tmps.getD p undef = .pointer (some ⟨g, 0, none⟩)) (hq : tmps.getD q undef = .pointer (some ⟨g', 0, none⟩))
    (hc : w.cell? ⟨g, 0, none⟩ = some (.int .i64 x)) (hc' : w.cell? ⟨g', 0, none⟩ = some (.int .i64 y)) : (results fn tmps).run Try.prog w = .ok (.tuple #[.int .i64 x, .int .i64 y]) w := by
  have hp' : tmps[p]?.getD undef = .pointer (some ⟨g, 0, none⟩) := by simpa using hp
  have hq' : tmps[q]?.getD undef = .pointer (some ⟨g', 0, none⟩) := by simpa using hq
  simp [results, h, hp', hq', asAddr, go_sem, hc, hc', Try.underlying3, Try.underlying36]

def tells (xs : List Entry) (ps : List (Int × Int)) : Prop := ∀ c, look ps c = lastN xs c
theorem tells.snoc {xs : List Entry} {ps : List (Int × Int)} (h : tells xs ps) (x : Entry) : tells (xs ++ [x]) (setP ps x.client x.number) := fun c => by
  rw [look_setP, lastN_snoc, h c]

set_option maxRecDepth 100000 in
set_option maxHeartbeats 4000000 in
theorem check_prog_log (A : Option Addr) (c n : Nat) (xs : List Entry) (room : Int) (hn : n = xs.length) (w : World) (hl : xs.length ≤ 9223372036854775806) (hv : ∀ x ∈ xs, x.op.value.size ≤ 9223372036854775807) (ha : Rd Entry.cells 5 w w.heap.size A xs) :
    Calls Try.prog 11 #[.slice A n c, .int .i64 room] w fun e w' => e = .returned (.tuple #[.int .i64 (chkE xs room).1, .int .i64 (chkE xs room).2]) ∧ Below w.heap.size w w' := by
  subst hn
  obtain ⟨W2, hW2⟩ : ∃ W2, W2 = (w.alloc (.cells #[.int .i64 0] 36)).alloc (.cells #[.int .i64 0] 3) := ⟨_, rfl⟩
  have hb2 : Below w.heap.size w W2 := by rw [hW2]; exact ((Below.refl _ w).alloc (Nat.le_refl _) _).alloc (by simp) _
  have hz2 : W2.heap.size = w.heap.size + 2 := by rw [hW2]; simp
  have r0 : W2.heap[w.heap.size]? = some (.cells #[.int .i64 0] 36 (0, 0)) := by rw [hW2, heap_alloc_old _ _ (by simp)]; exact heap_alloc_new _ _
  have r1 : W2.heap[w.heap.size + 1]? = some (.cells #[.int .i64 0] 3 (0, 0)) := by rw [hW2]; exact heap_alloc2_new w _ _
  -- what a return does, with both results stored
  have fin : ∀ (W : World) (x y : Int), W.heap[w.heap.size]? = some (.cells #[.int .i64 0] 36 (0, 0)) → W.heap[w.heap.size + 1]? = some (.cells #[.int .i64 0] 3 (0, 0)) → Below w.heap.size w W →
      ((W.setCell ⟨w.heap.size, 0, none⟩ (.int .i64 x)).setCell ⟨w.heap.size + 1, 0, none⟩ (.int .i64 y)).heap[w.heap.size]? = some (.cells #[.int .i64 x] 36 (0, 0)) ∧
      ((W.setCell ⟨w.heap.size, 0, none⟩ (.int .i64 x)).setCell ⟨w.heap.size + 1, 0, none⟩ (.int .i64 y)).heap[w.heap.size + 1]? = some (.cells #[.int .i64 y] 3 (0, 0)) ∧
      Below w.heap.size w ((W.setCell ⟨w.heap.size, 0, none⟩ (.int .i64 x)).setCell ⟨w.heap.size + 1, 0, none⟩ (.int .i64 y)) := fun W x y h0 h1 hB => by
    have h1' : (W.setCell ⟨w.heap.size, 0, none⟩ (.int .i64 x)).heap[w.heap.size + 1]? = some (.cells #[.int .i64 0] 3 (0, 0)) := (Below.heap_setCell _ _ _ _ (by simp)).trans h1
    refine ⟨?_, ?_, (hB.setCell (p := ⟨w.heap.size, 0, none⟩) (by simp) _).setCell (p := ⟨w.heap.size + 1, 0, none⟩) (by simp) _⟩
    · rw [Below.heap_setCell _ _ _ _ (by simp), heap_setCell_same W w.heap.size 0 _ _ _ h0]; rfl
    · rw [heap_setCell_same _ (w.heap.size + 1) 0 _ _ _ h1']; rfl
  -- the same where they were just laid
  have fin0 : ∀ (x y : Int), ((w.alloc (.cells #[.int .i64 x] 36)).alloc (.cells #[.int .i64 y] 3)).cell? ⟨w.heap.size, 0, none⟩ = some (.int .i64 x) ∧ ((w.alloc (.cells #[.int .i64 x] 36)).alloc (.cells #[.int .i64 y] 3)).cell? ⟨w.heap.size + 1, 0, none⟩ = some (.int .i64 y) ∧ Below w.heap.size w ((w.alloc (.cells #[.int .i64 x] 36)).alloc (.cells #[.int .i64 y] 3)) := fun x y =>
    ⟨cell_of_row _ _ 0 _ _ _ ((heap_alloc_old _ _ (by simp)).trans (heap_alloc_new _ _)), cell_of_row _ _ 0 _ _ _ (heap_alloc2_new w _ _), ((Below.refl _ w).alloc (Nat.le_refl _) _).alloc (by simp) _⟩
  refine (callsIn_wide (n := 3)).1 ?_
  refine callsIn_of_wp_marks Try.func11 rfl trivial ?_ rfl
  simp only [Try.ntmps11, List.size_toArray, List.length_cons, List.length_nil, Nat.reduceAdd, Nat.reduceSub, Array.replicate_succ, Array.replicate_zero, List.push_toArray, List.append_toArray, List.nil_append, List.cons_append]
  by_cases hr1 : room < 1
  · have e : chkE xs room = (3, 0) := by unfold chkE; rw [if_pos (.inl hr1)]
    rw [e]
    clear fin hb2 hz2 r0 r1 hW2
    gi_wp2_with fail
    obtain ⟨g0, g1, g2⟩ := fin0 3 0
    exact ⟨_, results_two rfl _ _ _ _ _ _ rfl rfl g0 g1, rfl, g2⟩
  have hr1' : decide (room < 1) = false := decide_eq_false hr1
  by_cases hr2 : 256 < room
  · have e : chkE xs room = (3, 0) := by unfold chkE; rw [if_pos (.inr hr2)]
    rw [e]
    clear fin hb2 hz2 r0 r1 hW2
    gi_wp2_with fail
    obtain ⟨g0, g1, g2⟩ := fin0 3 0
    exact ⟨_, results_two rfl _ _ _ _ _ _ rfl rfl g0 g1, rfl, g2⟩
  have hr2' : decide (256 < room) = false := decide_eq_false hr2
  by_cases hr3 : room < (xs.length : Int)
  · have e : chkE xs room = (60, room) := by unfold chkE; rw [if_neg (by omega), if_pos hr3]
    rw [e]
    clear fin hb2 hz2 r0 r1 hW2
    gi_wp2_with fail
    obtain ⟨g0, g1, g2⟩ := fin0 60 room
    exact ⟨_, results_two rfl _ _ _ _ _ _ rfl rfl g0 g1, rfl, g2⟩
  have hr3' : decide (room < (xs.length : Int)) = false := decide_eq_false hr3
  have hchk : Hid (chkE xs room = badE xs) := by
    show _ = _
    unfold chkE; rw [if_neg (by omega), if_neg (by omega)]
  generalize chkE xs room = CE at *
  obtain ⟨W0, hW0⟩ : ∃ W0, W0 = (W2.alloc (.map #[] 0)).alloc (.cells #[.map (some (w.heap.size + 2))] 41) := ⟨_, rfl⟩
  have hb20 : Below W2.heap.size W2 W0 := by rw [hW0]; exact ((Below.refl _ W2).alloc (Nat.le_refl _) _).alloc (by simp) _
  have hb0 : Below w.heap.size w W0 := hb2.trans (hb20.mono hb2.size)
  have hz0 : W0.heap.size = w.heap.size + 4 := by rw [hW0]; simp [hz2]
  have q0 : W0.heap[w.heap.size]? = some (.cells #[.int .i64 0] 36 (0, 0)) := (hb20.block _ (by omega)).trans r0
  have q1 : W0.heap[w.heap.size + 1]? = some (.cells #[.int .i64 0] 3 (0, 0)) := (hb20.block _ (by omega)).trans r1
  have q3 : W0.heap[w.heap.size + 3]? = some (.cells #[.map (some (w.heap.size + 2))] 41 (0, 0)) := by rw [hW0]; have := heap_alloc2_new W2 (.map #[] 0) (.cells #[.map (some (w.heap.size + 2))] 41); rwa [hz2] at this
  have qm : MapIs evI W0 (w.heap.size + 2) [] := by
    have := (MapIs.new (ev := evI) W2).same (w' := W0) (by rw [hW0]; exact Below.heap_alloc _ _ _ (by simp))
    rwa [hz2] at this
  have hmm := @run_makeMap Try.prog
  gi_wp2_with fail
  rw [← hW2, show w.heap.size + 1 + 1 = w.heap.size + 2 by omega, ← hW0]
  refine ⟨trivial, (callsIn_wide.2 (oplogEach A c xs.length 1 xs rfl W0 (by omega) ((ha.below hb0).more hb0.size))).mono ?_⟩
  clear hb2 hz2 r0 r1 hW2 hW0 hb20 hmm fin0
  rintro e W1 ⟨v, rfl, hE, hb1⟩
  dsimp only
  obtain ⟨Bf, Bs, rfl, hB1, hB2, hS⟩ := hE.stops (by unfold I64; omega) (by omega)
  have s0 := (hb1.block _ (by omega)).trans q0
  have s1 := (hb1.block _ (by omega)).trans q1
  have s3 := (hb1.block _ (by omega)).trans q3
  have sm : MapIs evI W1 (w.heap.size + 2) [] := qm.same (hb1.block _ (by omega))
  have hbw := hb0.trans (hb1.mono hb0.size)
  have hz1 : w.heap.size + 4 ≤ W1.heap.size := by have := hb1.size; omega
  have hsz0 : (max (1 : Int) 1 - 1).toNat = 0 := by omega
  rw [hsz0] at hS
  clear q0 q1 q3 qm hb0 hb1 ha
  gi_wp2_with fail
  refine wpIn_rangeFunc_ownH rfl (by omega) (gf := 9) (lb := #[.pointer (some ⟨Bf, 0, none⟩), .pointer (some ⟨Bs, 0, none⟩)]) rfl trivial (enters_of Try.func9 (by kernel_rfl) rfl)
    (hS _ W1 (Below.refl _ _)) midK_t (midK_b (by omega)) (Below.refl _ _) (fun _ => rfl)
    (fun pre W => (((W.heap[w.heap.size]? = some (.cells #[.int .i64 0] 36 (0, 0)) ∧ W.heap[w.heap.size + 1]? = some (.cells #[.int .i64 0] 3 (0, 0))) ∧ W.heap[w.heap.size + 3]? = some (.cells #[.map (some (w.heap.size + 2))] 41 (0, 0))) ∧ (∃ ps, MapIs evI W (w.heap.size + 2) ps ∧ tells (got xs pre) ps)) ∧ (Below w.heap.size W1 W ∧ GoodE (got xs pre)))
    (fun c pre W => (c = .ret ∧ ∃ pre' x, pre = pre' ++ [x] ∧ GoodE (got xs pre') ∧ fitE (got xs pre') xs[x.1] ≠ 0 ∧ W.heap[w.heap.size]? = some (.cells #[.int .i64 (fitE (got xs pre') xs[x.1])] 36 (0, 0)) ∧ W.heap[w.heap.size + 1]? = some (.cells #[.int .i64 ((x.1 : Int) + 1)] 3 (0, 0))) ∧ Below w.heap.size W1 W)
    ?hI ?hIx ?h0
    (fun x a' W => ∃ Bx, w.heap.size + 3 < Bx ∧ W.heap[Bx]? = some (.cells #[.int .i64 xs[x.1].client, .int .i64 xs[x.1].number, .int .i64 xs[x.1].op.kind, .int .i64 xs[x.1].op.slot, .string xs[x.1].op.value] 32 (0, 0)) ∧ a' = { tmps := #[.slice A xs.length c, .int .i64 room, undef, undef, .pointer (some ⟨w.heap.size, 0, none⟩), .pointer (some ⟨w.heap.size + 1, 0, none⟩), .pointer (some ⟨w.heap.size + 3, 0, none⟩), .int .i64 ((x.1 : Int) + 1), .pointer (some ⟨Bx, 0, none⟩), undef, .int .i64 room, .bool false, .bool false, .int .i64 room, .bool false, .bool false, .slice A xs.length c, .int .i64 xs.length, .int .i64 room, .bool false, undef, .map (some (w.heap.size + 2)), .slice A xs.length c, .func (.func 9) #[] #[.pointer (some ⟨Bf, 0, none⟩), .pointer (some ⟨Bs, 0, none⟩)], .int .i64 ((x.1 : Int) + 1), .agg #[.int .i64 xs[x.1].client, .int .i64 xs[x.1].number, .int .i64 xs[x.1].op.kind, .int .i64 xs[x.1].op.slot, .string xs[x.1].op.value], undef, undef, undef, undef, undef, undef, undef, undef, undef, undef, undef, undef], defers := [] })
    ?hAx ?assign ?body ?done ?stop
  case hI => exact OwnFrom.and (OwnFrom.and (OwnFrom.and (OwnFrom.and (ownFrom_const (by omega)) (ownFrom_const (by omega))) (ownFrom_const (by omega))) (map_own (by omega) fun pre ps => tells (got xs pre) ps)) (OwnFrom.and (ownFrom_below (by omega) (by omega)) (ownFrom_pure _ _))
  case hIx =>
    intro c
    refine OwnFrom.and (fun s X Y row hs hg hr => ?_) (ownFrom_below (by omega) (by omega))
    obtain ⟨rfl, pre', x, e, h1, h2, h3, h4⟩ := hs
    exact ⟨rfl, pre', x, e, h1, h2, ownFrom_const (B := W1.heap.size) (by omega) () X Y row h3 hg hr, ownFrom_const (B := W1.heap.size) (by omega) () X Y row h4 hg hr⟩
  case h0 => exact ⟨⟨⟨⟨s0, s1⟩, s3⟩, [], sm, fun c => rfl⟩, Below.refl _ _, GoodE.nil⟩
  case hAx =>
    intro x a' _ X Y row hs hg hr
    obtain ⟨Bx, h1, h2, h3⟩ := hs
    exact ⟨Bx, h1, row_own _ _ (fun (_ : Unit) => _) _ () X Y row h2 hg hr, h3⟩
  case assign =>
    rintro l pre x W K ⟨⟨⟨⟨k0, k1⟩, k3⟩, ps, km, kt⟩, hB, hpre⟩ hK
    dsimp only [encE]
    gi_wp2
    have hW : Below w.heap.size W (W.alloc (.cells #[.int .i64 xs[x.1].client, .int .i64 xs[x.1].number, .int .i64 xs[x.1].op.kind, .int .i64 xs[x.1].op.slot, .string xs[x.1].op.value] 32)) := (Below.refl _ W).alloc (by have := hB.size; omega) _
    have hlt2 : w.heap.size + 3 < W.heap.size := (Array.getElem?_eq_some_iff.1 k3).1
    refine hK _ _ ((KeepsOthers.alloc _ _).from _) ((Mid.refl W).alloc ?_ _) ⟨⟨⟨⟨?_, ?_⟩, ?_⟩, ps, ?_, kt⟩, hB.trans hW, hpre⟩ ⟨W.heap.size, hlt2, heap_alloc_new W _, rfl⟩
    · have := hB.size; omega
    · rw [heap_alloc_old _ _ (by omega)]; exact k0
    · rw [heap_alloc_old _ _ (by omega)]; exact k1
    · rw [heap_alloc_old _ _ (by omega)]; exact k3
    · exact km.same (heap_alloc_old _ _ (by omega))
  case body =>
    rintro l pre x a' W hl ⟨r, hr⟩ ⟨⟨⟨⟨k0, k1⟩, k3⟩, ps, km, kt⟩, hB, hpre⟩ ⟨Bx, hBx, kx, rfl⟩ hlt
    have hxl : Bx < W.heap.size := (Array.getElem?_eq_some_iff.1 kx).1
    obtain ⟨c0, c1⟩ : W.cell? ⟨Bx, 0, none⟩ = some (.int .i64 xs[x.1].client) ∧ W.cell? ⟨Bx, 1, none⟩ = some (.int .i64 xs[x.1].number) := ⟨cell_of_row _ _ 0 _ _ _ kx, cell_of_row _ _ 1 _ _ _ kx⟩
    obtain ⟨c2, c3, c4⟩ : W.cell? ⟨Bx, 2, none⟩ = some (.int .i64 xs[x.1].op.kind) ∧ W.cell? ⟨Bx, 3, none⟩ = some (.int .i64 xs[x.1].op.slot) ∧ W.cell? ⟨Bx, 4, none⟩ = some (.string xs[x.1].op.value) := ⟨cell_of_row _ _ 2 _ _ _ kx, cell_of_row _ _ 3 _ _ _ kx, cell_of_row _ _ 4 _ _ _ kx⟩
    have d3 : W.cell? ⟨w.heap.size + 3, 0, none⟩ = some (.map (some (w.heap.size + 2))) := cell_of_row _ _ 0 _ _ _ k3
    gi_wp2_with fail
    refine ⟨trivial, (CallsIn.inRound l (callsIn_wide.2 (fits_prog (w.heap.size + 2) ps xs[x.1] (hv _ (List.getElem_mem _)) W km))).mono ?_⟩
    rintro e V ⟨rfl, hbV⟩
    rw [kt, fitM_last hpre]
    have hsn := got_snoc xs pre x
    have j0 := (hbV.block _ (by omega)).trans k0
    have j1 := (hbV.block _ (by omega)).trans k1
    have j3 := (hbV.block _ (by omega)).trans k3
    have jx := (hbV.block _ hxl).trans kx
    have jm : MapIs evI V (w.heap.size + 2) ps := km.same (hbV.block _ km.lt)
    have a0 : V.cell? ⟨Bx, 0, none⟩ = some (.int .i64 xs[x.1].client) := cell_of_row _ _ 0 _ _ _ jx
    have a1 : V.cell? ⟨Bx, 1, none⟩ = some (.int .i64 xs[x.1].number) := cell_of_row _ _ 1 _ _ _ jx
    have a3 : V.cell? ⟨w.heap.size + 3, 0, none⟩ = some (.map (some (w.heap.size + 2))) := cell_of_row _ _ 0 _ _ _ j3
    have hBV : Below w.heap.size W1 V := hB.trans (hbV.mono (by have := hB.size; omega))
    have hmV : Mid (w.heap.size + 4) (Bs + 1) W V := Mid.of_below (hbV.mono (by have := hB.size; omega))
    have hkV : KeepsFrom W1.heap.size W V := KeepsFrom.of_below hbV
    obtain ⟨q, hq⟩ : ∃ q, q = fitE (got xs pre) xs[x.1] := ⟨_, rfl⟩
    have HQ := Lib.hid hq
    rw [← hq]
    clear hq k0 k1 k3 kx c0 c1 c2 c3 c4 d3 km
    by_cases h1 : q = 0
    · subst h1
      gi_wp2_with (gi_at_mapUpdate; refine wpListIn_updateM (ev := evI) jm rfl _ _ _ rfl undMapI undIntI rfl xs[x.1].client rfl xs[x.1].number rfl ?_; intro V2 hm2 hg2 hs2)
      have hbk : ∀ b, b < V.heap.size → b ≠ w.heap.size + 2 → V2.heap[b]? = V.heap[b]? := fun b hb hne => hg2.block b hb (fun e => hne (by cases e; rfl))
      have hVs : w.heap.size + 4 ≤ V.heap.size := by have := hB.size; have := hbV.size; omega
      have hB2V : Below w.heap.size V V2 := (Below.refl _ V).grown hg2 (by have := hbw.size; have := hBV.size; omega) (fun k e => by cases e; omega)
      exact ⟨hkV.trans (KeepsFrom.of_grownBy hg2 fun j hj => by cases hj; omega), hmV.trans ⟨by omega, fun k h1 h2 => hbk k (by have := hB.size; have := hbV.size; omega) (by omega)⟩,
        ⟨⟨⟨(hbk w.heap.size (by omega) (by omega)).trans j0, (hbk (w.heap.size + 1) (by omega) (by omega)).trans j1⟩, (hbk (w.heap.size + 3) (by omega) (by omega)).trans j3⟩, _, hm2, by rw [hsn]; exact kt.snoc _⟩, hBV.trans hB2V, by rw [hsn]; exact hpre.snoc HQ.out.symm⟩
    · have h1' : (q == 0) = false := by simpa using h1
      have b0 : V.cell? ⟨w.heap.size, 0, none⟩ = some (.int .i64 0) := cell_of_row _ _ 0 _ _ _ j0
      have b1 : V.cell? ⟨w.heap.size + 1, 0, none⟩ = some (.int .i64 0) := cell_of_row _ _ 0 _ _ _ j1
      have g0 : V.frozen? ⟨w.heap.size, 0, none⟩ = false := frozen_of_row _ _ _ _ _ j0
      have g1 : V.frozen? ⟨w.heap.size + 1, 0, none⟩ = false := frozen_of_row _ _ _ _ _ j1
      have j1' : (V.setCell ⟨w.heap.size, 0, none⟩ (.int .i64 q)).heap[w.heap.size + 1]? = some (.cells #[.int .i64 0] 3 (0, 0)) := (Below.heap_setCell _ _ _ _ (by simp)).trans j1
      have b1' : (V.setCell ⟨w.heap.size, 0, none⟩ (.int .i64 q)).cell? ⟨w.heap.size + 1, 0, none⟩ = some (.int .i64 0) := cell_of_row _ _ 0 _ _ _ j1'
      have g1' : (V.setCell ⟨w.heap.size, 0, none⟩ (.int .i64 q)).frozen? ⟨w.heap.size + 1, 0, none⟩ = false := frozen_of_row _ _ _ _ _ j1'
      obtain ⟨f0, f1, f2⟩ := fin V q ((x.1 : Int) + 1) j0 j1 (hbw.trans hBV)
      gi_wp2_with fail
      exact ⟨(hkV.trans ((KeepsOthers.setCell _ _ _).from _)).trans ((KeepsOthers.setCell _ _ _).from _), ⟨rfl, pre, x, rfl, hpre, by rw [← HQ.out]; exact h1, by rw [← HQ.out]; exact f0, f1⟩,
        (hBV.setCell (p := ⟨w.heap.size, 0, none⟩) (by simp) _).setCell (p := ⟨w.heap.size + 1, 0, none⟩) (by simp) _⟩
  case done =>
    rintro D ys W hD rfl ⟨⟨⟨⟨k0, k1⟩, k3⟩, _⟩, hB, hpre⟩ hK
    rw [got_places, List.drop_zero] at hpre
    have hce : CE = (0, 0) := hchk.out.trans (badE_good hpre)
    subst hce
    clear hchk
    have b0 : W.cell? ⟨w.heap.size, 0, none⟩ = some (.int .i64 0) := cell_of_row _ _ 0 _ _ _ k0
    have b1 : W.cell? ⟨w.heap.size + 1, 0, none⟩ = some (.int .i64 0) := cell_of_row _ _ 0 _ _ _ k1
    have g0 : W.frozen? ⟨w.heap.size, 0, none⟩ = false := frozen_of_row _ _ _ _ _ k0
    have g1 : W.frozen? ⟨w.heap.size + 1, 0, none⟩ = false := frozen_of_row _ _ _ _ _ k1
    have j1' : (W.setCell ⟨w.heap.size, 0, none⟩ (.int .i64 0)).heap[w.heap.size + 1]? = some (.cells #[.int .i64 0] 3 (0, 0)) := (Below.heap_setCell _ _ _ _ (by simp)).trans k1
    have b1' : (W.setCell ⟨w.heap.size, 0, none⟩ (.int .i64 0)).cell? ⟨w.heap.size + 1, 0, none⟩ = some (.int .i64 0) := cell_of_row _ _ 0 _ _ _ j1'
    have g1' : (W.setCell ⟨w.heap.size, 0, none⟩ (.int .i64 0)).frozen? ⟨w.heap.size + 1, 0, none⟩ = false := frozen_of_row _ _ _ _ _ j1'
    obtain ⟨f0, f1, f2⟩ := fin W 0 0 k0 k1 (hbw.trans hB)
    have hK' : ((W.setCell ⟨w.heap.size, 0, none⟩ (.int .i64 0)).setCell ⟨w.heap.size + 1, 0, none⟩ (.int .i64 0)).heap[D]? = some (.deferred (some [])) := by rw [Below.heap_setCell _ _ _ _ (by simp; omega), Below.heap_setCell _ _ _ _ (by simp; omega)]; exact hK
    gi_wp2
    refine ⟨by simp, .inl ⟨_, _, rfl, run_takeDeferred hK', ?_⟩⟩
    exact ⟨_, results_two rfl _ _ _ _ _ _ rfl rfl (cell_takeDef (cell_of_row _ _ 0 _ _ _ f0) hK') (cell_takeDef (cell_of_row _ _ 0 _ _ _ f1) hK'), rfl, f2.trans (belowK_b (w := W1) (by omega) _ D _ _ hD hK' rfl rfl)⟩
  case stop =>
    rintro D c pre W hD hSp ⟨⟨rfl, pre', x, rfl, h1, h2, h3, h4⟩, hB⟩ hK
    have hce : CE = (fitE (got xs pre') xs[x.1], (x.1 : Int) + 1) := by
      obtain ⟨m5, m6⟩ := places_last hSp
      have mx : x.1 = pre'.length := by simpa using m6
      have hgt : got xs pre' = xs.take x.1 := by rw [mx]; exact (congrArg (got xs) m5).trans (got_take xs _)
      rw [hgt] at h1 h2
      rw [hgt]
      exact hchk.out.trans (badE_at x.1 x.2 h2 h1)
    subst hce
    clear hchk h1 h2
    gi_wp2
    refine ⟨by simp, .inl ⟨_, _, rfl, run_takeDeferred hK, ?_⟩⟩
    exact ⟨_, results_two rfl _ _ _ _ _ _ rfl rfl (cell_takeDef (cell_of_row _ _ 0 _ _ _ h3) hK) (cell_takeDef (cell_of_row _ _ 0 _ _ _ h4) hK), rfl, hbw.trans (hB.trans (belowK_b (w := W1) (by omega) W D _ _ hD hK rfl rfl))⟩
end Go.Proofs.Ytbdcpoagdbkgeaa
