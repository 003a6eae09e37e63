/- LedgerFirst answers true, whatever the script. Conditions: none. -/
import Derived.Test.YtdmeijemfneafaaWorks04
import Derived.Test.YtdmeijemfneafaaCells3
import Derived.Test.YtdmeijemfneafaaOpen3
import Derived.Deep.LoopGhost
namespace Go.Proofs.Ytdmeijemfneafaa
open Go.RowKit

theorem zeroT (w : World) : (zeroValue 46).run Try.prog w = .ok (.agg (tk [])) w := by rw [tk_nil]; kernel_rfl
theorem zeroS (w : World) : (zeroValue 47).run Try.prog w = .ok (.agg (vk [])) w := by rw [vk_nil]; kernel_rfl

/-- The two rows: which slots are taken, what stands in them. -/
def Arr (W : World) (p : Nat) (cs : List Cell) : Prop := W.heap[p]? = some (.cells (tk cs) 46 (0, 0)) ∧ W.heap[p + 1]? = some (.cells (vk cs) 47 (0, 0))
theorem Arr.same {W W' : World} {p : Nat} {cs : List Cell} (h : Arr W p cs) (h1 : W'.heap[p]? = W.heap[p]?) (h2 : W'.heap[p + 1]? = W.heap[p + 1]?) : Arr W' p cs := ⟨h1.trans h.1, h2.trans h.2⟩
theorem Arr.lt {W : World} {p : Nat} {cs : List Cell} (h : Arr W p cs) : p + 1 < W.heap.size := (Array.getElem?_eq_some_iff.1 h.2).1
theorem Arr.below {W W' : World} {p : Nat} {cs : List Cell} (h : Arr W p cs) (hb : Below W.heap.size W W') : Arr W' p cs :=
  h.same (hb.block p (by have := h.lt; omega)) (hb.block (p + 1) h.lt)
theorem cell_row {W : World} {b : Nat} {row : Array Value} {T : TypeId} {l : Nat × Nat} (h : W.heap[b]? = some (.cells row T l)) (j : Nat) (u : Value) (hu : row[j]? = some u) : W.cell? ⟨b, j, none⟩ = some u := cell_of_row W b j _ _ _ (by rw [h]) |>.trans hu
theorem Arr.tk_cell {W : World} {p : Nat} {cs : List Cell} (h : Arr W p cs) {s : Int} (h0 : 0 ≤ s) (h1 : s < 1024) : W.cell? ⟨p, s.toNat, none⟩ = some (.bool (getC cs s).isSome) := cell_row h.1 _ _ (tk_get cs h0 h1)
theorem Arr.vk_cell {W : World} {p : Nat} {cs : List Cell} (h : Arr W p cs) {s : Int} (h0 : 0 ≤ s) (h1 : s < 1024) : W.cell? ⟨p + 1, s.toNat, none⟩ = some (.string ((getC cs s).getD emp)) := cell_row h.2 _ _ (vk_get cs h0 h1)

theorem Arr.put {W : World} {p : Nat} {cs : List Cell} (h : Arr W p cs) (hr : Rising cs) {c : Cell} (hg : Good c) (hn : ∀ d ∈ cs, d.slot ≠ c.slot) {j : Nat} (hj : c.slot = j) : Arr ((W.setCell ⟨p, j, none⟩ (.bool true)).setCell ⟨p + 1, j, none⟩ (.string c.value)) p (putC cs c) := by
  have e : c.slot.toNat = j := by omega
  refine ⟨?_, ?_⟩
  · rw [Below.heap_setCell _ _ _ _ (by simp), heap_setCell_same W p j _ _ _ h.1, ← tk_set hr hg hn, e]
  · rw [heap_setCell_same _ (p + 1) j _ _ _ ((Below.heap_setCell _ _ _ _ (by simp)).trans h.2), ← vk_set hr hg hn, e]

set_option maxRecDepth 100000 in
set_option maxHeartbeats 4000000 in
theorem first_walk (A : Option Addr) (c n : Nat) (os : List Op) (hn : n = os.length) (w : World) (hl : os.length ≤ 9223372036854775806) (ha : Rd Op.cells 3 w w.heap.size A os) (hw : ∀ o ∈ os, o.wf) :
    Calls Try.prog 6 #[.slice A n c] w fun e w' => e = .returned (.bool true) ∧ Below w.heap.size w w' := by
  subst hn
  have hzt := zeroT
  have hzs := zeroS
  generalize hT : tk [] = T0 at *
  generalize hS : vk [] = S0 at *
  go_enter Try.func6, Try.ntmps6
  go_wp2_with fail
  refine (newLedger w).mono ?_
  rintro e w1 ⟨b, mb, rfl, hl1, hbb, hmb, hB1⟩
  have HL1 := Lib.hid hl1
  have HB1 := Lib.hid hB1
  have HA := Lib.hid ha
  have HW := Lib.hid hw
  clear hl1 hB1 ha hw
  go_wp2_with fail
  refine (works04 _).mono ?_
  rintro e w2 ⟨rfl, hb2⟩
  have hb12 := HB1.out.trans (hb2.mono HB1.out.size)
  have HL2 := Lib.hid (HL1.out.below hb2)
  have HB2 := Lib.hid hb12
  clear hb2 hb12 HL1 HB1
  go_wp2_with fail
  obtain ⟨W0, hW0⟩ : ∃ W0, W0 = (w2.alloc (.cells T0 46)).alloc (.cells S0 47) := ⟨_, rfl⟩
  have hb20 : Below w2.heap.size w2 W0 := by rw [hW0]; exact ((Below.refl _ _).alloc (Nat.le_refl _) _).alloc (by simp) _
  have hA0 : Arr W0 w2.heap.size [] := by
    refine ⟨?_, ?_⟩
    · rw [hW0, hT, heap_alloc_old _ _ (by simp)]; exact heap_alloc_new _ _
    · rw [hW0, hS]; exact heap_alloc2_new w2 _ _
  have hL0 := HL2.out.below hb20
  have hB0 := HB2.out.trans (hb20.mono HB2.out.size)
  have hlt := HL2.out.lt
  have hwp := HB2.out.size
  rw [← hW0]
  generalize w2.heap.size = p at *
  have HL0 := Lib.hid hL0
  have HB0 := Lib.hid hB0
  have HA0 := Lib.hid hA0
  clear hb20 hA0 hL0 hB0 hW0 HL2 HB2 hT hS hzt hzs
  go_loopw [6, 7] (fun nn i wr => ∃ k : Nat, k ≤ os.length ∧ i = .int .i64 k ∧ nn = .int .i64 (playC [] (os.take k)).length ∧ Ledger wr b mb (playC [] (os.take k)) ∧ Arr wr p (playC [] (os.take k)) ∧ Below w.heap.size w wr) (fun _ i _ => os.length - (intOf i).toNat)
  case atStart => exact ⟨0, by omega, rfl, rfl, by simpa [playC] using HL0.out, by simpa [playC] using HA0.out, HB0.out⟩
  case round =>
    obtain ⟨k, hk, rfl, rfl, hlr, har, hbr⟩ := hrel
    by_cases h1 : k < os.length
    · obtain ⟨ad, rfl, _, hca⟩ := (HA.out.below hbr).at_ h1
      have g1 : (k:Int) < (os.length : Int) := by omega
      obtain ⟨c0, c1, c2⟩ := hca.three
      have hvk := HW.out os[k] (by simp)
      have hst := Lib.hid (playC_take_succ [] os k h1)
      generalize os[k] = o at *
      generalize hcs : playC [] (os.take k) = cs at *
      have hr := hlr.rising
      have hlen := rising_length hr
      have hbl := hlr.lt
      have HLR := Lib.hid hlr
      have HBR := Lib.hid hbr
      have HAR := Lib.hid har
      have HCS := Lib.hid hcs
      clear hca hlr hbr har hcs HL0 HA0 HB0
      go_wp2_with fail
      obtain ⟨W3, hW3⟩ : ∃ W3, W3 = wr.alloc (.cells #[.int .i64 o.kind, .int .i64 o.slot, .string o.value] 23) := ⟨_, rfl⟩
      have hb3 : Below wr.heap.size wr W3 := by rw [hW3]; exact (Below.refl _ _).alloc (Nat.le_refl _) _
      have ho3 : W3.heap[wr.heap.size]? = some (.cells #[.int .i64 o.kind, .int .i64 o.slot, .string o.value] 23 (0, 0)) := by rw [hW3]; exact heap_alloc_new _ _
      have hz3 : wr.heap.size < W3.heap.size := (Array.getElem?_eq_some_iff.1 ho3).1
      rw [← hW3]
      refine (doLedger b mb cs o hvk.value W3 (HLR.out.below hb3)).mono ?_
      rintro e w4 ⟨rfl, hl4, hk4⟩
      have ho4 := (hk4.block wr.heap.size hz3 (by unfold LedS; omega)).trans ho3
      have ha3 := HAR.out.below hb3
      have ha4 : Arr w4 p cs := ha3.same (hk4.block _ (by have := ha3.lt; omega) (by unfold LedS; omega)) (hk4.block _ ha3.lt (by unfold LedS; omega))
      have hB3 := HBR.out.trans (hb3.mono HBR.out.size)
      have hB4 := Kept.ledger_below hB3 hk4 (fun j hj => by rcases hj with rfl | rfl <;> assumption)
      have hpbo : p + 1 < wr.heap.size := HAR.out.lt
      have hz4 : wr.heap.size < w4.heap.size := (Array.getElem?_eq_some_iff.1 ho4).1
      obtain ⟨d0, d1, d2⟩ : w4.cell? ⟨wr.heap.size, 0, none⟩ = some (.int .i64 o.kind) ∧ w4.cell? ⟨wr.heap.size, 1, none⟩ = some (.int .i64 o.slot) ∧ w4.cell? ⟨wr.heap.size, 2, none⟩ = some (.string o.value) := ⟨cell_of_row _ _ 0 _ _ _ ho4, cell_of_row _ _ 1 _ _ _ ho4, cell_of_row _ _ 2 _ _ _ ho4⟩
      have HL4 := Lib.hid hl4
      have HA4 := Lib.hid ha4
      have HB4 := Lib.hid hB4
      have HO4 := Lib.hid ho4
      have htold := Lib.hid (told cs o)
      clear hb3 ho3 ha3 hB3 hk4 hl4 ha4 hB4 ho4 hW3 hz3 HBR HAR HLR
      generalize hbo : wr.heap.size = bo at *
      generalize hwo : would cs o = r at *
      generalize hao : after cs o = ds at *
      go_wp2_with fail
      --CASES
      obtain ⟨W5, hW5⟩ : ∃ W5, W5 = w4.alloc (.cells #[.int .i64 r.code, .int .i64 r.slot, .string r.value] 33) := ⟨_, rfl⟩
      have hb5 : Below w4.heap.size w4 W5 := by rw [hW5]; exact (Below.refl _ _).alloc (Nat.le_refl _) _
      have hr5 : W5.heap[w4.heap.size]? = some (.cells #[.int .i64 r.code, .int .i64 r.slot, .string r.value] 33 (0, 0)) := by rw [hW5]; exact heap_alloc_new _ _
      have hz5 : w4.heap.size < W5.heap.size := (Array.getElem?_eq_some_iff.1 hr5).1
      rw [← hW5]
      refine (check_prog o hvk.value W5).mono ?_
      rintro e w6 ⟨rfl, hb6⟩
      have hr6 := (hb6.block _ hz5).trans hr5
      have hb46 := hb5.trans (hb6.mono (Nat.le_of_lt hz5))
      have hL6 := HL4.out.below hb46
      have hA6 := HA4.out.below hb46
      have hB6 := HB4.out.trans (hb46.mono HB4.out.size)
      have ho6 := (hb46.block _ hz4).trans HO4.out
      obtain ⟨x0, x1, x2⟩ : w6.cell? ⟨bo, 0, none⟩ = some (.int .i64 o.kind) ∧ w6.cell? ⟨bo, 1, none⟩ = some (.int .i64 o.slot) ∧ w6.cell? ⟨bo, 2, none⟩ = some (.string o.value) := ⟨cell_of_row _ _ 0 _ _ _ ho6, cell_of_row _ _ 1 _ _ _ ho6, cell_of_row _ _ 2 _ _ _ ho6⟩
      obtain ⟨y0, y1, y2⟩ : w6.cell? ⟨w4.heap.size, 0, none⟩ = some (.int .i64 r.code) ∧ w6.cell? ⟨w4.heap.size, 1, none⟩ = some (.int .i64 r.slot) ∧ w6.cell? ⟨w4.heap.size, 2, none⟩ = some (.string r.value) := ⟨cell_of_row _ _ 0 _ _ _ hr6, cell_of_row _ _ 1 _ _ _ hr6, cell_of_row _ _ 2 _ _ _ hr6⟩
      have HL6 := Lib.hid hL6
      have HA6 := Lib.hid hA6
      have HB6 := Lib.hid hB6
      clear hb5 hr5 hz5 hW5 hb6 hr6 hb46 hL6 hA6 hB6 ho6 d0 d1 d2 HL4 HA4 HB4 HO4
      rcases htold.out with ⟨h, q, a⟩ | ⟨_, h, k1, g, q, a⟩ | ⟨v, h, k1, g, q, a⟩ | ⟨h, k1, g, q, a⟩ | ⟨h, k1, g, q, a⟩ | ⟨v, h, k1, g, q, a⟩ | ⟨h, k1, g, q, a⟩ | ⟨h, k1, q, a⟩
      · have hne : (checkOp o != 0) = true := by simpa using h
        rw [hwo] at q
        rw [hao] at a
        subst q
        subst a
        generalize checkOp o = ch at *
        simp only [show emp = (⟨#[]⟩ : ByteArray) from rfl] at y0 y1 y2
        clear h htold x0 x1 x2
        go_wp2_with fail
        go_roundw
        case rel => exact ⟨k + 1, by omega, by go_num, by rw [hst.out], by rw [hst.out]; exact HL6.out, by rw [hst.out]; exact HA6.out, HB6.out⟩
        case measure => simp [intOf]; omega
      · rw [hwo] at q
        rw [hao] at a
        subst q
        subst a
        simp only [show emp = (⟨#[]⟩ : ByteArray) from rfl] at y0 y1 y2
        have h' := h
        rw [h]
        rw [k1] at x0
        obtain ⟨s0, s1⟩ : 0 ≤ o.slot ∧ o.slot < 1024 := checkOp_slot h' (.inl k1)
        obtain ⟨j, hj⟩ := Int.eq_ofNat_of_zero_le s0
        have hgood : Good ⟨o.slot, o.value⟩ := ⟨s0, s1, checkOp_value h' (.inl k1)⟩
        have hfree : ∀ d ∈ cs, d.slot ≠ o.slot := getC_none.1 g
        have t0 := HA6.out.tk_cell s0 s1
        have t1 := HA6.out.vk_cell s0 s1
        have q0 : w6.frozen? ⟨p, j, none⟩ = false := frozen_of_row _ _ _ _ _ HA6.out.1
        have q1 : w6.frozen? ⟨p + 1, j, none⟩ = false := frozen_of_row _ _ _ _ _ HA6.out.2
        rw [getC_none.2 hfree, hj] at t0 t1
        rw [hj] at y1 s1
        try rw [hj] at x1
        simp only [Option.isSome_none, Option.getD_none, Int.toNat_natCast] at t0 t1
        have hjs : j < 1024 := by omega
        have HGD := Lib.hid hgood
        have HF := Lib.hid hfree
        have HJ := Lib.hid hj
        clear g hgood hfree s0 h h' htold hj
        generalize hbr : w4.heap.size = br at *
        have z0 : decide ((j : Int) < 0) = false := by simp
        have z1 : decide (1024 ≤ (j : Int)) = false := by simp; omega
        have hne1 : (⟨p, j, none⟩ : Addr) ≠ ⟨br, 1, none⟩ := fun e => by have := congrArg Addr.block e; simp at this; omega
        have hne2 : (⟨p, j, none⟩ : Addr) ≠ ⟨bo, 2, none⟩ := fun e => by have := congrArg Addr.block e; simp at this; omega
        have y1' := (World.cell?_setCell_other w6 _ _ (.bool true) hne1).trans y1
        have x2' := (World.cell?_setCell_other w6 _ _ (.bool true) hne2).trans x2
        have q1' : (w6.setCell ⟨p, j, none⟩ (.bool true)).frozen? ⟨p + 1, j, none⟩ = false := by rw [World.frozen?_setCell]; exact q1
        go_wp2_with fail
        go_roundw
        case rel => exact ⟨k + 1, by omega, by go_num, by rw [hst.out]; simp [putC_length], by rw [hst.out]; exact HL6.out.same (by rw [Below.heap_setCell _ _ _ _ (by simp; omega), Below.heap_setCell _ _ _ _ (by simp; omega)]) (by rw [Below.heap_setCell _ _ _ _ (by simp; omega), Below.heap_setCell _ _ _ _ (by simp; omega)]), by rw [hst.out]; exact HA6.out.put hr HGD.out HF.out HJ.out, (HB6.out.setCell (p := ⟨p, j, none⟩) (by simp; omega) _).setCell (p := ⟨p + 1, j, none⟩) (by simp; omega) _⟩
        case measure => simp [intOf]; omega
      · rw [hwo] at q
        rw [hao] at a
        subst q
        subst a
        simp only [show emp = (⟨#[]⟩ : ByteArray) from rfl] at y0 y1 y2
        have h' := h
        rw [h]
        rw [k1] at x0
        obtain ⟨s0, s1⟩ := checkOp_slot h' (.inl k1)
        obtain ⟨j, hj⟩ := Int.eq_ofNat_of_zero_le s0
        have t0 := HA6.out.tk_cell s0 s1
        have t1 := HA6.out.vk_cell s0 s1
        rw [g, hj] at t0 t1
        rw [hj] at x1 y1 s1
        simp only [Option.isSome_some, Option.getD_some, Option.isSome_none, Option.getD_none, Int.toNat_natCast] at t0 t1
        have hjs : j < 1024 := by omega
        clear g s0 h h' htold hj
        generalize hbr : w4.heap.size = br at *
        go_wp2_with fail
        go_quiet (fail)
        go_wp2_with fail
        go_roundw
        case rel => exact ⟨k + 1, by omega, by go_num, by rw [hst.out], by rw [hst.out]; exact HL6.out, by rw [hst.out]; exact HA6.out, below_drewN HB6.out _⟩
        case measure => simp [intOf]; omega
      · rw [hwo] at q
        rw [hao] at a
        subst q
        subst a
        simp only [show emp = (⟨#[]⟩ : ByteArray) from rfl] at y0 y1 y2
        have h' := h
        rw [h]
        rw [k1] at x0
        have t0 := HA6.out.tk_cell (s := 1023) (by omega) (by omega)
        rw [getC_full hr g] at t0
        simp only [Int.reduceToNat] at t0
        clear g h h' htold
        go_wp2_with fail
        go_roundw
        case rel => exact ⟨k + 1, by omega, by go_num, by rw [hst.out], by rw [hst.out]; exact HL6.out, by rw [hst.out]; exact HA6.out, HB6.out⟩
        case measure => simp [intOf]; omega
      · rw [hwo] at q
        rw [hao] at a
        subst q
        subst a
        simp only [show emp = (⟨#[]⟩ : ByteArray) from rfl] at y0 y1 y2
        have h' := h
        rw [h]
        rw [k1] at x0
        obtain ⟨s0, s1⟩ : 0 ≤ nextC cs ∧ nextC cs < 1024 := ⟨(nextC_bounds hr).1, by have := (nextC_bounds hr).2; omega⟩
        obtain ⟨j, hj⟩ := Int.eq_ofNat_of_zero_le s0
        have hgood : Good ⟨nextC cs, o.value⟩ := ⟨s0, s1, checkOp_value h' (.inr k1)⟩
        have hfree : ∀ d ∈ cs, d.slot ≠ nextC cs := next_free hr
        have t0 := HA6.out.tk_cell s0 s1
        have t1 := HA6.out.vk_cell s0 s1
        have q0 : w6.frozen? ⟨p, j, none⟩ = false := frozen_of_row _ _ _ _ _ HA6.out.1
        have q1 : w6.frozen? ⟨p + 1, j, none⟩ = false := frozen_of_row _ _ _ _ _ HA6.out.2
        rw [getC_none.2 hfree, hj] at t0 t1
        rw [hj] at y1 s1
        try rw [hj] at x1
        simp only [Option.isSome_none, Option.getD_none, Int.toNat_natCast] at t0 t1
        have hjs : j < 1024 := by omega
        have HGD := Lib.hid hgood
        have HF := Lib.hid hfree
        have HJ := Lib.hid hj
        clear g hgood hfree s0 h h' htold hj
        generalize hbr : w4.heap.size = br at *
        have z0 : decide ((j : Int) < 0) = false := by simp
        have z1 : decide (1024 ≤ (j : Int)) = false := by simp; omega
        have hne1 : (⟨p, j, none⟩ : Addr) ≠ ⟨br, 1, none⟩ := fun e => by have := congrArg Addr.block e; simp at this; omega
        have hne2 : (⟨p, j, none⟩ : Addr) ≠ ⟨bo, 2, none⟩ := fun e => by have := congrArg Addr.block e; simp at this; omega
        have y1' := (World.cell?_setCell_other w6 _ _ (.bool true) hne1).trans y1
        have x2' := (World.cell?_setCell_other w6 _ _ (.bool true) hne2).trans x2
        have q1' : (w6.setCell ⟨p, j, none⟩ (.bool true)).frozen? ⟨p + 1, j, none⟩ = false := by rw [World.frozen?_setCell]; exact q1
        go_wp2_with fail
        go_roundw
        case rel => exact ⟨k + 1, by omega, by go_num, by rw [hst.out]; simp [putC_length], by rw [hst.out]; exact HL6.out.same (by rw [Below.heap_setCell _ _ _ _ (by simp; omega), Below.heap_setCell _ _ _ _ (by simp; omega)]) (by rw [Below.heap_setCell _ _ _ _ (by simp; omega), Below.heap_setCell _ _ _ _ (by simp; omega)]), by rw [hst.out]; exact HA6.out.put hr HGD.out HF.out HJ.out, (HB6.out.setCell (p := ⟨p, j, none⟩) (by simp; omega) _).setCell (p := ⟨p + 1, j, none⟩) (by simp; omega) _⟩
        case measure => simp [intOf]; omega
      · rw [hwo] at q
        rw [hao] at a
        subst q
        subst a
        simp only [show emp = (⟨#[]⟩ : ByteArray) from rfl] at y0 y1 y2
        have h' := h
        rw [h]
        rw [k1] at x0
        obtain ⟨s0, s1⟩ := checkOp_slot h' (.inr k1)
        obtain ⟨j, hj⟩ := Int.eq_ofNat_of_zero_le s0
        have t0 := HA6.out.tk_cell s0 s1
        have t1 := HA6.out.vk_cell s0 s1
        rw [g, hj] at t0 t1
        rw [hj] at x1 y1 s1
        simp only [Option.isSome_some, Option.getD_some, Option.isSome_none, Option.getD_none, Int.toNat_natCast] at t0 t1
        have hjs : j < 1024 := by omega
        clear g s0 h h' htold hj
        generalize hbr : w4.heap.size = br at *
        go_wp2_with fail
        go_quiet (fail)
        go_wp2_with fail
        go_roundw
        case rel => exact ⟨k + 1, by omega, by go_num, by rw [hst.out], by rw [hst.out]; exact HL6.out, by rw [hst.out]; exact HA6.out, below_drewN HB6.out _⟩
        case measure => simp [intOf]; omega
      · rw [hwo] at q
        rw [hao] at a
        subst q
        subst a
        simp only [show emp = (⟨#[]⟩ : ByteArray) from rfl] at y0 y1 y2
        have h' := h
        rw [h]
        rw [k1] at x0
        obtain ⟨s0, s1⟩ := checkOp_slot h' (.inr k1)
        obtain ⟨j, hj⟩ := Int.eq_ofNat_of_zero_le s0
        have t0 := HA6.out.tk_cell s0 s1
        have t1 := HA6.out.vk_cell s0 s1
        rw [g, hj] at t0 t1
        rw [hj] at x1 y1 s1
        simp only [Option.isSome_some, Option.getD_some, Option.isSome_none, Option.getD_none, Int.toNat_natCast] at t0 t1
        have hjs : j < 1024 := by omega
        clear g s0 h h' htold hj
        generalize hbr : w4.heap.size = br at *
        go_wp2_with fail
        go_roundw
        case rel => exact ⟨k + 1, by omega, by go_num, by rw [hst.out], by rw [hst.out]; exact HL6.out, by rw [hst.out]; exact HA6.out, HB6.out⟩
        case measure => simp [intOf]; omega
      · rw [hwo] at q
        rw [hao] at a
        subst q
        subst a
        simp only [show emp = (⟨#[]⟩ : ByteArray) from rfl] at y0 y1 y2
        have h' := h
        rw [h]
        rw [k1] at x0
        clear h h' htold
        go_wp2_with fail
        go_roundw
        case rel => exact ⟨k + 1, by omega, by go_num, by rw [hst.out], by rw [hst.out]; exact HL6.out, by rw [hst.out]; exact HA6.out, HB6.out⟩
        case measure => simp [intOf]; omega
    · have g1 : decide (k < os.length) = false := by simp; omega
      generalize playC [] (os.take k) = cs at *
      have hr := hlr.rising
      have HLR := Lib.hid hlr
      have HBR := Lib.hid hbr
      have HAR := Lib.hid har
      clear hlr hbr har h1 HL0 HA0 HB0
      go_wp2_with fail
      go_loopw [10] (fun i wq => ∃ j : Nat, j ≤ 1024 ∧ i = .int .i64 j ∧ Ledger wq b mb cs ∧ Arr wq p cs ∧ Below w.heap.size w wq) (fun i _ => 1024 - (intOf i).toNat)
      case atStart => exact ⟨0, by omega, rfl, HLR.out, HAR.out, HBR.out⟩
      case round =>
        obtain ⟨j, hj, rfl, hlq, haq, hbq⟩ := hrel
        by_cases h2 : j < 1024
        · have g2 : (j:Int) < 1024 := by omega
          have HLQ := Lib.hid hlq
          have HAQ := Lib.hid haq
          have HBQ := Lib.hid hbq
          clear hlq hbq haq HLR HBR HAR
          go_wp2_with fail
          refine (getLedger b mb cs j _ HLQ.out).mono ?_
          rintro e w3 ⟨rfl, hb3⟩
          have hA3 := HAQ.out.below hb3
          have t0 := hA3.tk_cell (s := j) (by omega) g2
          have t1 := hA3.vk_cell (s := j) (by omega) g2
          simp only [Int.toNat_natCast] at t0 t1
          have HB3 := Lib.hid hb3
          have HA3 := Lib.hid hA3
          clear hb3 hA3
          generalize (getC cs j).isSome = gb at *
          generalize (getC cs j).getD emp = gv at *
          go_wp2_with fail
          go_roundw
          case rel => exact ⟨j + 1, by omega, by go_num, HLQ.out.below HB3.out, HA3.out, HBQ.out.trans (HB3.out.mono HBQ.out.size)⟩
          case measure => simp [intOf]; omega
        · have hj2 : j = 1024 := by omega
          subst hj2
          have HLQ := Lib.hid hlq
          have HBQ := Lib.hid hbq
          clear hlq hbq haq HLR HBR HAR
          go_wp2_with fail
          refine (lenLedger b mb cs _ HLQ.out).mono ?_
          rintro e w3 ⟨rfl, rfl⟩
          go_wp2_with fail
          go_ret
          exact ⟨rfl, HBQ.out⟩

theorem first_law (W : World) (A : Option Addr) (c n : Nat) (xs : List Op) (hn : n = xs.length) (_ : n ≤ c) (hrd : Rd Op.cells 3 W W.heap.size A xs) (hwf : ∀ o ∈ xs, o.wf) (hsz : xs.length * 32 ≤ 140737488351232) :
    Calls Try.prog 6 #[.slice A n c] W fun e w' => e = .returned (.bool true) ∧ Below W.heap.size W w' :=
  first_walk A c n xs hn W (by omega) hrd hwf
end Go.Proofs.Ytdmeijemfneafaa
