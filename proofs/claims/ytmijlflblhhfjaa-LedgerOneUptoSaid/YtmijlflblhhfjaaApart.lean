/- LedgerApart answers true, whatever the script and the two operations. Conditions: Go lengths. -/
import Derived.Test.YtmijlflblhhfjaaRisesA
import Derived.Test.YtmijlflblhhfjaaLedCells
import Derived.Test.YtmijlflblhhfjaaSame04
import Derived.Deep.RegionHeld3
namespace Go.Proofs.Ytmijlflblhhfjaa
open Go.RowKit
set_option linter.unusedVariables false
set_option linter.unusedSimpArgs false

/-- Two ledgers of the same cells, in blocks of their own above B. -/
structure Two (W : World) (B b mb b2 mb2 : Nat) (cs ds : List Cell) : Prop where
  one : Ledger W b mb cs
  two : Ledger W b2 mb2 ds
  hb : B ≤ b ∧ B ≤ mb ∧ B ≤ b2 ∧ B ≤ mb2
  ne : b ≠ b2 ∧ b ≠ mb2 ∧ mb ≠ b2 ∧ mb ≠ mb2
section
variable {W W' : World} {B b mb b2 mb2 : Nat} {cs ds es : List Cell}
theorem Two.below (h : Two W B b mb b2 mb2 cs ds) (hb : Below W.heap.size W W') : Two W' B b mb b2 mb2 cs ds := ⟨h.one.below hb, h.two.below hb, h.hb, h.ne⟩
theorem Two.at1 (h : Two W B b mb b2 mb2 cs ds) (hl : Ledger W' b mb es) (hk : Kept (LedS b mb) W W') : Two W' B b mb b2 mb2 es ds :=
  ⟨hl, h.two.same (hk.block b2 h.two.lt.1 (fun q => by have := h.ne; rcases q with q | q <;> omega)) (hk.block mb2 h.two.lt.2 (fun q => by have := h.ne; rcases q with q | q <;> omega)), h.hb, h.ne⟩
theorem Two.at2 (h : Two W B b mb b2 mb2 cs ds) (hl : Ledger W' b2 mb2 es) (hk : Kept (LedS b2 mb2) W W') : Two W' B b mb b2 mb2 cs es :=
  ⟨h.one.same (hk.block b h.one.lt.1 (fun q => by have := h.ne; rcases q with q | q <;> omega)) (hk.block mb h.one.lt.2 (fun q => by have := h.ne; rcases q with q | q <;> omega)), hl, h.hb, h.ne⟩
end
theorem keptA {S : Nat → Prop} {B : Nat} {w w1 w2 : World} (h : Below B w w1) (k : Kept S w1 w2) (hs : ∀ j, S j → B ≤ j) (hB : B ≤ w.heap.size) : Below B w w2 :=
  ⟨k.os.trans h.os, k.tape.trans h.tape, k.output.trans h.output, Nat.le_trans h.size k.size, fun j hj => (k.block j (by have := h.size; omega) (fun q => by have := hs j q; omega)).trans (h.block j hj)⟩
theorem eqR_ (r : Res) (w : World) : (binOp .eql 37 (.agg #[.int .i64 r.code, .int .i64 r.slot, .string r.value]) (.agg #[.int .i64 r.code, .int .i64 r.slot, .string r.value])).run Try.prog w = .ok (.bool true) w := by
  have := eql_res r r w
  simpa using this
theorem neqR_ (r : Res) (w : World) : (binOp .neq 37 (.agg #[.int .i64 r.code, .int .i64 r.slot, .string r.value]) (.agg #[.int .i64 r.code, .int .i64 r.slot, .string r.value])).run Try.prog w = .ok (.bool false) w := by
  have := neq_res r r w
  simpa using this

set_option maxRecDepth 100000 in
set_option maxHeartbeats 8000000 in
theorem apart_calls (A : Option Addr) (c n : Nat) (os : List Op) (x y : Op) (hn : n = os.length) (w : World) (hl : os.length ≤ 9223372036854775806) (ha : Rd Op.cells 3 w w.heap.size A os) (hv : ∀ o ∈ os, o.value.size ≤ 9223372036854775807) (hx : x.value.size ≤ 9223372036854775807) (hy : y.value.size ≤ 9223372036854775807) :
    Calls Try.prog 4 #[.slice A n c, .agg #[.int .i64 x.kind, .int .i64 x.slot, .string x.value], .agg #[.int .i64 y.kind, .int .i64 y.slot, .string y.value]] w fun e w' => e = .returned (.bool true) ∧ Below w.heap.size w w' := by
  subst hn
  obtain ⟨W0, hW0⟩ : ∃ W0, W0 = (w.alloc (.cells #[.int .i64 x.kind, .int .i64 x.slot, .string x.value] 33)).alloc (.cells #[.int .i64 y.kind, .int .i64 y.slot, .string y.value] 33) := ⟨_, rfl⟩
  have hb0 : Below w.heap.size w W0 := by rw [hW0]; exact ((Below.refl _ w).alloc (Nat.le_refl _) _).alloc (by simp) _
  have hs0 : W0.heap.size = w.heap.size + 2 := by rw [hW0]; simp
  have rx : W0.heap[w.heap.size]? = some (.cells #[.int .i64 x.kind, .int .i64 x.slot, .string x.value] 33 (0, 0)) := by rw [hW0, heap_alloc_old _ _ (by simp)]; exact heap_alloc_new _ _
  have ry : W0.heap[w.heap.size + 1]? = some (.cells #[.int .i64 y.kind, .int .i64 y.slot, .string y.value] 33 (0, 0)) := by rw [hW0]; exact heap_alloc2_new w _ _
  have HA := Lib.hid ((ha.below hb0).more (show w.heap.size ≤ W0.heap.size by omega))
  have HA0 := Lib.hid ha
  have HV := Lib.hid hv
  have RX := Lib.hid rx
  have RY := Lib.hid ry
  have HS0 := Lib.hid hs0
  have HB0 := Lib.hid hb0
  have HW0 := Lib.hid hW0
  clear ha hv rx ry hs0 hb0 hW0
  have hgr := guard_res
  go_enter Try.func4, Try.ntmps4
  go_wp2_with fail
  rw [← HW0.out]
  refine (newLedger W0).mono ?_
  rintro e w1 ⟨b, mb, rfl, hl1, hbb, hmb, hB1⟩
  have HL1 := Lib.hid hl1
  have HB1 := Lib.hid hB1
  have HBM := Lib.hid (And.intro hbb hmb)
  clear hl1 hB1 hbb hmb
  dsimp only
  go_wp2_with fail
  refine (newLedger w1).mono ?_
  rintro e w2 ⟨b2, mb2, rfl, hl2, hbb2, hmb2, hB2⟩
  have HT2 : Hid (Two w2 W0.heap.size b mb b2 mb2 [] []) := ⟨HL1.out.below hB2, hl2, by have := HBM.out; have := HB1.out.size; omega, by have := HL1.out.lt; omega⟩
  have HB2 := Lib.hid (HB1.out.trans (hB2.mono HB1.out.size))
  clear hl2 hB2 hbb2 hmb2 HL1 HB1 HBM
  dsimp only
  go_wp2_with fail
  refine (works04 w2).mono ?_
  rintro e w3 ⟨rfl, hb3⟩
  have HT3 := Lib.hid (HT2.out.below hb3)
  have HB3 := Lib.hid (HB2.out.trans (hb3.mono HB2.out.size))
  clear hb3 HT2 HB2
  dsimp only
  go_wp2_with fail
  go_loopw [9, 10] (fun i p wr => ∃ k : Nat, k ≤ os.length ∧ i = .int .i64 k ∧ Hid (Two wr W0.heap.size b mb b2 mb2 (playC [] (os.take k)) (playC [] (os.take k))) ∧ Hid (Below W0.heap.size W0 wr)) (fun i _ _ => os.length - (intOf i).toNat)
  case atStart => exact ⟨0, by omega, rfl, (by show Two _ _ _ _ _ _ _ _; simpa [playC] using HT3.out), HB3.out⟩
  case round =>
    obtain ⟨k, hk, rfl, htr, hbr⟩ := hrel
    by_cases h1 : k < os.length
    · obtain ⟨ad, hAd, had, hca⟩ := (HA.out.below hbr.out).at_ h1
      subst hAd
      have g1 : (k:Int) < (os.length : Int) := by omega
      have hvk := HV.out os[k] (by simp)
      have hst := Lib.hid (playC_take_succ [] os k h1)
      obtain ⟨c0, c1, c2⟩ := hca.three
      have HCA := Lib.hid hca
      have HAD := Lib.hid had
      clear hca had
      generalize os[k] = o at *
      generalize playC [] (os.take k) = ds at *
      obtain ⟨es, hes⟩ : ∃ es, es = after ds o := ⟨_, rfl⟩
      obtain ⟨r, hr⟩ : ∃ r, r = would ds o := ⟨_, rfl⟩
      obtain ⟨bq, hbq⟩ : ∃ bq, bq = quietB o := ⟨_, rfl⟩
      have hdo1 := doLedger b mb ds o hvk wr htr.out.one
      have hdo2 := fun W (hW : Ledger W b2 mb2 ds) => doLedger b2 mb2 ds o hvk W hW
      have hqu := fun W => quiet_prog o hvk W
      rw [← hes, ← hr] at hdo1
      simp only [← hes, ← hr] at hdo2
      simp only [← hbq] at hqu
      have HDO1 := Lib.hid hdo1
      have HDO2 := Lib.hid hdo2
      have HQU := Lib.hid hqu
      have HES := Lib.hid hes
      have HQE : Hid (bq = true → es = ds) := fun h => by rw [hes]; exact quietB_after (by rw [← hbq]; exact h)
      clear hdo1 hdo2 hqu hes hr hbq
      have hneq := neqR_ r
      go_wp2_with fail
      refine HDO1.out.mono ?_
      rintro e w4 ⟨rfl, hl4, hk4⟩
      have ht4 := htr.out.at1 hl4 hk4
      have hb4 := keptA hbr.out hk4 (fun j q => by have := htr.out.hb; rcases q with q | q <;> omega) (Nat.le_refl _)
      obtain ⟨w5, hw5⟩ : ∃ w5, w5 = w4.alloc (.cells #[.int .i64 r.code, .int .i64 r.slot, .string r.value] 37) := ⟨_, rfl⟩
      have hb45 : Below w4.heap.size w4 w5 := by rw [hw5]; exact (Below.refl _ _).alloc (Nat.le_refl _) _
      have i5 : w5.heap[w4.heap.size]? = some (.cells #[.int .i64 r.code, .int .i64 r.slot, .string r.value] 37 (0, 0)) := by rw [hw5]; exact heap_alloc_new _ _
      have HS5 : Hid (w5.heap.size = w4.heap.size + 1) := by show _ = _; rw [hw5]; simp
      have HT5 := Lib.hid (ht4.below hb45)
      have HB5 := Lib.hid (hb4.trans (hb45.mono hb4.size))
      have HX : Hid (w4.heap.size ≠ b2 ∧ w4.heap.size ≠ mb2) := by have := ht4.two.lt; show _ ∧ _; omega
      have hcw5 : At w5 (ad.add (k * 3)) o.cells := by
        have hca := HCA.out
        refine (hca.keep (w' := w5) fun q hq => ?_)
        have hlt : q.block < W0.heap.size := by rw [hq, block_add]; exact HAD.out
        rw [HB5.out.cell (p := q) hlt, hbr.out.cell (p := q) hlt]
      have KEY : Hid (∀ W, Kept (LedS b2 mb2) w5 W → W.cell? (ad.add (k * 3)) = some (.int .i64 o.kind) ∧ W.cell? ⟨(ad.add (k * 3)).block, (ad.add (k * 3)).off + 1, none⟩ = some (.int .i64 o.slot) ∧ W.cell? ⟨(ad.add (k * 3)).block, (ad.add (k * 3)).off + 2, none⟩ = some (.string o.value) ∧
          W.cell? ⟨w4.heap.size, 0, none⟩ = some (.int .i64 r.code) ∧ W.cell? ⟨w4.heap.size, 1, none⟩ = some (.int .i64 r.slot) ∧ W.cell? ⟨w4.heap.size, 2, none⟩ = some (.string r.value)) := fun W hW => by
        have hcw : At W (ad.add (k * 3)) o.cells := hcw5.keep fun q hq => World.cell?_of_block (w := w5) (hW.block _ (by rw [hq, block_add]; have := HAD.out; have := HB5.out.size; omega) (by rw [hq, block_add]; have := HAD.out; have := HT5.out.hb; unfold LedS; omega))
        have iw := (hW.block w4.heap.size (by have := HS5.out; omega) (by have := HX.out; unfold LedS; omega)).trans i5
        obtain ⟨p, q, r⟩ := hcw.three
        exact ⟨p, q, r, cell_of_row W _ 0 _ _ _ iw, cell_of_row W _ 1 _ _ _ iw, cell_of_row W _ 2 _ _ _ iw⟩
      have HW5 := Lib.hid hw5
      have HK5 : Hid (Kept (LedS b2 mb2) w5 w5) := Kept.refl _ _
      obtain ⟨e0, e1, e2, r0, r1, r2⟩ := KEY.out w5 HK5.out
      clear hl4 hk4 ht4 hb4 hw5 hb45 i5 hcw5 c0 c1 c2 htr hbr HDO1
      dsimp only
      by_cases hbq : bq = true
      · have he := HQE.out hbq
        subst he
        have hbn : (!bq) = false := by simp [hbq]
        clear hbq
        go_wp2_with fail
        rw [← HW5.out]
        refine wp_region_held_drew (S := (fun W => W.cell? (ad.add (k * 3)) = some (.int .i64 o.kind) ∧ W.cell? ⟨(ad.add (k * 3)).block, (ad.add (k * 3)).off + 1, none⟩ = some (.int .i64 o.slot) ∧ W.cell? ⟨(ad.add (k * 3)).block, (ad.add (k * 3)).off + 2, none⟩ = some (.string o.value) ∧
          W.cell? ⟨w4.heap.size, 0, none⟩ = some (.int .i64 r.code) ∧ W.cell? ⟨w4.heap.size, 1, none⟩ = some (.int .i64 r.slot) ∧ W.cell? ⟨w4.heap.size, 2, none⟩ = some (.string r.value))) (by kernel_rfl) (KEY.out _ (HK5.out.drewN 1)) (fun hHeld => ?_)
        simp only [List.size_toArray, List.length_cons, List.length_nil, Nat.reduceAdd]
        simp only [show Array.replicate 16 false = #[false, false, false, false, false, false, false, false, false, false, false, false, false, false, false, false] from rfl]
        refine wpAnyH_take (i := 0) (oi := ⟨some 39, _, _, _, _, _⟩) (v := ?_) rfl (by kernel_rfl) (by kernel_rfl) (by kernel_rfl) (fun _ _ _ h => h) (Or.inl ⟨by kernel_rfl, ?_⟩) hHeld ?_
        rotate_left
        · intro w hSw; go_split_ands; go_simp; try with_reducible rfl
        simp only [Act.put, List.setIfInBounds_toArray, List.set_cons_zero, List.set_cons_succ]
        refine wpAnyH_take (i := 1) (oi := ⟨some 40, _, _, _, _, _⟩) (v := ?_) rfl (by kernel_rfl) (by kernel_rfl) (by kernel_rfl) (fun _ _ _ h => h) (Or.inl ⟨by kernel_rfl, ?_⟩) hHeld ?_
        rotate_left
        · intro w hSw; go_split_ands; go_simp; try with_reducible rfl
        simp only [Act.put, List.setIfInBounds_toArray, List.set_cons_zero, List.set_cons_succ]
        refine wpAnyH_take (i := 2) (oi := ⟨some 41, _, _, _, _, _⟩) (v := ?_) rfl (by kernel_rfl) (by kernel_rfl) (by kernel_rfl) (fun _ _ _ h => h) (Or.inl ⟨by kernel_rfl, ?_⟩) hHeld ?_
        rotate_left
        · intro w hSw; go_split_ands; go_simp; try with_reducible rfl
        simp only [Act.put, List.setIfInBounds_toArray, List.set_cons_zero, List.set_cons_succ]
        refine wpAnyH_take (i := 3) (oi := ⟨some 42, _, _, _, _, _⟩) (v := ?_) rfl (by kernel_rfl) (by kernel_rfl) (by kernel_rfl) (fun _ _ _ h => h) (Or.inl ⟨by kernel_rfl, ?_⟩) hHeld ?_
        rotate_left
        · intro w hSw; go_split_ands; go_simp; try with_reducible rfl
        simp only [Act.put, List.setIfInBounds_toArray, List.set_cons_zero, List.set_cons_succ]
        refine wpAnyH_ready (rs := [4]) (by kernel_rfl) (by simp) ?_
        refine AllReadyH.cons rfl (fun K hK => ?_) AllReadyH.nil
        go_simp
        refine (HQU.out _).mono ?_
        rintro e w6 ⟨rfl, hb6⟩
        have hb6' : Below w5.heap.size w5 w6 := ⟨hb6.os, hb6.tape, hb6.output, hb6.size, hb6.block⟩
        have HK6 := Lib.hid (Kept.of_below hb6' (LedS b2 mb2))
        have HT6 := Lib.hid (HT5.out.below hb6')
        have HB6 := Lib.hid (HB5.out.trans (hb6'.mono HB5.out.size))
        clear hb6 hb6'
        dsimp only
        clear hHeld
        refine hK.out _ _ (KEY.out _ HK6.out) (fun hHeld => ?_)
        clear hK K
        simp only [Act.put, List.setIfInBounds_toArray, List.set_cons_zero, List.set_cons_succ]
        refine wpAnyH_take (i := 5) (oi := ⟨some 44, _, _, _, _, _⟩) (v := ?_) rfl (by kernel_rfl) (by kernel_rfl) (by kernel_rfl) (fun _ _ _ h => h) (Or.inl ⟨by kernel_rfl, ?_⟩) hHeld ?_
        rotate_left
        · intro w hSw; go_split_ands; go_simp; try with_reducible rfl
        simp only [Act.put, List.setIfInBounds_toArray, List.set_cons_zero, List.set_cons_succ]
        refine wpAnyH_take (i := 6) (oi := ⟨some 45, _, _, _, _, _⟩) (v := ?_) rfl (by kernel_rfl) (by kernel_rfl) (by kernel_rfl) (fun _ _ _ h => h) (Or.inl ⟨by kernel_rfl, ?_⟩) hHeld ?_
        rotate_left
        · intro w hSw; go_split_ands; go_simp; try with_reducible rfl
        simp only [Act.put, List.setIfInBounds_toArray, List.set_cons_zero, List.set_cons_succ]
        refine wpAnyH_take (i := 7) (oi := ⟨some 46, _, _, _, _, _⟩) (v := undef) rfl (by kernel_rfl) (by kernel_rfl) (by kernel_rfl) (fun _ _ _ h => h) (Or.inr ⟨by kernel_rfl, rfl⟩) hHeld ?_
        simp only [Act.put, List.setIfInBounds_toArray, List.set_cons_zero, List.set_cons_succ]
        refine wpAnyH_take (i := 8) (oi := ⟨some 47, _, _, _, _, _⟩) (v := undef) rfl (by kernel_rfl) (by kernel_rfl) (by kernel_rfl) (fun _ _ _ h => h) (Or.inr ⟨by kernel_rfl, rfl⟩) hHeld ?_
        simp only [Act.put, List.setIfInBounds_toArray, List.set_cons_zero, List.set_cons_succ]
        refine wpAnyH_take (i := 9) (oi := ⟨some 48, _, _, _, _, _⟩) (v := undef) rfl (by kernel_rfl) (by kernel_rfl) (by kernel_rfl) (fun _ _ _ h => h) (Or.inr ⟨by kernel_rfl, rfl⟩) hHeld ?_
        simp only [Act.put, List.setIfInBounds_toArray, List.set_cons_zero, List.set_cons_succ]
        refine wpAnyH_take (i := 10) (oi := ⟨some 49, _, _, _, _, _⟩) (v := undef) rfl (by kernel_rfl) (by kernel_rfl) (by kernel_rfl) (fun _ _ _ h => h) (Or.inr ⟨by kernel_rfl, rfl⟩) hHeld ?_
        simp only [Act.put, List.setIfInBounds_toArray, List.set_cons_zero, List.set_cons_succ]
        refine wpAnyH_take (i := 11) (oi := ⟨some 50, _, _, _, _, _⟩) (v := undef) rfl (by kernel_rfl) (by kernel_rfl) (by kernel_rfl) (fun _ _ _ h => h) (Or.inr ⟨by kernel_rfl, rfl⟩) hHeld ?_
        simp only [Act.put, List.setIfInBounds_toArray, List.set_cons_zero, List.set_cons_succ]
        refine wpAnyH_take (i := 12) (oi := ⟨some 51, _, _, _, _, _⟩) (v := undef) rfl (by kernel_rfl) (by kernel_rfl) (by kernel_rfl) (fun _ _ _ h => h) (Or.inr ⟨by kernel_rfl, rfl⟩) hHeld ?_
        simp only [Act.put, List.setIfInBounds_toArray, List.set_cons_zero, List.set_cons_succ]
        refine wpAnyH_take (i := 13) (oi := ⟨some 52, _, _, _, _, _⟩) (v := undef) rfl (by kernel_rfl) (by kernel_rfl) (by kernel_rfl) (fun _ _ _ h => h) (Or.inr ⟨by kernel_rfl, rfl⟩) hHeld ?_
        simp only [Act.put, List.setIfInBounds_toArray, List.set_cons_zero, List.set_cons_succ]
        refine wpAnyH_take (i := 14) (oi := ⟨some 53, _, _, _, _, _⟩) (v := undef) rfl (by kernel_rfl) (by kernel_rfl) (by kernel_rfl) (fun _ _ _ h => h) (Or.inr ⟨by kernel_rfl, rfl⟩) hHeld ?_
        simp only [Act.put, List.setIfInBounds_toArray, List.set_cons_zero, List.set_cons_succ]
        refine wpAnyH_take (i := 15) (oi := ⟨some 54, _, _, _, _, _⟩) (v := ?_) rfl (by kernel_rfl) (by kernel_rfl) (by kernel_rfl) (fun _ _ _ h => h) (Or.inl ⟨by kernel_rfl, ?_⟩) hHeld ?_
        rotate_left
        · intro w hSw; go_split_ands; go_simp; try with_reducible rfl
        simp only [Act.put, List.setIfInBounds_toArray, List.set_cons_zero, List.set_cons_succ]
        refine wpAnyH_done (by kernel_rfl) ?_ _
        clear hHeld
        go_wp2_with fail
        go_roundw
        case rel => exact ⟨k + 1, by omega, by go_num, by rw [hst.out, ← HES.out]; exact HT6.out, HB6.out⟩
        case measure => simp [intOf]; omega
      · have hbn : (!bq) = true := by simpa using hbq
        clear hbq
        go_wp2_with fail
        rw [← HW5.out]
        go_region_held3 (fun W => W.cell? (ad.add (k * 3)) = some (.int .i64 o.kind) ∧ W.cell? ⟨(ad.add (k * 3)).block, (ad.add (k * 3)).off + 1, none⟩ = some (.int .i64 o.slot) ∧ W.cell? ⟨(ad.add (k * 3)).block, (ad.add (k * 3)).off + 2, none⟩ = some (.string o.value) ∧
          W.cell? ⟨w4.heap.size, 0, none⟩ = some (.int .i64 r.code) ∧ W.cell? ⟨w4.heap.size, 1, none⟩ = some (.int .i64 r.slot) ∧ W.cell? ⟨w4.heap.size, 2, none⟩ = some (.string r.value))
          (first
            | exact KEY.out _ HK7.out
            | exact KEY.out _ HK6.out
            | go_keep)
          (first
            | (go_at_call 17
               refine (HQU.out _).mono ?_
               rintro e w6 ⟨rfl, hb6⟩
               have hb6' : Below w5.heap.size w5 w6 := ⟨hb6.os, hb6.tape, hb6.output, hb6.size, hb6.block⟩
               have HK6 := Lib.hid (Kept.of_below hb6' (LedS b2 mb2))
               have HT6 := Lib.hid (HT5.out.below hb6')
               have HB6 := Lib.hid (HB5.out.trans (hb6'.mono HB5.out.size))
               clear hb6 hb6')
            | (go_at_call 16
               refine (HDO2.out _ (by exact HT6.out.two)).mono ?_
               rintro e w7 ⟨rfl, hl7, hk7⟩
               have hk7' : Kept (LedS b2 mb2) w6 w7 := ⟨hk7.os, hk7.tape, hk7.output, hk7.size, hk7.block⟩
               have HK7 := Lib.hid (HK6.out.trans hk7')
               have HT7 := Lib.hid (HT6.out.at2 hl7 hk7')
               have HB7 := Lib.hid (keptA HB6.out hk7' (fun j q => by have := HT6.out.hb; rcases q with q | q <;> omega) (Nat.le_refl _))
               clear hl7 hk7 hk7'))
        go_wp2_with fail
        go_roundw
        case rel => exact ⟨k + 1, by omega, by go_num, by rw [hst.out, ← HES.out]; exact HT7.out, HB7.out⟩
        case measure => simp [intOf]; omega
    · have g1 : decide (k < os.length) = false := by simp; omega
      have g2 : decide ((k : Int) < (os.length : Int)) = false := by simp; omega
      generalize playC [] (os.take k) = cs at *
      have HRI := Lib.hid htr.out.one.rising
      have HCL := Lib.hid (rising_length htr.out.one.rising)
      have HLC := Lib.hid (cellsLedger b mb cs wr htr.out.one)
      clear HA HV HT3 HB3
      go_wp2_with fail
      refine HLC.out.mono ?_
      rintro e w4 ⟨v4, rfl, hm4, hb4⟩
      obtain ⟨A4, c4, rfl, _⟩ := hm4.form
      have HT4 := Lib.hid (htr.out.below hb4)
      have HB4 := Lib.hid (hbr.out.trans (hb4.mono hbr.out.size))
      have HR4 := Lib.hid (hm4.rd' encCell.len)
      have HLC2 := Lib.hid (cellsLedger b2 mb2 cs w4 HT4.out.two)
      clear hm4 hb4 htr hbr HLC
      dsimp only
      go_wp2_with fail
      refine HLC2.out.mono ?_
      rintro e w5 ⟨v5, rfl, hm5, hb5⟩
      obtain ⟨A5, c5, rfl, _⟩ := hm5.form
      have HT5 := Lib.hid (HT4.out.below hb5)
      have HB5 := Lib.hid (HB4.out.trans (hb5.mono HB4.out.size))
      have HSC := Lib.hid (sameCellsTrue A4 A5 c4 c5 cs.length cs rfl w5 (by have := HCL.out; omega) ((HR4.out.below hb5).more hb5.size) (hm5.rd' encCell.len))
      clear hm5 hb5 HT4 HB4 HR4 HLC2
      dsimp only
      go_wp2_with fail
      refine HSC.out.mono ?_
      rintro e w' ⟨rfl, q5, rfl⟩
      have HT6 : Hid (Two (w5.drewN q5) W0.heap.size b mb b2 mb2 cs cs) := HT5.out.below (below_drewN (Below.refl _ _) q5)
      have HB6 : Hid (Below W0.heap.size W0 (w5.drewN q5)) := below_drewN HB5.out _
      generalize w5.drewN q5 = w6 at *
      clear HT5 HB5 HSC
      -- the two operations, at any world that keeps what lay at first
      have KEY : Hid (∀ W, Below W0.heap.size W0 W → (W.cell? ⟨w.heap.size, 0, none⟩ = some (.int .i64 x.kind) ∧ W.cell? ⟨w.heap.size, 1, none⟩ = some (.int .i64 x.slot) ∧ W.cell? ⟨w.heap.size, 2, none⟩ = some (.string x.value)) ∧
          (W.cell? ⟨w.heap.size + 1, 0, none⟩ = some (.int .i64 y.kind) ∧ W.cell? ⟨w.heap.size + 1, 1, none⟩ = some (.int .i64 y.slot) ∧ W.cell? ⟨w.heap.size + 1, 2, none⟩ = some (.string y.value))) := fun W hW => by
        have h1 := (hW.block w.heap.size (by have := HS0.out; omega)).trans RX.out
        have h2 := (hW.block (w.heap.size + 1) (by have := HS0.out; omega)).trans RY.out
        exact ⟨⟨cell_of_row W _ 0 _ _ _ h1, cell_of_row W _ 1 _ _ _ h1, cell_of_row W _ 2 _ _ _ h1⟩, cell_of_row W _ 0 _ _ _ h2, cell_of_row W _ 1 _ _ _ h2, cell_of_row W _ 2 _ _ _ h2⟩
      obtain ⟨⟨x0, x1, x2⟩, y0, y1, y2⟩ := KEY.out w6 HB6.out
      have HF : Hid (Below w.heap.size w w6) := HB0.out.trans (HB6.out.mono HB0.out.size)
      by_cases hs : x.slot = y.slot
      · have hs' : (x.slot == y.slot) = true := by simpa using hs
        clear hs
        dsimp only
        go_wp2_with fail
        go_ret
        exact ⟨rfl, HF.out⟩
      have hs' : (x.slot == y.slot) = false := by simpa using hs
      by_cases kx : x.kind = 1 ∨ x.kind = 3
      rotate_left
      · have e1 : (x.kind != 1) = true := by simp; omega
        have e3 : (x.kind != 3) = true := by simp; omega
        clear hs kx
        dsimp only
        go_wp2_with fail
        go_ret
        exact ⟨rfl, HF.out⟩
      by_cases ky : y.kind = 1 ∨ y.kind = 3
      rotate_left
      · have f1 : (y.kind != 1) = true := by simp; omega
        have f3 : (y.kind != 3) = true := by simp; omega
        clear hs ky
        rcases kx with kx | kx
        · have e1 : (x.kind != 1) = false := by simp [kx]
          clear kx
          dsimp only
          go_wp2_with fail
          go_ret
          exact ⟨rfl, HF.out⟩
        · have e1 : (x.kind != 1) = true := by simp [kx]
          have e3 : (x.kind != 3) = false := by simp [kx]
          clear kx
          dsimp only
          go_wp2_with fail
          go_ret
          exact ⟨rfl, HF.out⟩
      obtain ⟨q1, q2, q3⟩ := commute HRI.out kx ky hs
      have HX1 := Lib.hid (fun W (hW : Ledger W b mb cs) => doLedger b mb cs x hx W hW)
      have HY1 := Lib.hid (fun W (hW : Ledger W b mb (after cs x)) => doLedger b mb (after cs x) y hy W hW)
      have HY2 := Lib.hid (fun W (hW : Ledger W b2 mb2 cs) => doLedger b2 mb2 cs y hy W hW)
      have HX2 := Lib.hid (fun W (hW : Ledger W b2 mb2 (after cs y)) => doLedger b2 mb2 (after cs y) x hx W hW)
      have HRX := Lib.hid (rising_length (after_rising (after_rising HRI.out x) y))
      rw [q2] at HY1
      rw [q1, q3] at HX2
      have hE1 := eqR_ (would cs x)
      have hE2 := eqR_ (would cs y)
      clear q1 q2 q3 hs
      generalize after (after cs x) y = es at *
      generalize after cs x = ex at *
      generalize after cs y = ey at *
      generalize would cs x = r at *
      generalize would cs y = t at *
      have tests : (((x.kind != 1) = false) ∨ ((x.kind != 1) = true ∧ (x.kind != 3) = false)) := by
        rcases kx with kx | kx
        · left; simp [kx]
        · right; simp [kx]
      have tests2 : (((y.kind != 1) = false) ∨ ((y.kind != 1) = true ∧ (y.kind != 3) = false)) := by
        rcases ky with ky | ky
        · left; simp [ky]
        · right; simp [ky]
      clear kx ky
      rcases tests with e1 | ⟨e1, e3⟩ <;> rcases tests2 with f1 | ⟨f1, f3⟩
      all_goals
        dsimp only
        go_wp2_with fail
        refine (HX1.out w6 HT6.out.one).mono ?_
        rintro e w7 ⟨rfl, hl7, hk7⟩
        have ht7 := HT6.out.at1 hl7 hk7
        have hb7 := keptA HB6.out hk7 (fun j q => by have := HT6.out.hb; rcases q with q | q <;> omega) (Nat.le_refl _)
        obtain ⟨w8, hw8⟩ : ∃ w8, w8 = w7.alloc (.cells #[.int .i64 r.code, .int .i64 r.slot, .string r.value] 37) := ⟨_, rfl⟩
        have hb78 : Below w7.heap.size w7 w8 := by rw [hw8]; exact (Below.refl _ _).alloc (Nat.le_refl _) _
        have i8 : w8.heap[w7.heap.size]? = some (.cells #[.int .i64 r.code, .int .i64 r.slot, .string r.value] 37 (0, 0)) := by rw [hw8]; exact heap_alloc_new _ _
        have HT8 := Lib.hid (ht7.below hb78)
        have HB8 := Lib.hid (hb7.trans (hb78.mono hb7.size))
        have I8 := Lib.hid i8
        have HS8 : Hid (w7.heap.size < w8.heap.size) := by show _ < _; rw [hw8]; simp
        have HP7 : Hid (b < w7.heap.size ∧ mb < w7.heap.size ∧ b2 < w7.heap.size ∧ mb2 < w7.heap.size) := by have h1 := ht7.one.lt; have h2 := ht7.two.lt; show _ ∧ _; omega
        have HW8 := Lib.hid hw8
        clear hl7 hk7 ht7 hb7 hw8 hb78 i8 x0 x1 x2 y0 y1 y2
        have hbx := HB8.out
        rw [HW8.out] at hbx
        obtain ⟨⟨x0, x1, x2⟩, y0, y1, y2⟩ := KEY.out _ hbx
        clear hbx
        dsimp only
        go_wp2_with fail
        rw [← HW8.out]
        refine (HY1.out w8 HT8.out.one).mono ?_
        rintro e w9 ⟨rfl, hl9, hk9⟩
        have ht9 := HT8.out.at1 hl9 hk9
        have hb9 := keptA HB8.out hk9 (fun j q => by have := HT8.out.hb; rcases q with q | q <;> omega) (Nat.le_refl _)
        have i9 := (hk9.block w7.heap.size HS8.out (fun q => by have := HP7.out; rcases q with q | q <;> omega)).trans I8.out
        obtain ⟨w10, hw10⟩ : ∃ w10, w10 = w9.alloc (.cells #[.int .i64 t.code, .int .i64 t.slot, .string t.value] 37) := ⟨_, rfl⟩
        have hb910 : Below w9.heap.size w9 w10 := by rw [hw10]; exact (Below.refl _ _).alloc (Nat.le_refl _) _
        have hs89 := hk9.size
        have J8 := Lib.hid ((hb910.block w7.heap.size (by have := HS8.out; omega)).trans i9)
        have J10 : Hid (w10.heap[w9.heap.size]? = some (.cells #[.int .i64 t.code, .int .i64 t.slot, .string t.value] 37 (0, 0))) := by show _ = _; rw [hw10]; exact heap_alloc_new _ _
        have HT10 := Lib.hid (ht9.below hb910)
        have HB10 := Lib.hid (hb9.trans (hb910.mono hb9.size))
        have HS10 : Hid (w7.heap.size < w9.heap.size ∧ w9.heap.size < w10.heap.size) := by have := HS8.out; refine ⟨by omega, ?_⟩; rw [hw10]; simp
        have HW10 := Lib.hid hw10
        clear hl9 hk9 ht9 hb9 i9 hw10 hb910 hs89 x0 x1 x2 y0 y1 y2 HT8 HB8 I8 HW8
        have hbx := HB10.out
        rw [HW10.out] at hbx
        obtain ⟨⟨x0, x1, x2⟩, y0, y1, y2⟩ := KEY.out _ hbx
        clear hbx
        dsimp only
        go_wp2_with fail
        rw [← HW10.out]
        refine (HY2.out w10 HT10.out.two).mono ?_
        rintro e w11 ⟨rfl, hl11, hk11⟩
        have ht11 := HT10.out.at2 hl11 hk11
        have hb11 := keptA HB10.out hk11 (fun j q => by have := HT10.out.hb; rcases q with q | q <;> omega) (Nat.le_refl _)
        obtain ⟨w12, hw12⟩ : ∃ w12, w12 = w11.alloc (.cells #[.int .i64 t.code, .int .i64 t.slot, .string t.value] 37) := ⟨_, rfl⟩
        have hb1112 : Below w11.heap.size w11 w12 := by rw [hw12]; exact (Below.refl _ _).alloc (Nat.le_refl _) _
        have hs1011 := hk11.size
        have K8 := Lib.hid ((hb1112.block w7.heap.size (by have := HS10.out; omega)).trans ((hk11.block w7.heap.size (by have := HS10.out; omega) (fun q => by have := HP7.out; rcases q with q | q <;> omega)).trans J8.out))
        have K10 := Lib.hid ((hb1112.block w9.heap.size (by have := HS10.out; omega)).trans ((hk11.block w9.heap.size (by have := HS10.out; omega) (fun q => by have := HP7.out; have := HS10.out; rcases q with q | q <;> omega)).trans J10.out))
        have K12 : Hid (w12.heap[w11.heap.size]? = some (.cells #[.int .i64 t.code, .int .i64 t.slot, .string t.value] 37 (0, 0))) := by show _ = _; rw [hw12]; exact heap_alloc_new _ _
        have HT12 := Lib.hid (ht11.below hb1112)
        have HB12 := Lib.hid (hb11.trans (hb1112.mono hb11.size))
        have HS12 : Hid (w9.heap.size < w11.heap.size ∧ w11.heap.size < w12.heap.size) := by have := HS10.out; refine ⟨by omega, ?_⟩; rw [hw12]; simp
        have HW12 := Lib.hid hw12
        clear hl11 hk11 ht11 hb11 hw12 hb1112 hs1011 x0 x1 x2 y0 y1 y2 HT10 HB10 J8 J10 HW10
        have hbx := HB12.out
        rw [HW12.out] at hbx
        obtain ⟨⟨x0, x1, x2⟩, y0, y1, y2⟩ := KEY.out _ hbx
        clear hbx
        dsimp only
        go_wp2_with fail
        rw [← HW12.out]
        refine (HX2.out w12 HT12.out.two).mono ?_
        rintro e w13 ⟨rfl, hl13, hk13⟩
        have ht13 := HT12.out.at2 hl13 hk13
        have hb13 := keptA HB12.out hk13 (fun j q => by have := HT12.out.hb; rcases q with q | q <;> omega) (Nat.le_refl _)
        obtain ⟨w14, hw14⟩ : ∃ w14, w14 = w13.alloc (.cells #[.int .i64 r.code, .int .i64 r.slot, .string r.value] 37) := ⟨_, rfl⟩
        have hb1314 : Below w13.heap.size w13 w14 := by rw [hw14]; exact (Below.refl _ _).alloc (Nat.le_refl _) _
        have hs1213 := hk13.size
        have k8 := (hb1314.block w7.heap.size (by have := HS10.out; have := HS12.out; omega)).trans ((hk13.block w7.heap.size (by have := HS10.out; have := HS12.out; omega) (fun q => by have := HP7.out; rcases q with q | q <;> omega)).trans K8.out)
        have k10 := (hb1314.block w9.heap.size (by have := HS10.out; have := HS12.out; omega)).trans ((hk13.block w9.heap.size (by have := HS10.out; have := HS12.out; omega) (fun q => by have := HP7.out; have := HS10.out; rcases q with q | q <;> omega)).trans K10.out)
        have k12 := (hb1314.block w11.heap.size (by have := HS12.out; omega)).trans ((hk13.block w11.heap.size (by have := HS12.out; omega) (fun q => by have := HP7.out; have := HS10.out; have := HS12.out; rcases q with q | q <;> omega)).trans K12.out)
        have k14 : w14.heap[w13.heap.size]? = some (.cells #[.int .i64 r.code, .int .i64 r.slot, .string r.value] 37 (0, 0)) := by rw [hw14]; exact heap_alloc_new _ _
        have HT14 := Lib.hid (ht13.below hb1314)
        have HB14 := Lib.hid (hb13.trans (hb1314.mono hb13.size))
        have HW14 := Lib.hid hw14
        rw [hw14] at k8 k10 k12 k14
        have a0 := cell_of_row _ _ 0 _ _ _ k8
        have a1 := cell_of_row _ _ 1 _ _ _ k8
        have a2 := cell_of_row _ _ 2 _ _ _ k8
        have b0 := cell_of_row _ _ 0 _ _ _ k10
        have b1 := cell_of_row _ _ 1 _ _ _ k10
        have b2' := cell_of_row _ _ 2 _ _ _ k10
        have d0 := cell_of_row _ _ 0 _ _ _ k12
        have d1 := cell_of_row _ _ 1 _ _ _ k12
        have d2 := cell_of_row _ _ 2 _ _ _ k12
        have l0 := cell_of_row _ _ 0 _ _ _ k14
        have l1 := cell_of_row _ _ 1 _ _ _ k14
        have l2 := cell_of_row _ _ 2 _ _ _ k14
        have HC1 := Lib.hid (cellsLedger b mb es w14 HT14.out.one)
        clear hl13 hk13 ht13 hb13 hw14 hb1314 hs1213 x0 x1 x2 y0 y1 y2 HT12 HB12 K8 K10 K12 HW12 k8 k10 k12 k14
        dsimp only
        go_wp2_with fail
        rw [← HW14.out]
        refine HC1.out.mono ?_
        rintro e w15 ⟨v15, rfl, hm15, hb15⟩
        obtain ⟨A15, c15, rfl, _⟩ := hm15.form
        have HB15 := Lib.hid (HB14.out.trans (hb15.mono HB14.out.size))
        have HR15 := Lib.hid (hm15.rd' encCell.len)
        have HC2 := Lib.hid (cellsLedger b2 mb2 es w15 (HT14.out.below hb15).two)
        clear hm15 hb15 HC1 a0 a1 a2 b0 b1 b2' d0 d1 d2 l0 l1 l2
        dsimp only
        go_wp2_with fail
        refine HC2.out.mono ?_
        rintro e w16 ⟨v16, rfl, hm16, hb16⟩
        obtain ⟨A16, c16, rfl, _⟩ := hm16.form
        have HB16 := Lib.hid (HB15.out.trans (hb16.mono HB15.out.size))
        have HSC := Lib.hid (sameCellsTrue A15 A16 c15 c16 es.length es rfl w16 (by have := HRX.out; omega) ((HR15.out.below hb16).more hb16.size) (hm16.rd' encCell.len))
        clear hm16 hb16 HC2 HR15
        dsimp only
        go_wp2_with fail
        refine HSC.out.mono ?_
        rintro e w' ⟨rfl, q16, rfl⟩
        dsimp only
        go_wp2_with fail
        go_ret
        exact ⟨rfl, below_drewN (HB0.out.trans (HB16.out.mono HB0.out.size)) _⟩

theorem apart_law (W : World) (A : Option Addr) (c n : Nat) (xs : List Op) (hn : n = xs.length) (_ : n ≤ c) (hrd : Rd Op.cells 3 W W.heap.size A xs) (hwf : ∀ o ∈ xs, o.wf) (hsz : xs.length * 32 ≤ 140737488351232) (x : Op) (hx : x.value.size ≤ 9223372036854775807) (y : Op) (hy : y.value.size ≤ 9223372036854775807) :
    Calls Try.prog 4 #[.slice A n c, .agg #[.int .i64 x.kind, .int .i64 x.slot, .string x.value], .agg #[.int .i64 y.kind, .int .i64 y.slot, .string y.value]] W fun e w' => e = .returned (.bool true) ∧ Below W.heap.size W w' :=
  apart_calls A c n xs x y hn W (by omega) hrd (fun o ho => (hwf o ho).value) hx hy
end Go.Proofs.Ytmijlflblhhfjaa
