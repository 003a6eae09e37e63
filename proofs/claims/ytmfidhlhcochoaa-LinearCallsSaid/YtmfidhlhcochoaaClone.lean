/- The ledger's Clone: a ledger of the same cells in blocks of its own. Conditions: none. -/
import Derived.Test.YtmfidhlhcochoaaRowOwn
import Derived.Test.YtmfidhlhcochoaaLedCells
import Derived.Test.YtmfidhlhcochoaaEach
import Derived.Test.YtmfidhlhcochoaaWorks04
namespace Go.Proofs.Ytmfidhlhcochoaa
open Go.RowKit Go.Shelf
set_option linter.unusedVariables false
set_option linter.unusedSimpArgs false
attribute [local go_sem] Oper.semAt_some

set_option maxRecDepth 100000 in
set_option maxHeartbeats 4000000 in
theorem cloneLedger (b mb : Nat) (cs : List Cell) (w : World) (h : Ledger w b mb cs) :
    Calls Try.prog 43 #[.pointer (some ⟨b, 0, none⟩)] w fun e w' => ∃ b2 mb2, e = .returned (.pointer (some ⟨b2, 0, none⟩)) ∧ Ledger w' b2 mb2 cs ∧ w.heap.size ≤ b2 ∧ w.heap.size ≤ mb2 ∧ Below w.heap.size w w' := by
  have HH := Lib.hid h
  have hri := Lib.hid h.rising
  have hlc := rising_length h.rising
  clear h
  refine (callsIn_wide (n := 3)).1 ?_
  refine callsIn_of_wp_marks Try.func43 rfl trivial ?_ rfl
  simp only [Try.ntmps43, List.size_toArray, List.length_cons, List.length_nil, Nat.reduceAdd, Nat.reduceSub, Array.replicate_succ, Array.replicate_zero, List.push_toArray, List.append_toArray, List.nil_append, List.cons_append]
  gi_wp2_with fail
  refine ⟨trivial, (callsIn_wide.2 (newLedger w)).mono ?_⟩
  rintro e w1 ⟨b2, mb2, rfl, hl1, hbb, hmb, hB1⟩
  dsimp only
  obtain ⟨W2, hW2⟩ : ∃ W2, W2 = w1.alloc (.cells #[.pointer (some ⟨b2, 0, none⟩)] 94) := ⟨_, rfl⟩
  have hb12 : Below w1.heap.size w1 W2 := by rw [hW2]; exact (Below.refl _ _).alloc (Nat.le_refl _) _
  have r2 : W2.heap[w1.heap.size]? = some (.cells #[.pointer (some ⟨b2, 0, none⟩)] 94 (0, 0)) := by rw [hW2]; exact heap_alloc_new _ _
  have hs2 : W2.heap.size = w1.heap.size + 1 := by rw [hW2]; simp
  have hl2 : Ledger W2 b2 mb2 [] := hl1.below hb12
  have hbw2 : Below w.heap.size w W2 := hB1.trans (hb12.mono hB1.size)
  have hlt2 := hl1.lt
  have HL2 := Lib.hid hl2
  have HB2 := Lib.hid hbw2
  have HS2 := Lib.hid hs2
  have R2 := Lib.hid r2
  have HW2 := Lib.hid hW2
  have hB1s := hB1.size
  clear hl1 hB1 hW2 hb12 r2 hs2 hl2 hbw2
  gi_wp2_with fail
  rw [← HW2.out]
  refine ⟨trivial, (callsIn_wide.2 (cellsLedger b mb cs W2 (HH.out.below HB2.out))).mono ?_⟩
  rintro e W3 ⟨v3, rfl, hm3, hb3⟩
  obtain ⟨A3, c3, rfl, _⟩ := hm3.form
  have hr3 := Lib.hid (hm3.rd' encCell.len)
  have r3 := Lib.hid ((hb3.block _ (by have := HS2.out; omega)).trans R2.out)
  have hl3 := Lib.hid (HL2.out.below hb3)
  have hB3 := Lib.hid (HB2.out.trans (hb3.mono HB2.out.size))
  have hs3 : w1.heap.size + 1 ≤ W3.heap.size := by have := hb3.size; have := HS2.out; omega
  clear hm3 hb3 HW2 R2
  dsimp only
  gi_wp2_with fail
  refine ⟨trivial, (callsIn_wide.2 (ledgerEach A3 c3 cs.length cs rfl W3 (by omega) hr3.out)).mono ?_⟩
  rintro e W4 ⟨v4, rfl, hE, hb4⟩
  obtain ⟨Bs, rfl, hE1, hE2, hS⟩ := hE.stops (by omega)
  have r4 := (hb4.block _ (by omega)).trans r3.out
  have hl4 : Ledger W4 b2 mb2 [] := hl3.out.below hb4
  have hB4 := Lib.hid (hB3.out.trans (hb4.mono hB3.out.size))
  have hs4 : w1.heap.size + 1 ≤ W4.heap.size := by have := hb4.size; omega
  have hs34 := hb4.size
  clear hE hb4
  dsimp only
  gi_wp2_with fail
  refine wpIn_rangeFunc_ownH rfl (by omega) (gf := 99) (lb := #[.pointer (some ⟨Bs, 0, none⟩)]) rfl trivial (enters_of Try.func99 (by kernel_rfl) rfl)
    (hS _ W4 (Below.refl _ _)) midK_t (midK_b (by omega)) (Below.refl _ _) (fun _ => rfl)
    (fun pre W => (W.heap[w1.heap.size]? = some (.cells #[.pointer (some ⟨b2, 0, none⟩)] 94 (0, 0)) ∧ Ledger W b2 mb2 (setAll (gotC cs pre))) ∧ Below w.heap.size W4 W)
    (fun _ _ _ => False)
    ?hI ?hIx ?h0
    (fun x a' W => a' = { tmps := #[.pointer (some ⟨b, 0, none⟩), undef, .pointer none, .pointer (some ⟨w1.heap.size, 0, none⟩), .int .i64 cs[x.1].slot, .string cs[x.1].value, .pointer (some ⟨b, 0, none⟩), .bool false, .pointer (some ⟨b2, 0, none⟩), .pointer (some ⟨b, 0, none⟩), .slice A3 cs.length c3, .func (.func 99) #[] #[.pointer (some ⟨Bs, 0, none⟩)], .int .i64 cs[x.1].slot, .string cs[x.1].value, undef, undef, undef, undef, undef], defers := [] })
    ?hAx ?assign ?body ?done ?stop
  case hI => exact OwnFrom.and (OwnFrom.and (row_ownC _ _ (fun _ => #[.pointer (some ⟨b2, 0, none⟩)]) _) (ledger_own (by omega) (by omega) fun pre => setAll (gotC cs pre))) (ownFrom_below (by have := hB4.out.size; omega) (by have := hB4.out.size; omega))
  case hIx => intro c s X Y row hs; exact hs.elim
  case h0 => exact ⟨⟨r4, hl4⟩, Below.refl _ _⟩
  case hAx => intro x a' _ X Y row hs hg hr; exact hs
  case assign =>
    rintro l pre x W K ⟨⟨k0, k1⟩, hB⟩ hK
    dsimp only [encC]
    gi_wp2
    exact hK _ _ (KeepsFrom.refl _ _) (Mid.refl W) ⟨⟨k0, k1⟩, hB⟩ rfl
  case body =>
    rintro l pre x a' W hl ⟨r, hr⟩ ⟨⟨k0, k1⟩, hB⟩ rfl hlt
    have d0 : W.cell? ⟨w1.heap.size, 0, none⟩ = some (.pointer (some ⟨b2, 0, none⟩)) := cell_of_row _ _ 0 _ _ _ k0
    have hgd : Good ⟨cs[x.1].slot, cs[x.1].value⟩ := hri.out.good cs[x.1] (List.getElem_mem _)
    have HP := Lib.hid (setLedger b2 mb2 _ cs[x.1].slot cs[x.1].value W k1 hgd)
    have K0 := Lib.hid k0
    have HB := Lib.hid hB
    have hk1l := k1.lt
    clear k0 k1 hB hgd
    gi_wp2_with fail
    refine ⟨trivial, (CallsIn.inRound l (callsIn_wide.2 HP.out)).mono ?_⟩
    rintro e V ⟨rfl, hlV, hkV⟩
    dsimp only
    gi_wp2_with fail
    refine ⟨KeepsFrom.of_kept hkV (fun k q => by rcases q with q | q <;> omega), Mid.of_kept hkV (by have := HB.out.size; omega) (fun k q => by rcases q with q | q <;> omega), ⟨(hkV.block _ (by have := HB.out.size; omega) (fun q => by rcases q with q | q <;> omega)).trans K0.out, ?_⟩, ?_⟩
    · rw [gotC_snoc, setAll_snoc]; exact hlV
    · exact Kept.below_n HB.out (by have := hB4.out.size; omega) hkV (fun k q => by rcases q with q | q <;> omega)
  case done =>
    rintro D ys W hD rfl ⟨⟨k0, k1⟩, hB⟩ hK
    rw [gotC_places, List.drop_zero, setAll_rising hri.out] at k1
    have d1 : W.cell? ⟨w1.heap.size, 0, none⟩ = some (.pointer (some ⟨b2, 0, none⟩)) := cell_of_row _ _ 0 _ _ _ k0
    gi_wp2
    refine ⟨by simp, .inl ⟨_, _, rfl, run_takeDeferred hK, ?_⟩⟩
    have hBK := belowK_b (w := W4) (n₀ := W4.heap.size) (Nat.le_refl _) W D _ (.deferred none) hD hK rfl rfl
    exact ⟨_, results_tmp rfl _ _ _, b2, mb2, rfl, k1.same (hBK.block b2 (by omega)) (hBK.block mb2 (by omega)), hbb, hmb, hB4.out.trans (hB.trans (hBK.mono (by have := hB4.out.size; omega)))⟩
  case stop =>
    rintro D c pre W hD hSp h
    exact h.elim
end Go.Proofs.Ytmfidhlhcochoaa
