/- Do on a ledger that no call made; and what zeroes then comes to. Conditions: none. -/
import Derived.Test.YtdkdddkhfonjmaaNil04
import Derived.Test.YtdkdddkhfonjmaaApart
import Derived.Deep.RegionHeld3
namespace Go.Proofs.Ytdkdddkhfonjmaa
open Go.RowKit Go.Shelf
set_option linter.unusedVariables false
set_option linter.unusedSimpArgs false

theorem Zero.same {W W' : World} {b : Nat} (h : Zero W b) (e : W'.heap[b]? = W.heap[b]?) : Zero W' b := e.trans h
theorem Zero.below {W W' : World} {b : Nat} (h : Zero W b) (hb : Below W.heap.size W W') : Zero W' b := h.same (hb.block b (Array.getElem?_eq_some_iff.1 h).1)
set_option maxRecDepth 100000 in
set_option maxHeartbeats 2000000 in
theorem doZero (b : Nat) (o : Op) (r : Res) (hwr : r.code = 1 → Good ⟨r.slot, r.value⟩) (hw0 : ∀ W, Zero W b → Calls Try.prog 19 #[.pointer (some ⟨b, 0, none⟩), .agg #[.int .i64 o.kind, .int .i64 o.slot, .string o.value]] W fun e w' => e = .returned (.agg #[.int .i64 r.code, .int .i64 r.slot, .string r.value]) ∧ Below W.heap.size W w') (w : World) (h : Zero w b) :
    Calls Try.prog 10 #[.pointer (some ⟨b, 0, none⟩), .agg #[.int .i64 o.kind, .int .i64 o.slot, .string o.value]] w fun e w' => (∃ v, e = .returned v) ∧ (Zero w' b ∨ ∃ mb, Ledger w' b mb [⟨r.slot, r.value⟩]) ∧ Kept (fun j => j = b) w w' := by
  have hbl : b < w.heap.size := (Array.getElem?_eq_some_iff.1 h).1
  go_enter Try.func10, Try.ntmps10
  have HW := Lib.hid hwr
  have HW0 := Lib.hid hw0
  clear hwr hw0
  go_wp2_with fail
  have hB : Below w.heap.size w ((w.alloc (.cells #[.int .i64 o.kind, .int .i64 o.slot, .string o.value] 38)).alloc (.cells #[.int .i64 0, .int .i64 0, .string ⟨#[]⟩] 35)) := ((Below.refl _ _).alloc (Nat.le_refl _) _).alloc (by simp) _
  refine (HW0.out _ (Zero.below h hB)).mono ?_
  rintro e w1 ⟨rfl, hb1⟩
  have hs : ((w.alloc (.cells #[.int .i64 o.kind, .int .i64 o.slot, .string o.value] 38)).alloc (.cells #[.int .i64 0, .int .i64 0, .string ⟨#[]⟩] 35)).heap.size = w.heap.size + 2 := by simp
  have h3 : Zero w1 b := (Zero.below h hB).below hb1
  have h2 : w1.heap[w.heap.size + 1]? = some (.cells #[.int .i64 0, .int .i64 0, .string ⟨#[]⟩] 35 (0, 0)) := (hb1.block _ (by omega)).trans (heap_alloc2_new w _ _)
  have hs1 : w.heap.size + 2 ≤ w1.heap.size := by have := hb1.size; omega
  have hB1 : Below w.heap.size w w1 := hB.trans (hb1.mono (by omega))
  obtain ⟨W2, hW2⟩ : ∃ W2, W2 = w1.alloc (.cells #[.int .i64 r.code, .int .i64 r.slot, .string r.value] 35) := ⟨_, rfl⟩
  have hBW : Below w1.heap.size w1 W2 := by rw [hW2]; exact (Below.refl _ _).alloc (Nat.le_refl _) _
  have i2 : W2.heap[w.heap.size + 1]? = some (.cells #[.int .i64 0, .int .i64 0, .string ⟨#[]⟩] 35 (0, 0)) := (hBW.block _ (by omega)).trans h2
  have i5 : W2.heap[w1.heap.size]? = some (.cells #[.int .i64 r.code, .int .i64 r.slot, .string r.value] 35 (0, 0)) := by rw [hW2]; exact heap_alloc_new _ _
  have i3 : Zero W2 b := h3.below hBW
  have hB2 : Below w.heap.size w W2 := hB1.trans (hBW.mono hB1.size)
  have hs2 : w1.heap.size + 1 = W2.heap.size := by rw [hW2]; simp
  have key : ∀ W3 : World, W3.heap[w.heap.size + 1]? = some (.cells #[.int .i64 0, .int .i64 0, .string ⟨#[]⟩] 35 (0, 0)) → W3.heap[w1.heap.size]? = some (.cells #[.int .i64 r.code, .int .i64 r.slot, .string r.value] 35 (0, 0)) →
      (W3.cell? ⟨w1.heap.size, 0, none⟩ = some (.int .i64 r.code) ∧ W3.cell? ⟨w1.heap.size, 1, none⟩ = some (.int .i64 r.slot) ∧ W3.cell? ⟨w1.heap.size, 2, none⟩ = some (.string r.value) ∧
       W3.cell? ⟨w.heap.size + 1, 0, none⟩ = some (.int .i64 0) ∧ W3.cell? ⟨w.heap.size + 1, 1, none⟩ = some (.int .i64 0) ∧ W3.cell? ⟨w.heap.size + 1, 2, none⟩ = some (.string ⟨#[]⟩) ∧
       W3.frozen? ⟨w.heap.size + 1, 0, none⟩ = false ∧ W3.frozen? ⟨w.heap.size + 1, 1, none⟩ = false ∧ W3.frozen? ⟨w.heap.size + 1, 2, none⟩ = false) := fun W3 q2 q5 =>
    ⟨cell_of_row W3 _ 0 _ _ _ q5, cell_of_row W3 _ 1 _ _ _ q5, cell_of_row W3 _ 2 _ _ _ q5, cell_of_row W3 _ 0 _ _ _ q2, cell_of_row W3 _ 1 _ _ _ q2, cell_of_row W3 _ 2 _ _ _ q2, frozen_of_row W3 _ 0 _ _ q2, frozen_of_row W3 _ 1 _ _ q2, frozen_of_row W3 _ 2 _ _ q2⟩
  have KEY := Lib.hid key
  have HB2 := Lib.hid hB2
  have HW2 := Lib.hid hW2
  have I3 := Lib.hid i3
  have I2 := Lib.hid i2
  have I5 := Lib.hid i5
  have HS2 := Lib.hid hs2
  clear hb1 hB hs HW0 key hB2 hW2 i3 i2 i5 hs2 h3 h2 hBW hB1 h
  by_cases hc : r.code = 1
  · have hq : (r.code == 1) = true := by simpa using hc
    have HC := Lib.hid hc
    clear hc
    go_wp2_with fail
    rw [← HW2.out]
    have hgood := HW.out HC.out
    refine (zeroPut b r.slot r.value hgood W2 I3.out).mono ?_
    rintro e w3 ⟨rfl, hl3, hk3⟩
    have hs2 := HS2.out
    have j2 := (hk3.block (w.heap.size + 1) (by omega) (fun e => by have e' : _ = b := e; omega)).trans I2.out
    have j5 := (hk3.block w1.heap.size (by omega) (fun e => by have e' : _ = b := e; omega)).trans I5.out
    obtain ⟨c0, c1, c2, d0, d1, d2, f0, f1, f2⟩ := KEY.out w3 j2 j5
    have HK3 := Lib.hid hk3
    have HL3 := Lib.hid hl3
    have J2 := Lib.hid j2
    clear j2 j5 hk3 hl3 hgood hs2
    go_wp2
    refine res_end (r := r) Try.results10 rfl rfl (row3 (B := w.heap.size + 1) J2.out _ _ _) ⟨⟨_, rfl⟩, .inr ⟨W2.heap.size, ?_⟩, ?_⟩
    · refine HL3.out.same ?_ ?_
      · rw [Below.heap_setCell _ _ _ _ (by simp; omega), Below.heap_setCell _ _ _ _ (by simp; omega), Below.heap_setCell _ _ _ _ (by simp; omega)]
      · have hq2 : W2.heap.size ≠ w.heap.size + 1 := by have := HS2.out; omega
        rw [Below.heap_setCell _ _ _ _ hq2, Below.heap_setCell _ _ _ _ hq2, Below.heap_setCell _ _ _ _ hq2]
    · have hk : Kept (fun j => j = b) w w3 := by
        have h1 := (Kept.of_below HB2.out (fun j => j = b))
        exact h1.trans HK3.out
      exact ((hk.setCell (p := ⟨w.heap.size + 1, 0, none⟩) (fun h => by simp at h; omega) _).setCell (p := ⟨w.heap.size + 1, 1, none⟩) (fun h => by simp at h; omega) _).setCell (p := ⟨w.heap.size + 1, 2, none⟩) (fun h => by simp at h; omega) _
  · have hq : (r.code == 1) = false := by simpa using hc
    have HC := Lib.hid hc
    obtain ⟨c0, c1, c2, d0, d1, d2, f0, f1, f2⟩ := KEY.out W2 I2.out I5.out
    rw [HW2.out] at c0 c1 c2 d0 d1 d2 f0 f1 f2
    clear hc
    go_wp2
    rw [← HW2.out]
    refine res_end (r := r) Try.results10 rfl rfl (row3 (B := w.heap.size + 1) I2.out _ _ _) ⟨⟨_, rfl⟩, .inl (I3.out.same ?_), ?_⟩
    · rw [Below.heap_setCell _ _ _ _ (by simp; omega), Below.heap_setCell _ _ _ _ (by simp; omega), Below.heap_setCell _ _ _ _ (by simp; omega)]
    · have hk := (Kept.of_below HB2.out (fun j => j = b))
      exact ((hk.setCell (p := ⟨w.heap.size + 1, 0, none⟩) (fun h => by simp at h; omega) _).setCell (p := ⟨w.heap.size + 1, 1, none⟩) (fun h => by simp at h; omega) _).setCell (p := ⟨w.heap.size + 1, 2, none⟩) (fun h => by simp at h; omega) _

/-- What an object is behind Do. -/
def StZ (W : World) (b : Nat) : Prop := Zero W b ∨ ∃ mb cs, Ledger W b mb cs
theorem StZ.below {W W' : World} {b : Nat} (h : StZ W b) (hb : Below W.heap.size W W') : StZ W' b := by
  rcases h with h | ⟨mb, cs, h⟩
  · exact .inl (h.below hb)
  · exact .inr ⟨mb, cs, h.below hb⟩
theorem anyGet (b : Nat) (w : World) (h : StZ w b) : Calls Try.prog 17 #[.pointer (some ⟨b, 0, none⟩), .int .i64 3] w fun e w' => (∃ v, e = .returned v) ∧ Below w.heap.size w w' := by
  rcases h with h | ⟨mb, cs, h⟩
  · exact zeroGet b w h
  · exact (getLedger b mb cs 3 w h).mono fun _ _ ⟨he, hb⟩ => ⟨⟨_, he⟩, hb⟩
theorem anyLen (b : Nat) (w : World) (h : StZ w b) : Calls Try.prog 20 #[.pointer (some ⟨b, 0, none⟩)] w fun e w' => (∃ v, e = .returned v) ∧ Below w.heap.size w w' := by
  rcases h with h | ⟨mb, cs, h⟩
  · exact zeroLen b w h
  · exact (lenLedger b mb cs w h).mono fun _ _ ⟨he, hw⟩ => ⟨⟨_, he⟩, by rw [hw]; exact Below.refl _ _⟩
theorem anyCells (b : Nat) (w : World) (h : StZ w b) : Calls Try.prog 11 #[.pointer (some ⟨b, 0, none⟩)] w fun e w' => (∃ v, e = .returned v) ∧ Below w.heap.size w w' := by
  rcases h with h | ⟨mb, cs, h⟩
  · exact (zeroCells b w h).mono fun _ _ ⟨v, he, _, hb⟩ => ⟨⟨v, he⟩, hb⟩
  · exact (cellsLedger b mb cs w h).mono fun _ _ ⟨v, he, _, hb⟩ => ⟨⟨v, he⟩, hb⟩
theorem anyClone (b : Nat) (w : World) (h : StZ w b) : Calls Try.prog 21 #[.pointer (some ⟨b, 0, none⟩)] w fun e w' => ∃ b2 mb2 cs, e = .returned (.pointer (some ⟨b2, 0, none⟩)) ∧ Ledger w' b2 mb2 cs ∧ w.heap.size ≤ b2 ∧ w.heap.size ≤ mb2 ∧ Below w.heap.size w w' := by
  rcases h with h | ⟨mb, cs, h⟩
  · exact (cloneFrom b [] w Rising.nil (fun W hb => zeroCells b W (h.below hb))).mono fun _ _ ⟨b2, mb2, h⟩ => ⟨b2, mb2, [], h⟩
  · exact (cloneLedger b mb cs w h).mono fun _ _ ⟨b2, mb2, h⟩ => ⟨b2, mb2, cs, h⟩

set_option maxRecDepth 100000 in
set_option maxHeartbeats 8000000 in
theorem zeroes04 (w : World) : Calls Try.prog 18 #[] w fun e w' => e = .returned (.tuple #[]) ∧ Below w.heap.size w w' := by
  go_enter Try.func18, Try.ntmps18
  obtain ⟨W1, hW1⟩ : ∃ W1, W1 = w.alloc (.cells #[.int .i64 3, .int .i64 0, .string ⟨#[]⟩, .int .i64 1, .int .i64 3, .string ⟨#[97]⟩, .int .i64 2, .int .i64 0, .string ⟨#[]⟩, .int .i64 4, .int .i64 0, .string ⟨#[]⟩] 38) := ⟨_, rfl⟩
  have hbw : Below w.heap.size w W1 := by rw [hW1]; exact (Below.refl _ _).alloc (Nat.le_refl _) _
  have hk1 : W1.heap[w.heap.size]? = some (.cells #[.int .i64 3, .int .i64 0, .string ⟨#[]⟩, .int .i64 1, .int .i64 3, .string ⟨#[97]⟩, .int .i64 2, .int .i64 0, .string ⟨#[]⟩, .int .i64 4, .int .i64 0, .string ⟨#[]⟩] 38 (0, 0)) := by rw [hW1]; exact heap_alloc_new _ _
  have KEY : Hid (∀ W, Below W1.heap.size W1 W → W.heap[w.heap.size]? = some (.cells #[.int .i64 3, .int .i64 0, .string ⟨#[]⟩, .int .i64 1, .int .i64 3, .string ⟨#[97]⟩, .int .i64 2, .int .i64 0, .string ⟨#[]⟩, .int .i64 4, .int .i64 0, .string ⟨#[]⟩] 38 (0, 0))) := fun W hb => (hb.block _ (Array.getElem?_eq_some_iff.1 hk1).1).trans hk1
  have HBW := Lib.hid hbw
  have HBs : Hid (w.heap.size ≤ W1.heap.size) := hbw.size
  have HW1 := Lib.hid hW1
  clear hbw hk1 hW1
  go_wp2_with fail
  rw [← HW1.out]
  clear HW1
  generalize hB : w.heap.size = B at *
  have HBE := Lib.hid hB
  clear hB
  go_loopw [1, 2, 3] (fun i _ _ wr => ∃ k : Nat, k ≤ 4 ∧ i = .int .i64 k ∧ Hid (Below W1.heap.size W1 wr)) (fun i _ _ _ => 4 - (intOf i).toNat)
  case atStart => exact ⟨0, by omega, rfl, Below.refl _ _⟩
  case round =>
    obtain ⟨k, hk, rfl, hbr⟩ := hrel
    obtain ⟨V1, hV1⟩ : ∃ V1, V1 = wr.alloc (.cells #[.map none, .int .i64 0] 67) := ⟨_, rfl⟩
    have hbv : Below wr.heap.size wr V1 := by rw [hV1]; exact (Below.refl _ _).alloc (Nat.le_refl _) _
    have HZ1 : Hid (Zero V1 wr.heap.size) := by show Zero _ _; rw [hV1]; exact heap_alloc_new _ _
    have HB1 := Lib.hid (hbr.out.trans (hbv.mono hbr.out.size))
    have HSZ : Hid (W1.heap.size ≤ wr.heap.size) := hbr.out.size
    have HV1 := Lib.hid hV1
    clear hbv hV1
    have hcase : k = 0 ∨ k = 1 ∨ k = 2 ∨ k = 3 ∨ k = 4 := by omega
    clear hk
    rcases hcase with rfl | rfl | rfl | rfl | rfl
    · have c0 := cell_of_row V1 B 0 _ _ _ (KEY.out V1 HB1.out)
      have c1 := cell_of_row V1 B 1 _ _ _ (KEY.out V1 HB1.out)
      have c2 := cell_of_row V1 B 2 _ _ _ (KEY.out V1 HB1.out)
      rw [HV1.out] at c0 c1 c2
      go_wp2_with fail
      rw [← HV1.out]
      clear c0 c1 c2 HV1
      generalize wr.heap.size = b at *
      refine (wouldZeroR b V1 HZ1.out).mono ?_
      rintro e w2 ⟨rfl, hb2⟩
      have HZ2 := Lib.hid (HZ1.out.below hb2)
      have HB2 := Lib.hid (HB1.out.trans (hb2.mono HB1.out.size))
      clear hb2
      have c0 := cell_of_row w2 B 0 _ _ _ (KEY.out w2 HB2.out)
      have c1 := cell_of_row w2 B 1 _ _ _ (KEY.out w2 HB2.out)
      have c2 := cell_of_row w2 B 2 _ _ _ (KEY.out w2 HB2.out)
      dsimp only
      go_wp2_with fail
      clear c0 c1 c2
      refine (doZero b ⟨3, 0, ⟨#[]⟩⟩ ⟨5, 0, ⟨#[]⟩⟩ (fun e => by exact absurd e (by decide)) (fun W h => wouldZeroR b W h) w2 HZ2.out).mono ?_
      rintro e w3 ⟨⟨v3, rfl⟩, hst, hk3⟩
      have HS3 : Hid (StZ w3 b) := by
        rcases hst with h | ⟨mb, h⟩
        · exact .inl h
        · exact .inr ⟨mb, _, h⟩
      have HB3 := Lib.hid (Kept.below_n HB2.out (Nat.le_refl _) hk3 (fun j e => by rw [e]; exact HSZ.out)) 
      clear hst hk3
      dsimp only
      go_wp2_with fail
      refine (anyGet b w3 HS3.out).mono ?_
      rintro e w4 ⟨⟨v4, rfl⟩, hb4⟩
      have HS4 := Lib.hid (HS3.out.below hb4)
      have HB4 := Lib.hid (HB3.out.trans (hb4.mono HB3.out.size))
      clear hb4
      dsimp only
      go_wp2_with fail
      refine (anyLen b w4 HS4.out).mono ?_
      rintro e w5 ⟨⟨v5, rfl⟩, hb5⟩
      have HS5 := Lib.hid (HS4.out.below hb5)
      have HB5 := Lib.hid (HB4.out.trans (hb5.mono HB4.out.size))
      clear hb5
      dsimp only
      go_wp2_with fail
      refine (anyCells b w5 HS5.out).mono ?_
      rintro e w6 ⟨⟨v6, rfl⟩, hb6⟩
      have HS6 := Lib.hid (HS5.out.below hb6)
      have HB6 := Lib.hid (HB5.out.trans (hb6.mono HB5.out.size))
      clear hb6
      dsimp only
      go_wp2_with fail
      refine (anyClone b w6 HS6.out).mono ?_
      rintro e w7 ⟨b2, mb2, cs, rfl, hl7, hq1, hq2, hb7⟩
      have HL7 := Lib.hid hl7
      have HQ7 := Lib.hid (And.intro hq1 hq2)
      have HB7 := Lib.hid (HB6.out.trans (hb7.mono HB6.out.size))
      have HB6s : Hid (W1.heap.size ≤ w6.heap.size) := HB6.out.size
      clear hl7 hq1 hq2 hb7
      have c0 := cell_of_row w7 B 3 _ _ _ (KEY.out w7 HB7.out)
      have c1 := cell_of_row w7 B 4 _ _ _ (KEY.out w7 HB7.out)
      have c2 := cell_of_row w7 B 5 _ _ _ (KEY.out w7 HB7.out)
      dsimp only
      go_wp2_with fail
      refine (doLedger b2 mb2 cs ⟨1, 3, ⟨#[97]⟩⟩ (by simp [ByteArray.size]) w7 HL7.out).mono ?_
      rintro e w8 ⟨rfl, hl8, hk8⟩
      have HB8 := Lib.hid (Kept.below_n HB7.out (Nat.le_refl _) hk8 (fun j q => by have := HQ7.out; have := HB6s.out; rcases q with q | q <;> omega))
      clear hl8 hk8
      dsimp only
      go_wp2_with fail
      go_roundw
      case rel => exact ⟨1, by omega, by go_num, HB8.out⟩
      case measure => simp [intOf]
    · have c0 := cell_of_row V1 B 3 _ _ _ (KEY.out V1 HB1.out)
      have c1 := cell_of_row V1 B 4 _ _ _ (KEY.out V1 HB1.out)
      have c2 := cell_of_row V1 B 5 _ _ _ (KEY.out V1 HB1.out)
      rw [HV1.out] at c0 c1 c2
      go_wp2_with fail
      rw [← HV1.out]
      clear c0 c1 c2 HV1
      generalize wr.heap.size = b at *
      refine (wouldZeroW b V1 HZ1.out).mono ?_
      rintro e w2 ⟨rfl, hb2⟩
      have HZ2 := Lib.hid (HZ1.out.below hb2)
      have HB2 := Lib.hid (HB1.out.trans (hb2.mono HB1.out.size))
      clear hb2
      have c0 := cell_of_row w2 B 3 _ _ _ (KEY.out w2 HB2.out)
      have c1 := cell_of_row w2 B 4 _ _ _ (KEY.out w2 HB2.out)
      have c2 := cell_of_row w2 B 5 _ _ _ (KEY.out w2 HB2.out)
      dsimp only
      go_wp2_with fail
      clear c0 c1 c2
      refine (doZero b ⟨1, 3, ⟨#[97]⟩⟩ ⟨1, 3, ⟨#[97]⟩⟩ (fun _ => ⟨by decide, by decide, by decide⟩) (fun W h => wouldZeroW b W h) w2 HZ2.out).mono ?_
      rintro e w3 ⟨⟨v3, rfl⟩, hst, hk3⟩
      have HS3 : Hid (StZ w3 b) := by
        rcases hst with h | ⟨mb, h⟩
        · exact .inl h
        · exact .inr ⟨mb, _, h⟩
      have HB3 := Lib.hid (Kept.below_n HB2.out (Nat.le_refl _) hk3 (fun j e => by rw [e]; exact HSZ.out)) 
      clear hst hk3
      dsimp only
      go_wp2_with fail
      refine (anyGet b w3 HS3.out).mono ?_
      rintro e w4 ⟨⟨v4, rfl⟩, hb4⟩
      have HS4 := Lib.hid (HS3.out.below hb4)
      have HB4 := Lib.hid (HB3.out.trans (hb4.mono HB3.out.size))
      clear hb4
      dsimp only
      go_wp2_with fail
      refine (anyLen b w4 HS4.out).mono ?_
      rintro e w5 ⟨⟨v5, rfl⟩, hb5⟩
      have HS5 := Lib.hid (HS4.out.below hb5)
      have HB5 := Lib.hid (HB4.out.trans (hb5.mono HB4.out.size))
      clear hb5
      dsimp only
      go_wp2_with fail
      refine (anyCells b w5 HS5.out).mono ?_
      rintro e w6 ⟨⟨v6, rfl⟩, hb6⟩
      have HS6 := Lib.hid (HS5.out.below hb6)
      have HB6 := Lib.hid (HB5.out.trans (hb6.mono HB5.out.size))
      clear hb6
      dsimp only
      go_wp2_with fail
      refine (anyClone b w6 HS6.out).mono ?_
      rintro e w7 ⟨b2, mb2, cs, rfl, hl7, hq1, hq2, hb7⟩
      have HL7 := Lib.hid hl7
      have HQ7 := Lib.hid (And.intro hq1 hq2)
      have HB7 := Lib.hid (HB6.out.trans (hb7.mono HB6.out.size))
      have HB6s : Hid (W1.heap.size ≤ w6.heap.size) := HB6.out.size
      clear hl7 hq1 hq2 hb7
      have c0 := cell_of_row w7 B 3 _ _ _ (KEY.out w7 HB7.out)
      have c1 := cell_of_row w7 B 4 _ _ _ (KEY.out w7 HB7.out)
      have c2 := cell_of_row w7 B 5 _ _ _ (KEY.out w7 HB7.out)
      dsimp only
      go_wp2_with fail
      refine (doLedger b2 mb2 cs ⟨1, 3, ⟨#[97]⟩⟩ (by simp [ByteArray.size]) w7 HL7.out).mono ?_
      rintro e w8 ⟨rfl, hl8, hk8⟩
      have HB8 := Lib.hid (Kept.below_n HB7.out (Nat.le_refl _) hk8 (fun j q => by have := HQ7.out; have := HB6s.out; rcases q with q | q <;> omega))
      clear hl8 hk8
      dsimp only
      go_wp2_with fail
      go_roundw
      case rel => exact ⟨2, by omega, by go_num, HB8.out⟩
      case measure => simp [intOf]
    · have c0 := cell_of_row V1 B 6 _ _ _ (KEY.out V1 HB1.out)
      have c1 := cell_of_row V1 B 7 _ _ _ (KEY.out V1 HB1.out)
      have c2 := cell_of_row V1 B 8 _ _ _ (KEY.out V1 HB1.out)
      rw [HV1.out] at c0 c1 c2
      go_wp2_with fail
      rw [← HV1.out]
      clear c0 c1 c2 HV1
      generalize wr.heap.size = b at *
      refine (wouldZeroA b V1 HZ1.out).mono ?_
      rintro e w2 ⟨rfl, hb2⟩
      have HZ2 := Lib.hid (HZ1.out.below hb2)
      have HB2 := Lib.hid (HB1.out.trans (hb2.mono HB1.out.size))
      clear hb2
      have c0 := cell_of_row w2 B 6 _ _ _ (KEY.out w2 HB2.out)
      have c1 := cell_of_row w2 B 7 _ _ _ (KEY.out w2 HB2.out)
      have c2 := cell_of_row w2 B 8 _ _ _ (KEY.out w2 HB2.out)
      dsimp only
      go_wp2_with fail
      clear c0 c1 c2
      refine (doZero b ⟨2, 0, ⟨#[]⟩⟩ ⟨1, 0, ⟨#[]⟩⟩ (fun _ => ⟨by decide, by decide, by decide⟩) (fun W h => wouldZeroA b W h) w2 HZ2.out).mono ?_
      rintro e w3 ⟨⟨v3, rfl⟩, hst, hk3⟩
      have HS3 : Hid (StZ w3 b) := by
        rcases hst with h | ⟨mb, h⟩
        · exact .inl h
        · exact .inr ⟨mb, _, h⟩
      have HB3 := Lib.hid (Kept.below_n HB2.out (Nat.le_refl _) hk3 (fun j e => by rw [e]; exact HSZ.out)) 
      clear hst hk3
      dsimp only
      go_wp2_with fail
      refine (anyGet b w3 HS3.out).mono ?_
      rintro e w4 ⟨⟨v4, rfl⟩, hb4⟩
      have HS4 := Lib.hid (HS3.out.below hb4)
      have HB4 := Lib.hid (HB3.out.trans (hb4.mono HB3.out.size))
      clear hb4
      dsimp only
      go_wp2_with fail
      refine (anyLen b w4 HS4.out).mono ?_
      rintro e w5 ⟨⟨v5, rfl⟩, hb5⟩
      have HS5 := Lib.hid (HS4.out.below hb5)
      have HB5 := Lib.hid (HB4.out.trans (hb5.mono HB4.out.size))
      clear hb5
      dsimp only
      go_wp2_with fail
      refine (anyCells b w5 HS5.out).mono ?_
      rintro e w6 ⟨⟨v6, rfl⟩, hb6⟩
      have HS6 := Lib.hid (HS5.out.below hb6)
      have HB6 := Lib.hid (HB5.out.trans (hb6.mono HB5.out.size))
      clear hb6
      dsimp only
      go_wp2_with fail
      refine (anyClone b w6 HS6.out).mono ?_
      rintro e w7 ⟨b2, mb2, cs, rfl, hl7, hq1, hq2, hb7⟩
      have HL7 := Lib.hid hl7
      have HQ7 := Lib.hid (And.intro hq1 hq2)
      have HB7 := Lib.hid (HB6.out.trans (hb7.mono HB6.out.size))
      have HB6s : Hid (W1.heap.size ≤ w6.heap.size) := HB6.out.size
      clear hl7 hq1 hq2 hb7
      have c0 := cell_of_row w7 B 3 _ _ _ (KEY.out w7 HB7.out)
      have c1 := cell_of_row w7 B 4 _ _ _ (KEY.out w7 HB7.out)
      have c2 := cell_of_row w7 B 5 _ _ _ (KEY.out w7 HB7.out)
      dsimp only
      go_wp2_with fail
      refine (doLedger b2 mb2 cs ⟨1, 3, ⟨#[97]⟩⟩ (by simp [ByteArray.size]) w7 HL7.out).mono ?_
      rintro e w8 ⟨rfl, hl8, hk8⟩
      have HB8 := Lib.hid (Kept.below_n HB7.out (Nat.le_refl _) hk8 (fun j q => by have := HQ7.out; have := HB6s.out; rcases q with q | q <;> omega))
      clear hl8 hk8
      dsimp only
      go_wp2_with fail
      go_roundw
      case rel => exact ⟨3, by omega, by go_num, HB8.out⟩
      case measure => simp [intOf]
    · have c0 := cell_of_row V1 B 9 _ _ _ (KEY.out V1 HB1.out)
      have c1 := cell_of_row V1 B 10 _ _ _ (KEY.out V1 HB1.out)
      have c2 := cell_of_row V1 B 11 _ _ _ (KEY.out V1 HB1.out)
      rw [HV1.out] at c0 c1 c2
      go_wp2_with fail
      rw [← HV1.out]
      clear c0 c1 c2 HV1
      generalize wr.heap.size = b at *
      refine (wouldZeroN b V1 HZ1.out).mono ?_
      rintro e w2 ⟨rfl, hb2⟩
      have HZ2 := Lib.hid (HZ1.out.below hb2)
      have HB2 := Lib.hid (HB1.out.trans (hb2.mono HB1.out.size))
      clear hb2
      have c0 := cell_of_row w2 B 9 _ _ _ (KEY.out w2 HB2.out)
      have c1 := cell_of_row w2 B 10 _ _ _ (KEY.out w2 HB2.out)
      have c2 := cell_of_row w2 B 11 _ _ _ (KEY.out w2 HB2.out)
      dsimp only
      go_wp2_with fail
      clear c0 c1 c2
      refine (doZero b ⟨4, 0, ⟨#[]⟩⟩ ⟨6, 0, ⟨#[]⟩⟩ (fun e => by exact absurd e (by decide)) (fun W h => wouldZeroN b W h) w2 HZ2.out).mono ?_
      rintro e w3 ⟨⟨v3, rfl⟩, hst, hk3⟩
      have HS3 : Hid (StZ w3 b) := by
        rcases hst with h | ⟨mb, h⟩
        · exact .inl h
        · exact .inr ⟨mb, _, h⟩
      have HB3 := Lib.hid (Kept.below_n HB2.out (Nat.le_refl _) hk3 (fun j e => by rw [e]; exact HSZ.out)) 
      clear hst hk3
      dsimp only
      go_wp2_with fail
      refine (anyGet b w3 HS3.out).mono ?_
      rintro e w4 ⟨⟨v4, rfl⟩, hb4⟩
      have HS4 := Lib.hid (HS3.out.below hb4)
      have HB4 := Lib.hid (HB3.out.trans (hb4.mono HB3.out.size))
      clear hb4
      dsimp only
      go_wp2_with fail
      refine (anyLen b w4 HS4.out).mono ?_
      rintro e w5 ⟨⟨v5, rfl⟩, hb5⟩
      have HS5 := Lib.hid (HS4.out.below hb5)
      have HB5 := Lib.hid (HB4.out.trans (hb5.mono HB4.out.size))
      clear hb5
      dsimp only
      go_wp2_with fail
      refine (anyCells b w5 HS5.out).mono ?_
      rintro e w6 ⟨⟨v6, rfl⟩, hb6⟩
      have HS6 := Lib.hid (HS5.out.below hb6)
      have HB6 := Lib.hid (HB5.out.trans (hb6.mono HB5.out.size))
      clear hb6
      dsimp only
      go_wp2_with fail
      refine (anyClone b w6 HS6.out).mono ?_
      rintro e w7 ⟨b2, mb2, cs, rfl, hl7, hq1, hq2, hb7⟩
      have HL7 := Lib.hid hl7
      have HQ7 := Lib.hid (And.intro hq1 hq2)
      have HB7 := Lib.hid (HB6.out.trans (hb7.mono HB6.out.size))
      have HB6s : Hid (W1.heap.size ≤ w6.heap.size) := HB6.out.size
      clear hl7 hq1 hq2 hb7
      have c0 := cell_of_row w7 B 3 _ _ _ (KEY.out w7 HB7.out)
      have c1 := cell_of_row w7 B 4 _ _ _ (KEY.out w7 HB7.out)
      have c2 := cell_of_row w7 B 5 _ _ _ (KEY.out w7 HB7.out)
      dsimp only
      go_wp2_with fail
      refine (doLedger b2 mb2 cs ⟨1, 3, ⟨#[97]⟩⟩ (by simp [ByteArray.size]) w7 HL7.out).mono ?_
      rintro e w8 ⟨rfl, hl8, hk8⟩
      have HB8 := Lib.hid (Kept.below_n HB7.out (Nat.le_refl _) hk8 (fun j q => by have := HQ7.out; have := HB6s.out; rcases q with q | q <;> omega))
      clear hl8 hk8
      dsimp only
      go_wp2_with fail
      go_roundw
      case rel => exact ⟨4, by omega, by go_num, HB8.out⟩
      case measure => simp [intOf]
    · go_wp2_with fail
      go_end0
      have h := HBW.out.trans (hbr.out.mono HBs.out)
      rw [← HBE.out] at h
      exact ⟨rfl, h⟩

theorem nil_eq (W : World) : (binOp .eql 32 (.pointer none) (.pointer none)).run Try.prog W = .ok (.bool true) W := by kernel_rfl
set_option maxRecDepth 100000 in
theorem nilClone (w : World) : Calls Try.prog 21 #[.pointer none] w fun e w' => e = .returned (.pointer none) ∧ Below w.heap.size w w' := by
  have hne := nil_eq
  refine (callsIn_wide (n := 3)).1 ?_
  refine callsIn_of_wp_marks Try.func21 rfl trivial ?_ rfl
  simp only [Try.ntmps21, List.size_toArray, List.length_cons, List.length_nil, Nat.reduceAdd, Nat.reduceSub, Array.replicate_succ, Array.replicate_zero, List.push_toArray, List.append_toArray, List.nil_append, List.cons_append]
  gi_wp2_with fail
  exact ⟨_, results_tmp rfl _ _ _, rfl, Below.refl _ _⟩
set_option maxRecDepth 100000 in
set_option maxHeartbeats 2000000 in
theorem nilDo (w : World) : Calls Try.prog 10 #[.pointer none, .agg #[.int .i64 4, .int .i64 0, .string ⟨#[]⟩]] w fun e w' => e = .returned (.agg #[.int .i64 0, .int .i64 0, .string ⟨#[]⟩]) ∧ Below w.heap.size w w' := by
  have HB : Hid (Below w.heap.size w ((w.alloc (.cells #[.int .i64 4, .int .i64 0, .string ⟨#[]⟩] 38)).alloc (.cells #[.int .i64 0, .int .i64 0, .string ⟨#[]⟩] 35))) := ((Below.refl _ _).alloc (Nat.le_refl _) _).alloc (by simp) _
  go_enter Try.func10, Try.ntmps10
  go_wp2_with fail
  refine (nilWould _).mono ?_
  rintro e w1 ⟨rfl, hb1⟩
  have hs : ((w.alloc (.cells #[.int .i64 4, .int .i64 0, .string ⟨#[]⟩] 38)).alloc (.cells #[.int .i64 0, .int .i64 0, .string ⟨#[]⟩] 35)).heap.size = w.heap.size + 2 := by simp
  have h2 := (hb1.block (w.heap.size + 1) (by rw [hs]; omega)).trans (heap_alloc2_new w _ _)
  have HB1 := Lib.hid (HB.out.trans (hb1.mono (by rw [hs]; omega)))
  have hs1 : w.heap.size + 2 ≤ w1.heap.size := by have := hb1.size; omega
  have hs1b : w.heap.size + 1 < w1.heap.size := by omega
  have f0 : w1.frozen? ⟨w.heap.size + 1, 0, none⟩ = false := frozen_of_row w1 _ 0 _ _ h2
  have f1 : w1.frozen? ⟨w.heap.size + 1, 1, none⟩ = false := frozen_of_row w1 _ 1 _ _ h2
  have f2 : w1.frozen? ⟨w.heap.size + 1, 2, none⟩ = false := frozen_of_row w1 _ 2 _ _ h2
  have c0 : w1.cell? ⟨w.heap.size + 1, 0, none⟩ = some (.int .i64 0) := cell_of_row w1 _ 0 _ _ _ h2
  have c1 : w1.cell? ⟨w.heap.size + 1, 1, none⟩ = some (.int .i64 0) := cell_of_row w1 _ 1 _ _ _ h2
  have c2 : w1.cell? ⟨w.heap.size + 1, 2, none⟩ = some (.string ⟨#[]⟩) := cell_of_row w1 _ 2 _ _ _ h2
  have H2 := Lib.hid h2
  clear hs hb1 h2 HB
  dsimp only
  go_wp2_with fail
  have h3 := below3 (B := w.heap.size + 1) HB1.out (by omega) (.int .i64 0) (.int .i64 0) (.string ⟨#[]⟩)
  exact res_end (r := ⟨0, 0, ⟨#[]⟩⟩) Try.results10 rfl rfl ((heap_alloc_old _ _ (by simp [World.setCell]; omega)).trans (row3 (B := w.heap.size + 1) H2.out _ _ _)) ⟨rfl, h3.alloc h3.size _⟩
set_option maxRecDepth 100000 in
set_option maxHeartbeats 2000000 in
theorem nil04_law (w : World) : Calls Try.prog 5 #[] w fun e w' => e = .returned (.bool true) ∧ Below w.heap.size w w' := by
  have hgr := guard_res
  have geq := fun W => eqR_ ⟨0, 0, ⟨#[]⟩⟩ W
  have hne := nil_eq
  go_enter Try.func5, Try.ntmps5
  go_wp2_with fail
  refine (nilGet w).mono ?_
  rintro e w1 ⟨rfl, hb1⟩
  have HB1 := Lib.hid hb1
  clear hb1
  dsimp only
  obtain ⟨W2, hW2⟩ : ∃ W2, W2 = w1.alloc (.cells #[.int .i64 4, .int .i64 0, .string ⟨#[]⟩] 38) := ⟨_, rfl⟩
  have hb2 : Below w1.heap.size w1 W2 := by rw [hW2]; exact (Below.refl _ _).alloc (Nat.le_refl _) _
  have hk2 : W2.heap[w1.heap.size]? = some (.cells #[.int .i64 4, .int .i64 0, .string ⟨#[]⟩] 38 (0, 0)) := by rw [hW2]; exact heap_alloc_new _ _
  have KEY : Hid (∀ W, Below W2.heap.size W2 W → W.heap[w1.heap.size]? = some (.cells #[.int .i64 4, .int .i64 0, .string ⟨#[]⟩] 38 (0, 0))) := fun W hb => (hb.block _ (Array.getElem?_eq_some_iff.1 hk2).1).trans hk2
  have HBW := Lib.hid (HB1.out.trans (hb2.mono HB1.out.size))
  have HW2 := Lib.hid hW2
  clear hW2 hb2 hk2
  go_wp2_with fail
  rw [← HW2.out]
  refine (zeroes04 W2).mono ?_
  rintro e w3 ⟨rfl, hb3⟩
  have HB3 := Lib.hid hb3
  clear hb3 HW2
  generalize w1.heap.size = B at *
  dsimp only
  go_wp2_with fail
  refine (works04 w3).mono ?_
  rintro e w4 ⟨rfl, hb4⟩
  have HB4 := Lib.hid (HB3.out.trans (hb4.mono HB3.out.size))
  clear hb4
  have c0 := cell_of_row w4 B 0 _ _ _ (KEY.out w4 HB4.out)
  have c1 := cell_of_row w4 B 1 _ _ _ (KEY.out w4 HB4.out)
  have c2 := cell_of_row w4 B 2 _ _ _ (KEY.out w4 HB4.out)
  dsimp only
  go_wp2_with fail
  clear c0 c1 c2
  refine (nilDo w4).mono ?_
  rintro e w5 ⟨rfl, hb5⟩
  have HB5 := Lib.hid (HB4.out.trans (hb5.mono HB4.out.size))
  clear hb5
  have c0 := cell_of_row w5 B 0 _ _ _ (KEY.out w5 HB5.out)
  have c1 := cell_of_row w5 B 1 _ _ _ (KEY.out w5 HB5.out)
  have c2 := cell_of_row w5 B 2 _ _ _ (KEY.out w5 HB5.out)
  dsimp only
  go_wp2_with fail
  clear c0 c1 c2
  refine (nilWould w5).mono ?_
  rintro e w6 ⟨rfl, hb6⟩
  have HB6 := Lib.hid (HB5.out.trans (hb6.mono HB5.out.size))
  clear hb6
  dsimp only
  go_wp2_with fail
  refine (nilLen w6).mono ?_
  rintro e w7 ⟨rfl, hb7⟩
  have HB7 := Lib.hid (HB6.out.trans (hb7.mono HB6.out.size))
  clear hb7
  dsimp only
  go_wp2_with fail
  refine (nilCells w7).mono ?_
  rintro e w8 ⟨rfl, hb8⟩
  have HB8 := Lib.hid (HB7.out.trans (hb8.mono HB7.out.size))
  clear hb8
  dsimp only
  go_wp2_with fail
  refine (nilClone w8).mono ?_
  rintro e w9 ⟨rfl, hb9⟩
  have HB9 := Lib.hid (HB8.out.trans (hb9.mono HB8.out.size))
  clear hb9
  dsimp only
  go_wp2_with fail
  go_ret
  exact ⟨rfl, HBW.out.trans (HB9.out.mono HBW.out.size)⟩
end Go.Proofs.Ytdkdddkhfonjmaa
