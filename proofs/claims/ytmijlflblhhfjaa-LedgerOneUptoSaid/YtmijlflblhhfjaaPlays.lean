/- amnesialaw04.plays: a script at a ledger and at its cells: they go alike, and the cells behind it. Conditions: the cells and the script lie outside the ledger's own blocks. -/
import Derived.Test.YtmijlflblhhfjaaAsks
import Derived.Deep.LoopGhost
namespace Go.Proofs.Ytmijlflblhhfjaa
open Go.RowKit
set_option linter.unusedVariables false
set_option linter.unusedSimpArgs false

/-- Apart from the ledger's blocks. -/
def Apart2 (b mb B : Nat) (A : Option Addr) : Prop := ∀ ad, A = some ad → ad.block < B ∧ ad.block ≠ b ∧ ad.block ≠ mb
theorem Apart2.of {b mb B : Nat} {A : Option Addr} (h : Apart2 b mb B A) {ad : Addr} (e : A = some ad) : ¬ LedS b mb ad.block := fun q => by
  have h1 := h ad e
  rcases q with q | q
  · exact h1.2.1 q
  · exact h1.2.2 q
theorem Apart2.more {b mb B B' : Nat} {A : Option Addr} (h : Apart2 b mb B A) (hB : B ≤ B') : Apart2 b mb B' A := fun ad e => by have := h ad e; omega
theorem Apart2.new {b mb B b' mb' : Nat} {A : Option Addr} (h : Apart2 b mb B A) (h1 : B ≤ b') (h2 : B ≤ mb') : Apart2 b' mb' B A := fun ad e => by have := h ad e; omega
theorem Rd.kept {α : Type} {enc : α → List Value} {k : Nat} {S : Nat → Prop} {w w' : World} {A : Option Addr} {xs : List α} (h : Rd enc k w w.heap.size A xs) (hk : Kept S w w') (hA : ∀ ad, A = some ad → ¬ S ad.block) : Rd enc k w' w'.heap.size A xs :=
  h.keepAt hk.size fun ad e hb => hk.block _ hb (hA ad e)
/-- Likewise, where there is an element at all. -/
def ApartL {α : Type} (b mb : Nat) (A : Option Addr) (xs : List α) : Prop := ∀ ad, A = some ad → xs ≠ [] → ad.block ≠ b ∧ ad.block ≠ mb
theorem ApartL.of {α : Type} {b mb : Nat} {A : Option Addr} {xs : List α} (h : ApartL b mb A xs) {ad : Addr} (e : A = some ad) (hx : xs ≠ []) : ¬ LedS b mb ad.block := fun q => by
  have h1 := h ad e hx
  rcases q with q | q
  · exact h1.1 q
  · exact h1.2 q
theorem Rd.keptL {α : Type} {enc : α → List Value} {k : Nat} {S : Nat → Prop} {w w' : World} {A : Option Addr} {xs : List α} (h : Rd enc k w w.heap.size A xs) (hk : Kept S w w') (hA : ∀ ad, A = some ad → xs ≠ [] → ¬ S ad.block) : Rd enc k w' w'.heap.size A xs := by
  by_cases hx : xs = []
  · subst hx; exact Rd.nil
  · exact h.kept hk fun ad e => hA ad e hx
theorem ApartL.of_rd {α : Type} {enc : α → List Value} {k : Nat} {w : World} {B b mb : Nat} {A : Option Addr} {xs : List α} (h : Rd enc k w B A xs) (h1 : B ≤ b) (h2 : B ≤ mb) : ApartL b mb A xs := fun ad e hx => by
  obtain ⟨x, l, rfl⟩ := List.exists_cons_of_ne_nil hx
  obtain ⟨ad', e', hb, _⟩ := h 0 x rfl
  rw [e] at e'; cases e'
  omega
def PlaysPost (b mb : Nat) (w : World) (cs : List Cell) (e : Ending) (w' : World) : Prop :=
  ∃ A' c', e = .returned (.tuple #[.slice A' cs.length c', .bool true]) ∧ Ledger w' b mb cs ∧ Rd Cell.cells 2 w' w'.heap.size A' cs ∧ Apart2 b mb w'.heap.size A' ∧ Kept (LedS b mb) w w'
theorem neqR (r : Res) (w : World) : (binOp .neq 37 (.agg #[.int .i64 r.code, .int .i64 r.slot, .string r.value]) (.agg #[.int .i64 r.code, .int .i64 r.slot, .string r.value])).run Try.prog w = .ok (.bool false) w := by
  have := neq_res r r w
  simpa using this

set_option maxRecDepth 100000 in
set_option maxHeartbeats 4000000 in
theorem plays_true (b mb : Nat) (A A2 : Option Addr) (c n c2 m : Nat) (cs : List Cell) (os : List Op) (k : Int) (hn : n = cs.length) (hm : m = os.length) (w : World) (h : Ledger w b mb cs) (ha : Rd Cell.cells 2 w w.heap.size A cs) (hA : Apart2 b mb w.heap.size A)
    (ho : Rd Op.cells 3 w w.heap.size A2 os) (hO : ApartL b mb A2 os) (hv : ∀ o ∈ os, o.value.size ≤ 9223372036854775807) (hl : os.length ≤ 9223372036854775806) :
    Calls Try.prog 31 #[.pointer (some ⟨b, 0, none⟩), .slice A n c, .slice A2 m c2, .int .i64 k] w (PlaysPost b mb w (playC cs os)) := by
  subst hn; subst hm
  have HV := Lib.hid hv
  have HO := Lib.hid ho
  have HO2 := Lib.hid hO
  have HA := Lib.hid ha
  have HA2 := Lib.hid hA
  have HL := Lib.hid h
  clear hv ho hO ha hA h
  have hg := guard_res
  go_enter Try.func31, Try.ntmps31
  go_wp2_with fail
  go_loopg [1, 10, 11, 12] os.length (fun g cl i x y wr => ∃ (k : Nat) (A1 : Option Addr) (c1 n1 : Nat), g + k = os.length ∧ i = .int .i64 k ∧ cl = .slice A1 n1 c1 ∧ Hid (n1 = (playC cs (os.take k)).length) ∧ Hid (Rd Cell.cells 2 wr wr.heap.size A1 (playC cs (os.take k))) ∧ Hid (Apart2 b mb wr.heap.size A1) ∧ Hid (Ledger wr b mb (playC cs (os.take k))) ∧ Hid (Kept (LedS b mb) w wr))
  case atStart => exact ⟨0, A, c, cs.length, by omega, rfl, rfl, (by show _ = _; simp [playC]), (by show Rd _ _ _ _ _ _; simpa [playC] using HA.out), HA2.out, (by show Ledger _ _ _ _; simpa [playC] using HL.out), Kept.refl _ _⟩
  case round =>
    obtain ⟨j, A1, c1, n1, hgk, rfl, rfl, hn1, hrd, hap, hlr, hkr⟩ := hrel
    by_cases h1 : j < os.length
    · have hor := HO.out.keptL hkr.out (fun ad e => HO2.out.of e)
      obtain ⟨ad, hAd, had, hca⟩ := hor.at_ h1
      have hadS : ¬ LedS b mb ad.block := HO2.out.of hAd (by rintro rfl; simp at h1)
      subst hAd
      have g1 : (j:Int) < (os.length : Int) := by omega
      obtain ⟨o0, o1, o2⟩ := hca.three
      have hvj := HV.out os[j] (by simp)
      have hst := Lib.hid (playC_take_succ cs os j h1)
      have HCA := Lib.hid hca
      have HAD := Lib.hid had
      have HADS := Lib.hid hadS
      clear hor hca had hadS
      generalize os[j] = o at *
      generalize playC cs (os.take j) = ds at *
      go_wp2_with fail
      refine (do_ref A1 c1 n1 ds o hn1.out hvj wr hrd.out hlr.out.rising).mono ?_
      rintro e w1 ⟨A3, c3, rfl, hrd1, hA1, hb1⟩
      dsimp only
      have hl1 : Ledger w1 b mb ds := hlr.out.below hb1
      have hbl := hlr.out.lt
      have hap3 : Apart2 b mb w1.heap.size A3 := fun ad3 e => by
        rcases hA1 with h | h
        · have := hap.out ad3 (h ▸ e); have := hb1.size; omega
        · have := h ad3 e; omega
      have hdo := fun W (hW : Ledger W b mb ds) => doLedger b mb ds o hvj W hW
      have hwo := fun W (hW : Ledger W b mb ds) => wouldLedger b mb ds o hvj W hW
      obtain ⟨r, hr⟩ : ∃ r, r = would ds o := ⟨_, rfl⟩
      obtain ⟨es, hes⟩ : ∃ es, es = after ds o := ⟨_, rfl⟩
      simp only [← hr, ← hes] at hdo
      simp only [← hr] at hwo
      rw [← hes] at hrd1
      rw [← hes, ← hr]
      obtain ⟨w2, hw2⟩ : ∃ w2, w2 = w1.alloc (.cells #[.int .i64 r.code, .int .i64 r.slot, .string r.value] 37) := ⟨_, rfl⟩
      have hb12 : Below w1.heap.size w1 w2 := by rw [hw2]; exact (Below.refl _ _).alloc (Nat.le_refl _) _
      have hs2 : w2.heap.size = w1.heap.size + 1 := by rw [hw2]; simp
      have i2 : w2.heap[w1.heap.size]? = some (.cells #[.int .i64 r.code, .int .i64 r.slot, .string r.value] 37 (0, 0)) := by rw [hw2]; exact heap_alloc_new _ _
      have hl2 : Ledger w2 b mb ds := hl1.below hb12
      have hb02 : Below wr.heap.size wr w2 := hb1.trans (hb12.mono hb1.size)
      have hbl1 : w1.heap.size ≠ b ∧ w1.heap.size ≠ mb := by have := hl1.lt; omega
      have hrd2 : Rd Cell.cells 2 w2 w2.heap.size A3 es := (hrd1.below hb12).more hb12.size
      have hsz1 := hb1.size
      have hca2 : At w2 (ad.add (j * 3)) o.cells := HCA.out.keep fun q hq => hb02.cell (by rw [hq, block_add]; exact HAD.out)
      have KEY : Hid (∀ W, Kept (LedS b mb) w2 W → (W.cell? (ad.add (j * 3)) = some (.int .i64 o.kind) ∧ W.cell? ⟨(ad.add (j * 3)).block, (ad.add (j * 3)).off + 1, none⟩ = some (.int .i64 o.slot) ∧ W.cell? ⟨(ad.add (j * 3)).block, (ad.add (j * 3)).off + 2, none⟩ = some (.string o.value)) ∧
          (W.cell? ⟨w1.heap.size, 0, none⟩ = some (.int .i64 r.code) ∧ W.cell? ⟨w1.heap.size, 1, none⟩ = some (.int .i64 r.slot) ∧ W.cell? ⟨w1.heap.size, 2, none⟩ = some (.string r.value)) ∧ Rd Cell.cells 2 W W.heap.size A3 es) := fun W hW => by
        have hcw : At W (ad.add (j * 3)) o.cells := hca2.keep fun q hq => World.cell?_of_block (w := w2) (hW.block _ (by rw [hq, block_add]; have := HAD.out; omega) (by rw [hq, block_add]; exact HADS.out))
        have iw := (hW.block w1.heap.size (by omega) (by unfold LedS; omega)).trans i2
        exact ⟨hcw.three, ⟨cell_of_row W _ 0 _ _ _ iw, cell_of_row W _ 1 _ _ _ iw, cell_of_row W _ 2 _ _ _ iw⟩, hrd2.kept hW (fun ad3 e => hap3.of e)⟩
      have HDO := Lib.hid hdo
      have HWO := Lib.hid hwo
      have HHR := Lib.hid hr
      have HES := Lib.hid hes
      have HW2 := Lib.hid hw2
      have HL2 := Lib.hid hl2
      have HRD1 : Hid (Rd Cell.cells 2 w2 w2.heap.size A1 ds) := (hrd.out.below hb02).more hb02.size
      have HAP3 := Lib.hid hap3
      have HK2 : Hid (Kept (LedS b mb) w w2) := hkr.out.trans (Kept.of_below hb02 _)
      have HEL : Hid (∃ q, q = es.length) := ⟨_, rfl⟩
      have hqn := neqR r
      obtain ⟨⟨e0, e1, e2⟩, ⟨r0, r1, r2⟩, _⟩ := KEY.out w2 (Kept.refl _ _)
      clear o0 o1 o2 hb1 hl1 hA1 hap3 hdo hwo hr hes hw2 hb12 i2 hl2 hb02 hrd1 hrd2 hca2 hrd hlr hkr hap
      have KEYC : Hid (∀ W, Kept (LedS b mb) w2 W → W.cell? (ad.add (j * 3)) = some (.int .i64 o.kind) ∧ W.cell? ⟨(ad.add (j * 3)).block, (ad.add (j * 3)).off + 1, none⟩ = some (.int .i64 o.slot) ∧ W.cell? ⟨(ad.add (j * 3)).block, (ad.add (j * 3)).off + 2, none⟩ = some (.string o.value) ∧
          W.cell? ⟨w1.heap.size, 0, none⟩ = some (.int .i64 r.code) ∧ W.cell? ⟨w1.heap.size, 1, none⟩ = some (.int .i64 r.slot) ∧ W.cell? ⟨w1.heap.size, 2, none⟩ = some (.string r.value)) := fun W hW => by
        obtain ⟨⟨a, b, c⟩, ⟨d, e, f⟩, _⟩ := KEY.out W hW
        exact ⟨a, b, c, d, e, f⟩
      go_wp2_with fail
      rw [← HW2.out]
      go_region_held3 (fun W => W.cell? (ad.add (j * 3)) = some (.int .i64 o.kind) ∧ W.cell? ⟨(ad.add (j * 3)).block, (ad.add (j * 3)).off + 1, none⟩ = some (.int .i64 o.slot) ∧ W.cell? ⟨(ad.add (j * 3)).block, (ad.add (j * 3)).off + 2, none⟩ = some (.string o.value) ∧
          W.cell? ⟨w1.heap.size, 0, none⟩ = some (.int .i64 r.code) ∧ W.cell? ⟨w1.heap.size, 1, none⟩ = some (.int .i64 r.slot) ∧ W.cell? ⟨w1.heap.size, 2, none⟩ = some (.string r.value))
        (first
          | exact KEYC.out _ HK5.out
          | exact KEYC.out _ HK4.out
          | exact KEYC.out _ HK3.out
          | go_keep)
        (first
          | (go_at_call 26
             refine (HWO.out _ (by exact HL2.out)).mono ?_
             rintro e w3 ⟨rfl, hb3⟩
             have hb3' : Below w2.heap.size w2 w3 := ⟨hb3.os, hb3.tape, hb3.output, hb3.size, hb3.block⟩
             have HK3 := Lib.hid (Kept.of_below hb3' (LedS b mb))
             have HL3 := Lib.hid (HL2.out.below hb3')
             have HR3 := Lib.hid ((HRD1.out.below hb3').more hb3'.size)
             clear hb3 hb3')
          | (go_at_call 30
             refine (asks_true b mb A1 c1 n1 ds o.slot hn1.out _ (by exact HL3.out) (by exact HR3.out)).mono ?_
             rintro e w4 ⟨rfl, hb4⟩
             have hb4' : Below w3.heap.size w3 w4 := ⟨hb4.os, hb4.tape, hb4.output, hb4.size, hb4.block⟩
             have HK4 := Lib.hid (HK3.out.trans (Kept.of_below hb4' (LedS b mb)))
             have HL4 := Lib.hid (HL3.out.below hb4')
             clear hb4 hb4')
          | (go_at_call 16
             refine (HDO.out _ (by exact HL4.out)).mono ?_
             rintro e w5 ⟨rfl, hl5, hk5⟩
             have hk5' : Kept (LedS b mb) w4 w5 := ⟨hk5.os, hk5.tape, hk5.output, hk5.size, hk5.block⟩
             have HK5 := Lib.hid (HK4.out.trans hk5')
             have HL5 := Lib.hid hl5
             clear hl5 hk5 hk5'))
      have ASK : Hid (∀ W q, Kept (LedS b mb) w5 W → Below w5.heap.size w5 W → Calls Try.prog 30 #[.pointer (some ⟨b, 0, none⟩), .slice A3 es.length c3, .int .i64 q] W fun e W' => e = .returned (.bool true) ∧ Below w5.heap.size w5 W') := fun W q hk hb =>
        (asks_true b mb A3 c3 _ es q rfl W (HL5.out.below hb) (KEY.out W (HK5.out.trans hk)).2.2).mono fun e W' ⟨he, hb'⟩ => ⟨he, hb.trans (hb'.mono hb.size)⟩
      have KEYD : Hid (∀ W, Below w5.heap.size w5 W → W.cell? (ad.add (j * 3)) = some (.int .i64 o.kind) ∧ W.cell? ⟨(ad.add (j * 3)).block, (ad.add (j * 3)).off + 1, none⟩ = some (.int .i64 o.slot) ∧ W.cell? ⟨(ad.add (j * 3)).block, (ad.add (j * 3)).off + 2, none⟩ = some (.string o.value) ∧
          W.cell? ⟨w1.heap.size, 0, none⟩ = some (.int .i64 r.code) ∧ W.cell? ⟨w1.heap.size, 1, none⟩ = some (.int .i64 r.slot) ∧ W.cell? ⟨w1.heap.size, 2, none⟩ = some (.string r.value)) := fun W hb => KEYC.out W (HK5.out.trans (Kept.of_below hb _))
      have HB6 : Hid (Below w5.heap.size w5 w5) := Below.refl _ _
      go_wp2_with fail
      refine (ASK.out _ _ (Kept.of_below (Below.refl _ _) _) (Below.refl _ _)).mono ?_
      rintro e w6 ⟨rfl, hb6⟩
      have HB6 := Lib.hid hb6
      clear hb6
      obtain ⟨e0, e1, e2, r0, r1, r2⟩ := KEYD.out _ HB6.out
      dsimp only
      go_wp2_with fail
      refine (ASK.out _ _ (Kept.of_below HB6.out _) HB6.out).mono ?_
      rintro e w7 ⟨rfl, hb7⟩
      have HB7 := Lib.hid hb7
      clear hb7 e0 e1 e2 r0 r1 r2
      obtain ⟨e0, e1, e2, r0, r1, r2⟩ := KEYD.out _ HB7.out
      dsimp only
      go_wp2_with fail
      refine (ASK.out _ _ (Kept.of_below HB7.out _) HB7.out).mono ?_
      rintro e w8 ⟨rfl, hb8⟩
      have HB8 := Lib.hid hb8
      clear hb8 e0 e1 e2 r0 r1 r2
      obtain ⟨e0, e1, e2, r0, r1, r2⟩ := KEYD.out _ HB8.out
      dsimp only
      go_wp2_with fail
      have HKF : Hid (Kept (LedS b mb) w w8) := HK2.out.trans (HK5.out.trans (Kept.of_below HB8.out _))
      have HLF : Hid (Ledger w8 b mb es) := HL5.out.below HB8.out
      have HRF : Hid (Rd Cell.cells 2 w8 w8.heap.size A3 es) := (KEY.out w8 (HK5.out.trans (Kept.of_below HB8.out _))).2.2
      clear e0 e1 e2 r0 r1 r2
      go_roundg (os.length - (j + 1))
      case rel => exact ⟨j + 1, A3, c3, es.length, by omega, by go_num, rfl, by show _ = _; rw [hst.out, HES.out], by rw [hst.out, ← HES.out]; exact HRF.out, HAP3.out.more (by have := HB8.out.size; have := HK5.out.size; omega), by rw [hst.out, ← HES.out]; exact HLF.out, HKF.out⟩
      case measure => omega
    · have g1 : decide (j < os.length) = false := by simp; omega
      have g2 : decide ((j : Int) < (os.length : Int)) = false := by simp; omega
      rw [show os.take j = os from List.take_of_length_le (by omega)] at hrd hlr hn1
      clear HO HV HA HL
      go_wp2_with fail
      go_ret2
      have hn1' := hn1.out
      subst hn1'
      exact ⟨A1, c1, rfl, hlr.out, hrd.out, hap.out, hkr.out⟩
end Go.Proofs.Ytmijlflblhhfjaa
