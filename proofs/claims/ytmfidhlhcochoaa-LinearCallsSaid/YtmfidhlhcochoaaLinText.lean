/- linear.text answers the text of a ledger's cells. Conditions: none. -/
import Derived.Test.YtmfidhlhcochoaaLedCells
import Derived.Test.YtmfidhlhcochoaaLinM1
namespace Go.Proofs.Ytmfidhlhcochoaa
open Go.RowKit
set_option linter.unusedVariables false
set_option linter.unusedSimpArgs false

theorem textC_take (cs : List Cell) {k : Nat} (h : k < cs.length) : textC (cs.take (k + 1)) = textC (cs.take k) ++ textOf cs[k] := by
  rw [List.take_succ_eq_append_getElem h, textC_snoc]

set_option maxRecDepth 100000 in
set_option maxHeartbeats 4000000 in
theorem text_prog (b mb : Nat) (cs : List Cell) (w : World) (h : Ledger w b mb cs) :
    Calls Try.prog 42 #[.pointer (some ⟨b, 0, none⟩)] w fun e w' => e = .returned (.string (textC cs)) ∧ Below w.heap.size w w' := by
  obtain ⟨r, hr⟩ : ∃ r, r = textC cs := ⟨_, rfl⟩
  rw [← hr]
  have HR := Lib.hid hr
  have hri := h.rising
  have HG := Lib.hid hri
  have hlen := rising_length hri
  clear hr hri
  go_enter Try.func42, Try.ntmps42
  go_wp2_with fail
  refine (cellsLedger b mb cs w h).mono ?_
  rintro e w1 ⟨v, rfl, hm, hb1⟩
  obtain ⟨A, c, rfl, hc⟩ := hm.form
  have HRD := Lib.hid (Made.rd' encCell.len hm)
  have HB1 := Lib.hid hb1
  clear hm hb1 h
  dsimp only
  go_wp2_with fail
  go_loopw [9, 3] (fun i s wr => ∃ k : Nat, k ≤ cs.length ∧ i = .int .i64 k ∧ s = .string (textC (cs.take k)) ∧ Hid (Below w1.heap.size w1 wr)) (fun i _ _ => cs.length - (intOf i).toNat)
  case atStart => exact ⟨0, by omega, rfl, rfl, Below.refl _ _⟩
  case round =>
    obtain ⟨k, hk, rfl, rfl, hbr⟩ := hrel
    have hsz := textC_size (cs := cs.take k) fun x hx => HG.out.good x (List.mem_of_mem_take hx)
    rw [List.length_take] at hsz
    obtain ⟨s, hs⟩ : ∃ s, s = textC (cs.take k) := ⟨_, rfl⟩
    rw [← hs] at hsz ⊢
    have hsm : s.size ≤ 68 * 1024 := by omega
    clear hsz
    by_cases h1 : k < cs.length
    · obtain ⟨ad, hA, hal, hca⟩ := (HRD.out.below hbr.out).at_ h1
      have g1 : (k:Int) < (cs.length : Int) := by omega
      have i2 : (0:Int) ≤ (k:Int) := by omega
      obtain ⟨c0, c1⟩ := hca.two
      have hgd := HG.out.good _ (List.getElem_mem h1)
      have htk := textC_take cs h1
      rw [← hs] at htk
      have HTK := Lib.hid htk
      have HS := Lib.hid hs
      subst hA
      clear hca htk hs
      generalize cs[k] = x at *
      obtain ⟨x1, x2, x3⟩ := hgd
      have e1 := (enc_size x1 (by omega)).1
      have e2 := (enc_size (n := (x.value.size : Int)) (by omega) (by omega)).1
      have kw1 : IntKind.i32.wrap x.slot = x.slot := IntWalk.i32_in _ (by omega)
      have kw2 : IntKind.i32.wrap (x.value.size : Int) = (x.value.size : Int) := IntWalk.i32_in _ (by omega)
      have hnx : Hid (s ++ (Utf8.encode x.slot ++ Utf8.encode (x.value.size : Int) ++ x.value) = textC (cs.take (k + 1))) := HTK.out.symm
      have hszr := hbr.out.size
      go_wp2_with fail
      go_roundw
      case rel => exact ⟨k + 1, by omega, by go_num, by rw [hnx.out], hbr.out.alloc hszr _⟩
      case measure => simp [intOf]; omega
    · have hall : Hid (s = r) := by
        show s = r
        rw [hs, HR.out, List.take_of_length_le (by omega)]
      have g2 : decide ((k:Int) < (cs.length : Int)) = false := decide_eq_false (by omega)
      have g3 : decide (k < cs.length) = false := decide_eq_false h1
      go_wp2_with fail
      go_ret
      exact ⟨by rw [← hall.out]; rfl, HB1.out.trans (hbr.out.mono HB1.out.size)⟩
end Go.Proofs.Ytmfidhlhcochoaa
