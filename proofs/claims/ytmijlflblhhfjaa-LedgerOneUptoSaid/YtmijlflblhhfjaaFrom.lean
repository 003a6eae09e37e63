/- ledger.From: a ledger of rising cells; nil and 43 of others. Conditions: a Go length. -/
import Derived.Test.YtmijlflblhhfjaaFromRef
import Derived.Test.YtmijlflblhhfjaaWorks04
namespace Go.Proofs.Ytmijlflblhhfjaa
open Go.RowKit
set_option linter.unusedVariables false
set_option linter.unusedSimpArgs false

def FromPost (cs : List Cell) (w : World) (e : Ending) (w' : World) : Prop :=
  (Rising cs ∧ ∃ b mb, e = .returned (.tuple #[.pointer (some ⟨b, 0, none⟩), .int .i64 0]) ∧ Ledger w' b mb cs ∧ w.heap.size ≤ b ∧ w.heap.size ≤ mb ∧ Below w.heap.size w w') ∨
  (¬ Rising cs ∧ e = .returned (.tuple #[.pointer none, .int .i64 43]) ∧ Below w.heap.size w w')

set_option maxRecDepth 100000 in
set_option maxHeartbeats 4000000 in
theorem from_prog (A : Option Addr) (c n : Nat) (cs : List Cell) (hn : n = cs.length) (w : World) (hl : cs.length ≤ 9223372036854775806) (ha : Rd Cell.cells 2 w w.heap.size A cs) :
    Calls Try.prog 28 #[.slice A n c] w (FromPost cs w) := by
  subst hn
  have HA := Lib.hid ha
  clear ha
  go_enter Try.func28, Try.ntmps28
  go_wp2_with fail
  refine (newLedger w).mono ?_
  rintro e w1 ⟨b, mb, rfl, hl1, hbb, hmb, hB1⟩
  have HL1 := Lib.hid hl1
  have HB1 := Lib.hid hB1
  clear hl1 hB1
  dsimp only
  go_wp2_with fail
  go_loopw [5, 6, 10] (fun x y i wr => ∃ j : Nat, j ≤ cs.length ∧ i = .int .i64 j ∧ Hid (Rising (cs.take j)) ∧ Hid (Ledger wr b mb (cs.take j)) ∧ Hid (Below w.heap.size w wr)) (fun _ _ i _ => cs.length - (intOf i).toNat)
  case atStart => exact ⟨0, by omega, rfl, by show Rising _; rw [List.take_zero]; exact Rising.nil, by show Ledger _ _ _ _; rw [List.take_zero]; exact HL1.out, HB1.out⟩
  case round =>
    obtain ⟨j, hj, rfl, hri, hlr, hbr⟩ := hrel
    by_cases h1 : j < cs.length
    · have hsz := hbr.out.size
      obtain ⟨ad, hAd, had, hca⟩ := (HA.out.below hbr.out).at_ h1
      subst hAd
      obtain ⟨c0, c1⟩ := hca.two
      have g1 : (j:Int) < (cs.length : Int) := by omega
      obtain ⟨w2, hw2⟩ : ∃ w2, w2 = wr.alloc (.cells #[.int .i64 cs[j].slot, .string cs[j].value] 29) := ⟨_, rfl⟩
      have hb2 : Below wr.heap.size wr w2 := by rw [hw2]; exact (Below.refl _ _).alloc (Nat.le_refl _) _
      have i2 : w2.heap[wr.heap.size]? = some (.cells #[.int .i64 cs[j].slot, .string cs[j].value] 29 (0, 0)) := by rw [hw2]; exact heap_alloc_new _ _
      have d0 : w2.cell? ⟨wr.heap.size, 0, none⟩ = some (.int .i64 cs[j].slot) := cell_of_row w2 _ 0 _ _ _ i2
      have d1 : w2.cell? ⟨wr.heap.size, 1, none⟩ = some (.string cs[j].value) := cell_of_row w2 _ 1 _ _ _ i2
      have hl2 : Ledger w2 b mb (cs.take j) := hlr.out.below hb2
      have hbw2 : Below w.heap.size w w2 := hbr.out.trans (hb2.mono hsz)
      have HL2 := Lib.hid hl2
      have HB2 := Lib.hid hbw2
      have HW2 := Lib.hid hw2
      clear hca hw2 i2 hl2 hbw2 hlr hbr
      cases seen4 cs j h1 with
      | neg h =>
        have hb := Lib.hid (not_rising_good h1 (fun g => by have := g.1; omega))
        clear hri HA
        generalize cs[j] = y at *
        go_wp2_with fail
        rw [← HW2.out]
        go_quiet (fail)
        go_wp2_with fail
        go_ret2
        exact .inr ⟨hb.out, rfl, below_drewN HB2.out _⟩
      | big h0 h =>
        have hb := Lib.hid (not_rising_good h1 (fun g => by have := g.2.1; omega))
        have h0' : decide (cs[j].slot < 0) = false := decide_eq_false h0
        clear hri HA
        generalize cs[j] = y at *
        go_wp2_with fail
        rw [← HW2.out]
        go_quiet (fail)
        go_wp2_with fail
        go_ret2
        exact .inr ⟨hb.out, rfl, below_drewN HB2.out _⟩
      | long h0 h1' h =>
        have hb := Lib.hid (not_rising_good h1 (fun g => by have := g.2.2; omega))
        have d0' : decide (cs[j].slot < 0) = false := decide_eq_false h0
        have d1' : decide (1024 ≤ cs[j].slot) = false := decide_eq_false h1'
        have d2 : (64 : Int) < (cs[j].value.size : Int) := by omega
        clear hri HA h
        generalize cs[j] = y at *
        go_wp2_with fail
        rw [← HW2.out]
        go_quiet (fail)
        go_wp2_with fail
        go_ret2
        exact .inr ⟨hb.out, rfl, below_drewN HB2.out _⟩
      | first h0 h1' h2 h =>
        have hgd : Good cs[j] := ⟨by omega, by omega, by omega⟩
        have hs := rising_step hri.out h1 hgd (fun a z h => by omega)
        have hlast := rising_last hs (k := j) (by simp; omega)
        have hput := putC_behind (cs := cs.take j) (c := cs[j]) (fun d hd => by have := hlast d (by rw [List.take_take, Nat.min_eq_left (by omega)]; exact hd); simpa using this)
        rw [← List.take_succ_eq_append_getElem h1] at hput
        have hne : ∀ d ∈ cs.take j, d.slot ≠ cs[j].slot := fun d hd => by have := hlast d (by rw [List.take_take, Nat.min_eq_left (by omega)]; exact hd); simp at this; omega
        have d0' : decide (cs[j].slot < 0) = false := decide_eq_false h0
        have d1' : decide (1024 ≤ cs[j].slot) = false := decide_eq_false h1'
        have d2 : decide ((64 : Int) < (cs[j].value.size : Int)) = false := decide_eq_false (by omega)
        have d3 : decide ((0 : Int) < (j : Int)) = false := decide_eq_false (by omega)
        have d4 : decide (0 < j) = false := decide_eq_false (by omega)
        have HPUT := Lib.hid (fun W (hW : Ledger W b mb (cs.take j)) => putLedger b mb (cs.take j) cs[j].slot cs[j].value W hW hgd hne)
        have HP := Lib.hid hput
        have HS := Lib.hid hs
        clear hri h h2 hput hne hs hlast hgd
        generalize cs[j] = y at *
        go_wp2_with fail
        rw [← HW2.out]
        go_quiet (fail)
        go_wp2_with fail
        refine (HPUT.out _ (by exact HL2.out)).mono ?_
        rintro e w3 ⟨rfl, hl3, hk3⟩
        have HL3 : Hid (Ledger w3 b mb (cs.take (j + 1))) := by rw [← HP.out]; exact hl3
        have HB3 : Hid (Below w.heap.size w w3) := Kept.ledger_below (w1 := w2) HB2.out ⟨hk3.os, hk3.tape, hk3.output, hk3.size, hk3.block⟩ (fun j hj => by rcases hj with rfl | rfl <;> assumption)
        clear hl3 hk3
        dsimp only
        go_wp2_with fail
        go_roundw
        case rel => exact ⟨j + 1, by omega, by go_num, HS.out, HL3.out, HB3.out⟩
        case measure => simp [intOf]; omega
      | back p z h0 h1' h2 hjp hz h =>
        subst hjp
        have hb := Lib.hid (not_rising_prev h1 hz h)
        obtain ⟨ad', hAd', had', hca'⟩ := HA.out p z hz
        cases hAd'
        obtain ⟨e0, e1⟩ := (hca'.keep fun q hq => HB2.out.cell (p := q) (by rw [hq, block_add]; exact had')).two
        have d0' : decide (cs[p + 1].slot < 0) = false := decide_eq_false h0
        have d1' : decide (1024 ≤ cs[p + 1].slot) = false := decide_eq_false h1'
        have d2 : decide ((64 : Int) < (cs[p + 1].value.size : Int)) = false := decide_eq_false (by omega)
        have d3 : (0 : Int) < ((p + 1 : Nat) : Int) := by omega
        have d4 : 0 < p + 1 := by omega
        have k1 : IntKind.i64.wrap (((p + 1 : Nat) : Int) - 1) = (p : Int) := by rw [show (((p + 1 : Nat) : Int) - 1) = (p : Int) by omega]; exact IntWalk.i64_in _ (by omega)
        have k2 : (p : Int) < (cs.length : Int) := by omega
        clear hri HA h2 hca' h0 h1' e1 hz
        generalize cs[p + 1] = y at *
        go_wp2_with fail
        rw [← HW2.out]
        go_quiet (fail)
        go_wp2_with fail
        go_ret2
        exact .inr ⟨hb.out, rfl, below_drewN HB2.out _⟩
      | next p z h0 h1' h2 hjp hz h =>
        subst hjp
        have hgd : Good cs[p + 1] := ⟨by omega, by omega, by omega⟩
        have hs := rising_step hri.out h1 hgd (fun a z' ha hz' => by (have e : a = p := by omega); subst e; rw [hz] at hz'; cases hz'; omega)
        have hlast := rising_last hs (k := p + 1) (by simp; omega)
        have hput := putC_behind (cs := cs.take (p + 1)) (c := cs[p + 1]) (fun d hd => by have := hlast d (by rw [List.take_take, Nat.min_eq_left (by omega)]; exact hd); simpa using this)
        rw [← List.take_succ_eq_append_getElem h1] at hput
        have hne : ∀ d ∈ cs.take (p + 1), d.slot ≠ cs[p + 1].slot := fun d hd => by have := hlast d (by rw [List.take_take, Nat.min_eq_left (by omega)]; exact hd); simp at this; omega
        obtain ⟨ad', hAd', had', hca'⟩ := HA.out p z hz
        cases hAd'
        obtain ⟨e0, e1⟩ := (hca'.keep fun q hq => HB2.out.cell (p := q) (by rw [hq, block_add]; exact had')).two
        have d0' : decide (cs[p + 1].slot < 0) = false := decide_eq_false h0
        have d1' : decide (1024 ≤ cs[p + 1].slot) = false := decide_eq_false h1'
        have d2 : decide ((64 : Int) < (cs[p + 1].value.size : Int)) = false := decide_eq_false (by omega)
        have d5 : decide (cs[p + 1].slot ≤ z.slot) = false := decide_eq_false h
        have d3 : (0 : Int) < ((p + 1 : Nat) : Int) := by omega
        have d4 : 0 < p + 1 := by omega
        have k1 : IntKind.i64.wrap (((p + 1 : Nat) : Int) - 1) = (p : Int) := by rw [show (((p + 1 : Nat) : Int) - 1) = (p : Int) by omega]; exact IntWalk.i64_in _ (by omega)
        have k2 : (p : Int) < (cs.length : Int) := by omega
        have HPUT := Lib.hid (fun W (hW : Ledger W b mb (cs.take (p + 1))) => putLedger b mb (cs.take (p + 1)) cs[p + 1].slot cs[p + 1].value W hW hgd hne)
        have HP := Lib.hid hput
        have HS := Lib.hid hs
        clear hri h2 hca' h0 h1' e1 h hz hput hne hs hlast hgd
        generalize cs[p + 1] = y at *
        go_wp2_with fail
        rw [← HW2.out]
        go_quiet (fail)
        clear k1
        go_wp2_with fail
        refine (HPUT.out _ (by exact HL2.out)).mono ?_
        rintro e w3 ⟨rfl, hl3, hk3⟩
        have HL3 : Hid (Ledger w3 b mb (cs.take (p + 1 + 1))) := by rw [← HP.out]; exact hl3
        have HB3 : Hid (Below w.heap.size w w3) := Kept.ledger_below (w1 := w2) HB2.out ⟨hk3.os, hk3.tape, hk3.output, hk3.size, hk3.block⟩ (fun j hj => by rcases hj with rfl | rfl <;> assumption)
        clear hl3 hk3
        dsimp only
        go_wp2_with fail
        go_roundw
        case rel => exact ⟨p + 1 + 1, by omega, by go_num, HS.out, HL3.out, HB3.out⟩
        case measure => simp [intOf]; omega
    · have g1 : decide ((j:Int) < (cs.length : Int)) = false := by simp; omega
      have g2 : decide (j < cs.length) = false := by simp; omega
      rw [show cs.take j = cs from List.take_of_length_le (by omega)] at hri hlr
      clear HA
      go_wp2_with fail
      go_ret2
      exact .inl ⟨hri.out, b, mb, rfl, hlr.out, hbb, hmb, hbr.out⟩
end Go.Proofs.Ytmijlflblhhfjaa
