/- amnesialaw04.asks answers true of a ledger and its cells. Conditions: none. -/
import Derived.Test.YtmijlflblhhfjaaLedCells
import Derived.Test.YtmijlflblhhfjaaReplayRef
import Derived.Test.YtmijlflblhhfjaaSame04
import Derived.Test.YtmijlflblhhfjaaWorks04
namespace Go.Proofs.Ytmijlflblhhfjaa
open Go.RowKit
set_option linter.unusedVariables false
set_option linter.unusedSimpArgs false

set_option maxRecDepth 100000 in
set_option maxHeartbeats 2000000 in
theorem asks_true (b mb : Nat) (A : Option Addr) (c n : Nat) (cs : List Cell) (k : Int) (hn : n = cs.length) (w : World) (h : Ledger w b mb cs) (ha : Rd Cell.cells 2 w w.heap.size A cs) :
    Calls Try.prog 30 #[.pointer (some ⟨b, 0, none⟩), .slice A n c, .int .i64 k] w fun e w' => e = .returned (.bool true) ∧ Below w.heap.size w w' := by
  subst hn
  have HCL := Lib.hid (rising_length h.rising)
  have HG := Lib.hid (getLedger b mb cs k w h)
  have HR := Lib.hid (fun W (hB : Below w.heap.size w W) => get_ref A c cs.length cs k rfl W (by have := HCL.out; omega) ((ha.below hB).more hB.size))
  have HL := Lib.hid (fun W (hB : Below w.heap.size w W) => lenLedger b mb cs W (h.below hB))
  have HC := Lib.hid (fun W (hB : Below w.heap.size w W) => cellsLedger b mb cs W (h.below hB))
  have HA := Lib.hid (fun W (hB : Below w.heap.size w W) => (ha.below hB).more hB.size)
  clear h ha
  generalize (getC cs k).getD emp = v at *
  generalize (getC cs k).isSome = bb at *
  go_enter Try.func30, Try.ntmps30
  go_wp2_with fail
  refine HG.out.mono ?_
  rintro e w1 ⟨rfl, hb1⟩
  have HB1 := Lib.hid hb1
  clear hb1 HG
  dsimp only
  go_wp2_with fail
  refine (HR.out _ HB1.out).mono ?_
  rintro e w' ⟨rfl, rfl⟩
  clear HR
  dsimp only
  go_wp2_with fail
  refine (HL.out _ HB1.out).mono ?_
  rintro e w' ⟨rfl, rfl⟩
  clear HL
  dsimp only
  go_wp2_with fail
  refine (HC.out _ HB1.out).mono ?_
  rintro e w2 ⟨v2, rfl, hm2, hb2⟩
  obtain ⟨A2, c2, rfl, _⟩ := hm2.form
  have hb12 := HB1.out.trans (hb2.mono HB1.out.size)
  have HS := Lib.hid (sameCellsTrue A2 A c2 c _ cs rfl w2 (by have := HCL.out; omega) (hm2.rd' encCell.len) (HA.out _ hb12))
  have HB2 := Lib.hid hb12
  clear hm2 hb2 hb12 HC HB1 HA
  dsimp only
  go_wp2_with fail
  refine HS.out.mono ?_
  rintro e w' ⟨rfl, q, rfl⟩
  clear HS
  dsimp only
  go_wp2_with fail
  go_ret
  exact ⟨rfl, below_drewN HB2.out _⟩
end Go.Proofs.Ytmijlflblhhfjaa
