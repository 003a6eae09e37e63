/- ledger.Replay: the cells and the results of operations on an empty ledger. Conditions: sizes within Go's own limits. -/
import Derived.Test.YtnfilklgogaheaaLedCells
import Derived.Test.YtnfilklgogaheaaDo
import Derived.Test.YtnfilklgogaheaaCells2
namespace Go.Proofs.Ytnfilklgogaheaa
open Go.RowKit
set_option linter.unusedVariables false
set_option linter.unusedSimpArgs false

set_option maxRecDepth 100000 in
set_option maxHeartbeats 4000000 in
theorem replay_prog (A : Option Addr) (c n : Nat) (os : List Op) (hn : n = os.length) (w : World) (hl : os.length * 32 ≤ 140737488355328) (hv : ∀ o ∈ os, o.value.size ≤ 9223372036854775807) (ha : Rd Op.cells 3 w w.heap.size A os) :
    Calls Try.prog 49 #[.slice A n c] w fun e w' => ∃ v1 v2, e = .returned (.tuple #[v1, v2]) ∧ Made Cell.cells 2 56 w.heap.size w' v1 (playC [] os) ∧ Made Res.cells 3 58 w.heap.size w' v2 (playR [] os) ∧ Below w.heap.size w w' := by
  subst hn
  have HA := Lib.hid ha
  have HV := Lib.hid hv
  clear ha hv
  go_enter Try.func49, Try.ntmps49
  go_wp2_with fail
  refine (newLedger w).mono ?_
  rintro e w1 ⟨b, mb, rfl, hl1, hbb, hmb, hB1⟩
  have HL1 := Lib.hid hl1
  have HB1 := Lib.hid hB1
  clear hl1 hB1
  dsimp only
  go_wp2_with fail
  go_loopg [5, 11] os.length (fun g o i wr => ∃ (k : Nat) (A1 : Option Addr) (c1 : Nat), g + k = os.length ∧ i = .int .i64 k ∧ o = .slice A1 k c1 ∧ Hid (Made Res.cells 3 58 w.heap.size wr (.slice A1 k c1) (playR [] (os.take k))) ∧ Hid (∀ q, (Value.slice A1 k c1).ownBlock = some q → q ≠ b ∧ q ≠ mb) ∧ Hid (Ledger wr b mb (playC [] (os.take k))) ∧ Below w.heap.size w wr)
  case atStart => exact ⟨0, none, 0, by omega, rfl, rfl, Made.nil _ _ _, (fun q hq => by simp [Value.ownBlock] at hq), (show Ledger w1 b mb (playC [] (os.take 0)) by simpa [playC] using HL1.out), HB1.out⟩
  case round =>
    obtain ⟨k, A1, c1, hgk, rfl, rfl, hmd, hown, hlr, hbr⟩ := hrel
    by_cases h1 : k < os.length
    · obtain ⟨ad, rfl, _, hca⟩ := (HA.out.below hbr).at_ h1
      have g1 : (k:Int) < (os.length : Int) := by omega
      obtain ⟨c0, c1', c2⟩ := hca.three
      have hvk := HV.out os[k] (by simp)
      have hst := Lib.hid (playC_take_succ [] os k h1)
      have hsr := Lib.hid (playR_take_succ [] os k h1)
      clear hca
      generalize os[k] = o at *
      obtain ⟨w2, hw2⟩ : ∃ w2, w2 = wr.alloc (.cells #[.int .i64 o.kind, .int .i64 o.slot, .string o.value] 30) := ⟨_, rfl⟩
      have hb2 : Below wr.heap.size wr w2 := by rw [hw2]; exact (Below.refl _ _).alloc (Nat.le_refl _) _
      go_wp2_with fail
      rw [← hw2]
      refine (doLedger b mb _ o hvk w2 (hlr.out.below hb2)).mono ?_
      rintro e w3 ⟨rfl, hl3, hk3⟩
      have hszr := hbr.size
      have hlb := hlr.out.lt
      have hmd2 := hmd.out.below hb2 fun q hq => (hmd.out.lt q hq).2
      have hmd3 : Made Res.cells 3 58 w.heap.size w3 (.slice A1 k c1) (playR [] (os.take k)) := hmd2.same fun q hq => hk3.block q (hmd2.lt q hq).2 (fun e => by have h5 := hown.out q hq; rcases e with e | e <;> omega)
      have hsz3 : w2.heap.size ≤ w3.heap.size := hk3.size
      have hsz2 : w2.heap.size = wr.heap.size + 1 := by rw [hw2]; simp
      clear hw2
      have hbw3 : Below w.heap.size w w3 := ⟨hk3.os.trans (hb2.os.trans hbr.os), hk3.tape.trans (hb2.tape.trans hbr.tape), hk3.output.trans (hb2.output.trans hbr.output), by omega, fun j hj => (hk3.block j (by omega) (fun q => by rcases q with q | q <;> omega)).trans ((hb2.block j (by omega)).trans (hbr.block j hj))⟩
      obtain ⟨r, hr⟩ : ∃ r, r = would (playC [] (os.take k)) o := ⟨_, rfl⟩
      rw [← hr] at hsr ⊢
      have hmd4 := Lib.hid (hmd3.alloc (.cells #[.int .i64 r.code, .int .i64 r.slot, .string r.value] 58))
      have hrd4 := Lib.hid (rd_one encRes w3 r #[.int .i64 r.code, .int .i64 r.slot, .string r.value] rfl 58)
      have hrl : (playR [] (os.take k)).length = k := by rw [playR_length]; simp; omega
      have HL3 := Lib.hid hl3
      have HB3 := Lib.hid hbw3
      clear hr hmd2 hmd3 hl3 hk3 hbw3 hb2 c0 c1' c2
      dsimp only
      go_wp2_with (at_builtin; go_loud (refine wpList_app (v := .slice A1 k c1) (xs := playR [] (os.take k)) (ys := [r]) rowRes encRes rfl (.tmp 15) (.tmp 19) rfl w.heap.size rfl hmd4.out rfl rfl hrd4.out (by simp only [List.length_singleton]; omega) (by unfold maxLen; simp only [List.length_singleton]; omega) (by simp; omega) ?_); intro v5 w5 hm5 hg5 hat5)
      go_roundg (os.length - (k + 1))
      case rel =>
        obtain ⟨A5, c5, rfl, hc5⟩ := hm5.form
        have hnew : ∀ q, (Value.slice A5 (playR [] (os.take k) ++ [r]).length c5).ownBlock = some q → q ≠ b ∧ q ≠ mb := fun q hq => by
          rcases hat5 with e | e
          · exact hown.out q (by rw [← e]; exact hq)
          · rw [e] at hq
            injection hq with hq
            simp at hq
            omega
        have hblk : ∀ q, q < w3.heap.size → (Value.slice A1 k c1).ownBlock ≠ some q → w5.heap[q]? = w3.heap[q]? := fun q hq hne => (hg5.block q (by simp; omega) (fun e => hne e.symm)).trans (heap_alloc_old _ _ hq)
        have hl5 : Ledger w5 b mb (playC [] (os.take (k + 1))) := by
          rw [hst.out]
          exact HL3.out.same (hblk b HL3.out.lt.1 (fun e => (hown.out b e).1 rfl)) (hblk mb HL3.out.lt.2 (fun e => (hown.out mb e).2 rfl))
        have hb5 : Below w.heap.size w w5 := (HB3.out.alloc HB3.out.size _).grown hg5 (by simp; have := HB3.out.size; omega) (fun q e => (hmd.out.lt q e).1)
        have hlk : (playR [] (os.take k) ++ [r]).length = k + 1 := by simp [hrl]
        rw [hlk] at hm5 hnew ⊢
        rw [← hsr.out] at hm5
        exact ⟨k + 1, A5, c5, by omega, by go_num, rfl, hm5, hnew, hl5, hb5⟩
      case measure => omega
    · have g1 : decide (k < os.length) = false := by simp; omega
      rw [show os.take k = os from List.take_of_length_le (by omega)] at hmd hlr
      have hcl := cellsLedger b mb _ wr hlr.out
      have HCL := Lib.hid hcl
      have hml := Lib.hid hmd.out.lt
      have HMD := Lib.hid hmd.out
      clear hcl hmd HA HV
      go_wp2_with fail
      refine HCL.out.mono ?_
      rintro e w6 ⟨v6, rfl, hm6, hb6⟩
      have HM6 := Lib.hid (hm6.base' hbr.size)
      have HR6 := Lib.hid (HMD.out.below hb6 fun q hq => (hml.out q hq).2)
      have hb6' := hbr.trans (hb6.mono hbr.size)
      clear hm6 hb6
      dsimp only
      go_wp2_with fail
      go_ret2
      exact ⟨_, _, rfl, HM6.out, HR6.out, hb6'⟩
end Go.Proofs.Ytnfilklgogaheaa
