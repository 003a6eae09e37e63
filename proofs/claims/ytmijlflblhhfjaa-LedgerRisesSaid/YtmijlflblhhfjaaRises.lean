/- LedgerRises answers true, whatever the script. Conditions: Go lengths. -/
import Derived.Test.YtmijlflblhhfjaaRisesA
import Derived.Test.YtmijlflblhhfjaaFrom
import Derived.Test.YtmijlflblhhfjaaLedCells
import Derived.Test.YtmijlflblhhfjaaSame04
namespace Go.Proofs.Ytmijlflblhhfjaa
open Go.RowKit
set_option linter.unusedVariables false
set_option linter.unusedSimpArgs false

set_option maxRecDepth 100000 in
set_option maxHeartbeats 4000000 in
theorem rises_calls (A : Option Addr) (c n : Nat) (os : List Op) (hn : n = os.length) (w : World) (hl : os.length ≤ 9223372036854775806) (ha : Rd Op.cells 3 w w.heap.size A os) (hv : ∀ o ∈ os, o.value.size ≤ 9223372036854775807) :
    Calls Try.prog 7 #[.slice A n c] w fun e w' => e = .returned (.bool true) ∧ Below w.heap.size w w' := by
  subst hn
  have HA := Lib.hid ha
  have HV := Lib.hid hv
  clear ha hv
  have hgr := guard_res
  go_enter Try.func7, Try.ntmps7
  go_wp2_with fail
  refine (newLedger w).mono ?_
  rintro e w1 ⟨b, mb, rfl, hl1, hbb, hmb, hB1⟩
  have HL1 := Lib.hid hl1
  have HB1 := Lib.hid hB1
  have HBM := Lib.hid (And.intro hbb hmb)
  clear hl1 hB1 hbb hmb
  dsimp only
  go_wp2_with fail
  refine (works04 w1).mono ?_
  rintro e w2 ⟨rfl, hb2⟩
  have HL2 := Lib.hid (HL1.out.below hb2)
  have HB2 := Lib.hid (HB1.out.trans (hb2.mono HB1.out.size))
  clear HL1 HB1 hb2
  dsimp only
  go_wp2_with fail
  go_loopw [4, 5, 6] (fun x i y wr => ∃ (k : Nat) (N : Int), k ≤ os.length ∧ i = .int .i64 k ∧ x = .int .i64 N ∧ Hid (N = ((playC [] (os.take k)).length : Int)) ∧ Hid (Ledger wr b mb (playC [] (os.take k))) ∧ Hid (Below w.heap.size w wr)) (fun _ i _ _ => os.length - (intOf i).toNat)
  case atStart => exact ⟨0, 0, by omega, rfl, rfl, (by show _ = _; simp [playC]), (by show Ledger _ _ _ _; simpa [playC] using HL2.out), HB2.out⟩
  case round =>
    obtain ⟨k, N, hk, rfl, rfl, hN, hlr, hbr⟩ := hrel
    by_cases h1 : k < os.length
    · obtain ⟨ad, hAd, _, hca⟩ := (HA.out.below hbr.out).at_ h1
      subst hAd
      have g1 : (k:Int) < (os.length : Int) := by omega
      obtain ⟨c0, c1, c2⟩ := hca.three
      have hvk := HV.out os[k] (by simp)
      have hst := Lib.hid (playC_take_succ [] os k h1)
      clear hca
      generalize os[k] = o at *
      generalize playC [] (os.take k) = ds at *
      have hri := hlr.out.rising
      have hal := after_length hri o
      have har := rising_length (after_rising hri o)
      have hN' := hN.out
      obtain ⟨es, hes⟩ : ∃ es, es = after ds o := ⟨_, rfl⟩
      obtain ⟨r, hr⟩ : ∃ r, r = would ds o := ⟨_, rfl⟩
      rw [← hes, ← hr] at hal
      rw [← hes] at har
      have hdo := doLedger b mb ds o hvk wr hlr.out
      rw [← hes, ← hr] at hdo
      have HDO := Lib.hid hdo
      have HES := Lib.hid hes
      have HAL := Lib.hid hal
      have HN0 : 0 ≤ N := by omega
      have HN1 : N ≤ 1024 := by have := rising_length hri; omega
      have HN2 : Hid ((es.length : Int) = N + if r.code = 1 then 1 else 0) := by
        show _ = _
        rw [hal, hN']
        split <;> omega
      clear hri hal har hN' hdo hes hr hN HAL
      go_wp2_with fail
      refine HDO.out.mono ?_
      rintro e w3 ⟨rfl, hl3, hk3⟩
      have HL3 := Lib.hid hl3
      have HB3 := Lib.hid (Kept.ledger_below hbr.out hk3 (fun j q => by have := HBM.out; rcases q with rfl | rfl <;> omega))
      clear hl3 hk3 HDO hlr
      dsimp only
      go_wp2_with fail
      refine (wrote_prog r w3).mono ?_
      rintro e w4 ⟨rfl, hb4⟩
      have HL4 := Lib.hid (HL3.out.below hb4)
      have HB4 := Lib.hid (HB3.out.trans (hb4.mono HB3.out.size))
      clear hb4 HL3 HB3 c0 c1 c2
      obtain ⟨M, hM⟩ : ∃ M : Int, M = (es.length : Int) := ⟨_, rfl⟩
      have HWC := Lib.hid (fun W (hW : Ledger W b mb es) => wouldLedger b mb es ⟨4, 0, ⟨#[]⟩⟩ (by decide) W hW)
      have HLC := Lib.hid (fun W (hW : Ledger W b mb es) => lenLedger b mb es W hW)
      rw [would_count] at HWC
      simp only [← hM] at HWC HLC
      rw [← hM] at HN2
      have HM := Lib.hid hM
      clear hM
      have hneq := neq_res ⟨6, M, ⟨#[]⟩⟩ ⟨6, M, ⟨#[]⟩⟩
      simp only [decide_true, Bool.not_true] at hneq
      by_cases hc : r.code = 1
      · have hc' : (r.code == 1) = true := by simpa using hc
        have e2 : M = N + 1 := by rw [HN2.out, if_pos hc]
        subst e2
        clear HN2 hc
        dsimp only
        go_wp2_with fail
        refine (HWC.out w4 HL4.out).mono ?_
        rintro e w5 ⟨rfl, hb5⟩
        obtain ⟨w6, hw6⟩ : ∃ w6, w6 = w5.alloc (.cells #[.int .i64 6, .int .i64 (N + 1), .string ⟨#[]⟩] 37) := ⟨_, rfl⟩
        have hb56 : Below w5.heap.size w5 w6 := by rw [hw6]; exact (Below.refl _ _).alloc (Nat.le_refl _) _
        have i6 : w6.heap[w5.heap.size]? = some (.cells #[.int .i64 6, .int .i64 (N + 1), .string ⟨#[]⟩] 37 (0, 0)) := by rw [hw6]; exact heap_alloc_new _ _
        have HL6 := Lib.hid ((HL4.out.below hb5).below hb56)
        have HB6 := Lib.hid ((HB4.out.trans (hb5.mono HB4.out.size)).trans (hb56.mono (HB4.out.trans (hb5.mono HB4.out.size)).size))
        have d0 : w6.cell? ⟨w5.heap.size, 0, none⟩ = some (.int .i64 6) := cell_of_row w6 _ 0 _ _ _ i6
        have d1 : w6.cell? ⟨w5.heap.size, 1, none⟩ = some (.int .i64 (N + 1)) := cell_of_row w6 _ 1 _ _ _ i6
        have d2 : w6.cell? ⟨w5.heap.size, 2, none⟩ = some (.string ⟨#[]⟩) := cell_of_row w6 _ 2 _ _ _ i6
        have HW6 := Lib.hid hw6
        clear hb5 hb56 i6 hw6 HL4 HB4 HWC
        dsimp only
        go_wp2_with fail
        rw [show emp = ⟨#[]⟩ from rfl, ← HW6.out]
        refine (HLC.out w6 HL6.out).mono ?_
        rintro e w' ⟨rfl, rfl⟩
        dsimp only
        go_wp2_with fail
        go_roundw
        case rel => exact ⟨k + 1, N + 1, by omega, by go_num, rfl, by show _ = _; rw [hst.out, ← HES.out]; exact HM.out, by rw [hst.out, ← HES.out]; exact HL6.out, HB6.out⟩
        case measure => simp [intOf]; omega
      · have hc' : (r.code == 1) = false := by simpa using hc
        have e2 : M = N := by rw [HN2.out, if_neg hc]; omega
        subst e2
        clear HN2 hc
        dsimp only
        go_wp2_with fail
        refine (HWC.out w4 HL4.out).mono ?_
        rintro e w5 ⟨rfl, hb5⟩
        obtain ⟨w6, hw6⟩ : ∃ w6, w6 = w5.alloc (.cells #[.int .i64 6, .int .i64 M, .string ⟨#[]⟩] 37) := ⟨_, rfl⟩
        have hb56 : Below w5.heap.size w5 w6 := by rw [hw6]; exact (Below.refl _ _).alloc (Nat.le_refl _) _
        have i6 : w6.heap[w5.heap.size]? = some (.cells #[.int .i64 6, .int .i64 M, .string ⟨#[]⟩] 37 (0, 0)) := by rw [hw6]; exact heap_alloc_new _ _
        have HL6 := Lib.hid ((HL4.out.below hb5).below hb56)
        have HB6 := Lib.hid ((HB4.out.trans (hb5.mono HB4.out.size)).trans (hb56.mono (HB4.out.trans (hb5.mono HB4.out.size)).size))
        have d0 : w6.cell? ⟨w5.heap.size, 0, none⟩ = some (.int .i64 6) := cell_of_row w6 _ 0 _ _ _ i6
        have d1 : w6.cell? ⟨w5.heap.size, 1, none⟩ = some (.int .i64 M) := cell_of_row w6 _ 1 _ _ _ i6
        have d2 : w6.cell? ⟨w5.heap.size, 2, none⟩ = some (.string ⟨#[]⟩) := cell_of_row w6 _ 2 _ _ _ i6
        have HW6 := Lib.hid hw6
        clear hb5 hb56 i6 hw6 HL4 HB4 HWC
        dsimp only
        go_wp2_with fail
        rw [show emp = ⟨#[]⟩ from rfl, ← HW6.out]
        refine (HLC.out w6 HL6.out).mono ?_
        rintro e w' ⟨rfl, rfl⟩
        dsimp only
        go_wp2_with fail
        go_roundw
        case rel => exact ⟨k + 1, M, by omega, by go_num, rfl, by show _ = _; rw [hst.out, ← HES.out]; exact HM.out, by rw [hst.out, ← HES.out]; exact HL6.out, HB6.out⟩
        case measure => simp [intOf]; omega
    · have g1 : decide (k < os.length) = false := by simp; omega
      have g2 : decide ((k : Int) < (os.length : Int)) = false := by simp; omega
      generalize playC [] (os.take k) = cs at *
      have hri := hlr.out.rising
      have hlc := rising_length hri
      have hNl := hN.out
      subst hNl
      have HRI := Lib.hid hri
      have HCL := Lib.hid (cellsLedger b mb cs wr hlr.out)
      clear hri hN HA HV HL2 HB2 hlr
      go_wp2_with fail
      refine HCL.out.mono ?_
      rintro e w3 ⟨v3, rfl, hm3, hb3⟩
      obtain ⟨A3, c3, rfl, _⟩ := hm3.form
      have HB3 := Lib.hid (hbr.out.trans (hb3.mono hbr.out.size))
      have HR3 := Lib.hid (hm3.rd' encCell.len)
      clear hm3 hb3 HCL hbr
      dsimp only
      go_wp2_with fail
      go_loopw [8] (fun i wq => ∃ j : Nat, j ≤ cs.length ∧ i = .int .i64 j ∧ ∃ q, wq = w3.drewN q) (fun i _ => cs.length - (intOf i).toNat)
      case atStart => exact ⟨0, by omega, rfl, 0, rfl⟩
      case round =>
        obtain ⟨j, hj, rfl, q, rfl⟩ := hrel
        by_cases h2 : j < cs.length
        · obtain ⟨ad, hAd, _, hca⟩ := HR3.out.at_ h2
          subst hAd
          obtain ⟨c0, c1⟩ := hca.two
          have g3 : (j:Int) < (cs.length : Int) := by omega
          obtain ⟨d0', d1', d2'⟩ := HRI.out.good cs[j] (List.getElem_mem _)
          have d0 : decide (cs[j].slot < 0) = false := decide_eq_false (by omega)
          have d1 : decide (1024 ≤ cs[j].slot) = false := decide_eq_false (by omega)
          have d2 : decide ((64 : Int) < (cs[j].value.size : Int)) = false := decide_eq_false (by omega)
          clear hca d0' d1' d2'
          by_cases h0 : j = 0
          · have HJ := Lib.hid h0
            have d3 : decide ((0 : Int) < (j : Int)) = false := decide_eq_false (by omega)
            have d4 : decide (0 < j) = false := decide_eq_false (by omega)
            clear h0
            generalize cs[j] = y at *
            go_wp2_with fail
            go_quiet (fail)
            go_wp2_with fail
            go_roundw
            case rel => exact ⟨j + 1, by omega, by go_num, (by first | exact ⟨_, rfl⟩ | exact drawn2 _ _ _)⟩
            case measure => simp [intOf]; omega
          · obtain ⟨p, rfl⟩ : ∃ p, j = p + 1 := ⟨j - 1, by omega⟩
            obtain ⟨z, hz⟩ : ∃ z, cs[p]? = some z := ⟨_, List.getElem?_eq_getElem (by omega)⟩
            obtain ⟨ad', hAd', _, hca'⟩ := HR3.out p z hz
            cases hAd'
            obtain ⟨e0, e1⟩ := hca'.two
            have hlt := rising_last HRI.out h2 z (by obtain ⟨hp, e⟩ := List.getElem?_eq_some_iff.1 hz; rw [← e]; exact List.mem_iff_getElem.2 ⟨p, by simp; omega, by rw [List.getElem_take]⟩)
            have d5 : decide (cs[p + 1].slot ≤ z.slot) = false := decide_eq_false (by omega)
            have d3 : (0 : Int) < ((p + 1 : Nat) : Int) := by omega
            have d4 : 0 < p + 1 := by omega
            have k1 : IntKind.i64.wrap (((p + 1 : Nat) : Int) - 1) = (p : Int) := by rw [show (((p + 1 : Nat) : Int) - 1) = (p : Int) by omega]; exact IntWalk.i64_in _ (by omega)
            have k2 : (p : Int) < (cs.length : Int) := by omega
            clear hca' hz e1 hlt h0
            generalize cs[p + 1] = y at *
            go_wp2_with fail
            go_quiet (fail)
            clear k1
            go_wp2_with fail
            go_roundw
            case rel => exact ⟨p + 1 + 1, by omega, by go_num, (by first | exact ⟨_, rfl⟩ | exact drawn2 _ _ _)⟩
            case measure => simp [intOf]; omega
        · have g3 : decide ((j:Int) < (cs.length : Int)) = false := by simp; omega
          have g4 : decide (j < cs.length) = false := by simp; omega
          clear h1 g1 g2
          go_wp2_with fail
          refine (from_prog A3 c3 cs.length cs rfl _ (by omega) (HR3.out.drewN q)).mono ?_
          rintro e w4 (⟨hri4, b4, mb4, rfl, hl4, hbb4, hmb4, hb4⟩ | ⟨hri4, _⟩)
          · have hb4' : Below w3.heap.size w3 w4 := ⟨hb4.os, hb4.tape, hb4.output, hb4.size, hb4.block⟩
            have HB4 := Lib.hid (HB3.out.trans (hb4'.mono HB3.out.size))
            have HCL4 := Lib.hid (cellsLedger b4 mb4 cs w4 hl4)
            have HR4 := Lib.hid ((HR3.out.below hb4').more hb4'.size)
            clear hri4 hl4 hbb4 hmb4 hb4 hb4' HR3
            dsimp only
            go_wp2_with fail
            refine HCL4.out.mono ?_
            rintro e w5 ⟨v5, rfl, hm5, hb5⟩
            obtain ⟨A5, c5, rfl, _⟩ := hm5.form
            have HB5 := Lib.hid (HB4.out.trans (hb5.mono HB4.out.size))
            have HSC := Lib.hid (sameCellsTrue A5 A3 c5 c3 cs.length cs rfl w5 (by omega) (hm5.rd' encCell.len) ((HR4.out.below hb5).more hb5.size))
            clear hm5 hb5 HR4 HCL4
            dsimp only
            go_wp2_with fail
            refine HSC.out.mono ?_
            rintro e w' ⟨rfl, q5, rfl⟩
            dsimp only
            go_wp2_with fail
            go_ret
            exact ⟨rfl, below_drewN HB5.out _⟩
          · exact absurd HRI.out hri4

theorem rises_law (W : World) (A : Option Addr) (c n : Nat) (xs : List Op) (hn : n = xs.length) (_ : n ≤ c) (hrd : Rd Op.cells 3 W W.heap.size A xs) (hwf : ∀ o ∈ xs, o.wf) (hsz : xs.length * 32 ≤ 140737488351232) :
    Calls Try.prog 7 #[.slice A n c] W fun e w' => e = .returned (.bool true) ∧ Below W.heap.size W w' :=
  rises_calls A c n xs hn W (by omega) hrd (fun o ho => (hwf o ho).value)
end Go.Proofs.Ytmijlflblhhfjaa
