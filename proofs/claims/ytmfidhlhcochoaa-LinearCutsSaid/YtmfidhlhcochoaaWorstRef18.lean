/- The reference's Worst answers worstL. Conditions: Go lengths. -/
import Derived.Test.YtmfidhlhcochoaaWorst18
namespace Go.Proofs.Ytmfidhlhcochoaa
open Go.RowKit
set_option linter.unusedVariables false
set_option linter.unusedSimpArgs false

theorem search_err {l : List Call} (h : (searchL l).2.2 ≠ 0) : (searchL l).2.1 = false := by
  unfold searchL at h ⊢
  by_cases h1 : checkL l ≠ 0
  · rw [if_pos h1]
  · rw [if_neg h1] at h ⊢
    by_cases h2 : 8 < l.length
    · rw [if_pos h2]
    · rw [if_neg h2] at h
      exfalso
      revert h
      cases best l <;> exact fun h => h rfl
set_option maxRecDepth 100000 in
set_option maxHeartbeats 8000000 in
theorem worst_ref (A : Option Addr) (c n : Nat) (l : List Call) (hn : n = l.length) (w : World) (hl : (l.length + 1) * 96 ≤ 140737488355328) (hv : ∀ x ∈ l, x.op.value.size ≤ 9223372036854775807) (ha : Rd Call.cells 10 w w.heap.size A l) :
    Calls Try.prog 39 #[.slice A n c] w (WorstPost l w) := by
  subst hn
  obtain ⟨T0, hT0⟩ : ∃ T0 : Ending → World → Prop, T0 = WorstPost l w := ⟨_, rfl⟩
  rw [← hT0]
  have HT0 := Lib.hid hT0
  have HA := Lib.hid ha
  have HV := Lib.hid hv
  clear ha hv hT0
  go_enter Try.func39, Try.ntmps39
  go_wp2_with fail
  refine (search_ref A c l.length l rfl w (by omega) HV.out HA.out).mono ?_
  rintro e w1 ⟨A1, c1, rfl, hm1, hb1⟩
  have HB1 := Lib.hid hb1
  have hr1 := (HA.out.below hb1).more hb1.size
  have HR1 := Lib.hid hr1
  clear hb1 hr1 hm1
  obtain ⟨ok, hok⟩ : ∃ ok, ok = (searchL l).2.1 := ⟨_, rfl⟩
  obtain ⟨ez, hez⟩ : ∃ ez, ez = (searchL l).2.2 := ⟨_, rfl⟩
  obtain ⟨on, hon⟩ : ∃ on, on = (searchL l).1.length := ⟨_, rfl⟩
  rw [← hok, ← hez, ← hon]
  have HOK := Lib.hid hok
  have HEZ := Lib.hid hez
  clear hok hez hon
  by_cases he0 : ez = 0
  · subst he0
    have HAN : Hid (worstL l = (l.foldl (worstStep ok l) (-1), 0)) := by show _ = _; unfold worstL; rw [if_neg (by rw [← HEZ.out]; decide), ← HOK.out]
    have HSO := Lib.hid (search_ok HEZ.out.symm)
    have HGD : Hid (GoodL l) := checkL_zero HSO.out.1
    have hl8 : l.length ≤ 8 := HSO.out.2.1
    cases ok
    · dsimp only
      go_wp2_with fail
      go_loopw [8, 7] (fun i v wr => ∃ k : Nat, ∃ b : Int, k ≤ l.length ∧ i = .int .i64 k ∧ v = .int .i64 b ∧ Hid (b = (l.take k).foldl (worstStep false l) (-1)) ∧ Hid (Below w1.heap.size w1 wr)) (fun i _ _ => l.length - (intOf i).toNat)
      case atStart => exact ⟨0, -1, by omega, rfl, rfl, rfl, Below.refl _ _⟩
      case round =>
        obtain ⟨k, b, hk, rfl, rfl, hbv, hbo⟩ := hrel
        by_cases h1 : k < l.length
        · obtain ⟨ad, hA, hal, hca⟩ := (HR1.out.below hbo.out).at_ h1
          have g1 : (k:Int) < (l.length : Int) := by omega
          have i1 : (0:Int) ≤ (k:Int) := by omega
          have HWS := Lib.hid (worst_snoc false h1)
          obtain ⟨c0, c1', c2, c3, c4, c5', c6, c7, c8, c9⟩ := hca.call
          cases hA
          clear hca
          generalize l[k] = z at *
          have hzo : w1.heap.size ≤ wr.heap.size := hbo.out.size
          have HSK : Hid ((z.fin < 0 ∨ (0 ≤ b ∧ b ≤ z.fin)) → b = (l.take (k + 1)).foldl (worstStep false l) (-1)) := fun h => by
            rw [HWS.out, ← hbv.out]; unfold worstStep; rw [if_pos (.inr h)]
          have HGO : Hid (¬ (z.fin < 0 ∨ (0 ≤ b ∧ b ≤ z.fin)) → (if best (cutL (z.fin + 1) l) = none then z.fin else b) = (l.take (k + 1)).foldl (worstStep false l) (-1)) := fun h => by
            rw [HWS.out, ← hbv.out]; unfold worstStep; rw [if_neg (show ¬ (false = true ∨ z.fin < 0 ∨ (0 ≤ b ∧ b ≤ z.fin)) from fun q => by rcases q with q | q; cases q; exact h q)]
          clear HWS hbv c0 c1' c2 c3 c4 c5' c7 c8 c9
          by_cases hf : z.fin < 0
          · have hf2 : decide (z.fin < 0) = true := decide_eq_true hf
            have HS := Lib.hid (HSK.out (.inl hf))
            clear HSK HGO
            go_wp2_with fail
            go_roundw
            case rel => exact ⟨k + 1, b, by omega, by go_num, rfl, HS.out, hbo.out⟩
            case measure => simp [intOf]; omega
          · have hf2 : decide (z.fin < 0) = false := decide_eq_false hf
            by_cases hp : 0 ≤ b
            · have hp2 : decide (0 ≤ b) = true := decide_eq_true hp
              by_cases hq : b ≤ z.fin
              · have hq2 : decide (b ≤ z.fin) = true := decide_eq_true hq
                have HS := Lib.hid (HSK.out (.inr ⟨hp, hq⟩))
                clear HSK HGO
                go_wp2_with fail
                go_roundw
                case rel => exact ⟨k + 1, b, by omega, by go_num, rfl, HS.out, hbo.out⟩
                case measure => simp [intOf]; omega
              · have hq2 : decide (b ≤ z.fin) = false := decide_eq_false hq
                have HS := Lib.hid (HGO.out (fun h => by rcases h with h | h; exact hf h; exact hq h.2))
                clear HSK HGO
                go_wp2_with fail
                refine (upTo_ref (some ad) _ l.length l rfl z.fin wr hl ((HR1.out.below hbo.out).more hbo.out.size)).mono ?_
                rintro e w3 ⟨A3, c3, rfl, hm3, hb3⟩
                have HB3 := Lib.hid (hbo.out.trans (hb3.mono hbo.out.size))
                have hr3 := Made.rd' encCall.len hm3
                have HR3 := Lib.hid hr3
                have HGC : Hid (GoodL (cutL (z.fin + 1) l)) := HGD.out.cut _
                have HLC : Hid ((cutL (z.fin + 1) l).length ≤ 8) := Nat.le_trans (cutL_len _ _) hl8
                have hfr := from_ref (cutL (z.fin + 1) l) A3 c3 HLC.out (cut_vals HV.out) (fun x hx => good_not_self (HGC.out.good hx)) ((cutL (z.fin + 1) l).length + 1) [] none 0 w3 (fun i h => by simp at h) (by simp [marksOf, falses]) (by simp [marksOf, falses]) (by simp) HR3.out Rd.nil
                rw [show ([] : List Nat).length = 0 from rfl] at hfr
                have HFR := Lib.hid hfr
                clear hm3 hb3 hr3 hfr
                dsimp only
                go_wp2_with fail
                refine HFR.out.mono ?_
                rintro e w4 ⟨hb4, hcase⟩
                have HB4 := Lib.hid (HB3.out.trans (hb4.mono HB3.out.size))
                clear hb4
                rcases hcase with ⟨ks, A', c', hks, rfl, hrk⟩ | ⟨hks, rfl⟩
                · rw [from_best] at hks
                  have hs := HS.out
                  rw [if_neg (by rw [hks]; simp)] at hs
                  have HSF := Lib.hid hs
                  clear hks hrk hs HS
                  dsimp only
                  go_wp2_with fail
                  go_roundw
                  case rel => exact ⟨k + 1, b, by omega, by go_num, rfl, HSF.out, HB4.out⟩
                  case measure => simp [intOf]; omega
                · rw [from_best] at hks
                  have hs := HS.out
                  rw [if_pos hks] at hs
                  have HSF := Lib.hid hs
                  clear hks hs HS
                  dsimp only
                  go_wp2_with fail
                  go_roundw
                  case rel => exact ⟨k + 1, z.fin, by omega, by go_num, rfl, HSF.out, HB4.out⟩
                  case measure => simp [intOf]; omega
            · have hp2 : decide (0 ≤ b) = false := decide_eq_false hp
              have HS := Lib.hid (HGO.out (fun h => by rcases h with h | h; exact hf h; exact hp h.1))
              clear HSK HGO
              go_wp2_with fail
              refine (upTo_ref (some ad) _ l.length l rfl z.fin wr hl ((HR1.out.below hbo.out).more hbo.out.size)).mono ?_
              rintro e w3 ⟨A3, c3, rfl, hm3, hb3⟩
              have HB3 := Lib.hid (hbo.out.trans (hb3.mono hbo.out.size))
              have hr3 := Made.rd' encCall.len hm3
              have HR3 := Lib.hid hr3
              have HGC : Hid (GoodL (cutL (z.fin + 1) l)) := HGD.out.cut _
              have HLC : Hid ((cutL (z.fin + 1) l).length ≤ 8) := Nat.le_trans (cutL_len _ _) hl8
              have hfr := from_ref (cutL (z.fin + 1) l) A3 c3 HLC.out (cut_vals HV.out) (fun x hx => good_not_self (HGC.out.good hx)) ((cutL (z.fin + 1) l).length + 1) [] none 0 w3 (fun i h => by simp at h) (by simp [marksOf, falses]) (by simp [marksOf, falses]) (by simp) HR3.out Rd.nil
              rw [show ([] : List Nat).length = 0 from rfl] at hfr
              have HFR := Lib.hid hfr
              clear hm3 hb3 hr3 hfr
              dsimp only
              go_wp2_with fail
              refine HFR.out.mono ?_
              rintro e w4 ⟨hb4, hcase⟩
              have HB4 := Lib.hid (HB3.out.trans (hb4.mono HB3.out.size))
              clear hb4
              rcases hcase with ⟨ks, A', c', hks, rfl, hrk⟩ | ⟨hks, rfl⟩
              · rw [from_best] at hks
                have hs := HS.out
                rw [if_neg (by rw [hks]; simp)] at hs
                have HSF := Lib.hid hs
                clear hks hrk hs HS
                dsimp only
                go_wp2_with fail
                go_roundw
                case rel => exact ⟨k + 1, b, by omega, by go_num, rfl, HSF.out, HB4.out⟩
                case measure => simp [intOf]; omega
              · rw [from_best] at hks
                have hs := HS.out
                rw [if_pos hks] at hs
                have HSF := Lib.hid hs
                clear hks hs HS
                dsimp only
                go_wp2_with fail
                go_roundw
                case rel => exact ⟨k + 1, z.fin, by omega, by go_num, rfl, HSF.out, HB4.out⟩
                case measure => simp [intOf]; omega
        · have g2 : decide ((k:Int) < (l.length : Int)) = false := decide_eq_false (by omega)
          have g3 : decide (k < l.length) = false := decide_eq_false h1
          have hfin := hbv.out
          rw [List.take_of_length_le (by omega)] at hfin
          have HFIN := Lib.hid hfin
          clear hfin hbv
          go_wp2_with fail
          rw [HT0.out]
          refine ⟨?_, HB1.out.trans (hbo.out.mono HB1.out.size)⟩
          rw [HAN.out, HFIN.out]
          rfl
    · rw [worst_ok] at HAN
      dsimp only
      go_wp2_with fail
      rw [HT0.out]
      refine ⟨?_, HB1.out⟩
      rw [HAN.out]
      rfl
  · have HAN : Hid (worstL l = (0, ez)) := by show _ = _; unfold worstL; rw [if_pos (by rw [← HEZ.out]; exact he0), ← HEZ.out]
    have he1 : (ez == 0) = false := by simpa using he0
    have he2 : (ez != 0) = true := by simpa using he0
    have he3 : decide (ez = 0) = false := decide_eq_false he0
    clear he0
    dsimp only
    go_wp2_with fail
    rw [HT0.out]
    refine ⟨?_, HB1.out⟩
    rw [HAN.out]
    rfl
end Go.Proofs.Ytmfidhlhcochoaa
