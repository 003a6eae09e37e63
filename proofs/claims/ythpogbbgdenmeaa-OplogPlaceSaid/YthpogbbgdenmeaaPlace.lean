/- OplogPlace answers true, whatever the arguments. Conditions: sizes within the form's own reach. -/
import Derived.Test.YthpogbbgdenmeaaGrown
import Derived.Test.YthpogbbgdenmeaaPlacePlain
import Derived.Test.YthpogbbgdenmeaaLast
namespace Go.Proofs.Ythpogbbgdenmeaa
open Go.RowKit Go.Deep
set_option linter.unusedVariables false
set_option linter.unusedSimpArgs false

theorem zero16 (w : World) : (zeroValue 68).run Try.prog w = .ok (.agg (lk [])) w := by rw [lk_nil]; kernel_rfl

set_option maxRecDepth 100000 in
set_option maxHeartbeats 8000000 in
theorem place_calls (A : Option Addr) (c n : Nat) (rs : List Raw) (ca nb : Int) (hn : n = rs.length) (w : World) (hl : rs.length ≤ 9223372036854775806) (hw : ∀ r ∈ rs, r.wf) (ha : Rd Raw.cells 5 w w.heap.size A rs) :
    Calls Try.prog 11 #[.slice A n c, .int .i64 ca, .int .i64 nb] w fun e w' => e = .returned (.bool true) ∧ Below w.heap.size w w' := by
  subst hn
  have HA := Lib.hid ha
  clear ha
  have hz16 := zero16
  generalize hT : lk [] = T0 at *
  go_enter Try.func11, Try.ntmps11
  go_wp2_with fail
  refine (grown_calls A c rs.length rs 256 rfl (by omega) (by omega) w hl hw HA.out).mono ?_
  rintro e w1 ⟨v1, rfl, ⟨l, hm1, hg, hlen, _⟩, hb1⟩
  obtain ⟨A1, c1, rfl, hc1⟩ := hm1.form
  have HG := Lib.hid hg
  have hr1 := hm1.rd' encEntry.len
  clear hg HA hw hm1
  dsimp only
  go_wp2_with fail
  refine (works06 w1).mono ?_
  rintro e w2 ⟨rfl, hb2⟩
  have hbw2 := hb1.trans (hb2.mono hb1.size)
  have HL2 := Lib.hid ((hr1.below hb2).more hb2.size)
  clear hb1 hb2 hr1
  dsimp only
  go_wp2_with fail
  obtain ⟨p9, hp9⟩ : ∃ p9, p9 = w2.heap.size := ⟨_, rfl⟩
  obtain ⟨W3, hW3⟩ : ∃ W3, W3 = w2.alloc (.cells T0 68) := ⟨_, rfl⟩
  have hb3 : Below p9 w2 W3 := by rw [hW3, hp9]; exact (Below.refl _ _).alloc (Nat.le_refl _) _
  have k3 : W3.heap[p9]? = some (.cells (lk []) 68 (0, 0)) := by rw [hW3, hp9, hT]; exact heap_alloc_new _ _
  have HL : Hid (Rd Entry.cells 5 w2 p9 A1 l) := by rw [hp9]; exact HL2.out
  have hwp : w.heap.size ≤ p9 := by rw [hp9]; exact hbw2.size
  have hp2 : p9 ≤ w2.heap.size := by omega
  rw [← hW3, ← hp9]
  clear hW3 hT hz16 hp9 HL2
  have HB3 := Lib.hid hb3
  have HK3 := Lib.hid k3
  clear hb3 k3
  go_loopw [10] (fun i wr => ∃ k : Nat, k ≤ l.length ∧ i = .int .i64 k ∧ Hid (wr.heap[p9]? = some (.cells (lk (l.take k)) 68 (0, 0))) ∧ Below p9 w2 wr) (fun i _ => l.length - (intOf i).toNat)
  case atStart => exact ⟨0, by omega, rfl, HK3.out, HB3.out⟩
  case round =>
    clear HB3 HK3
    obtain ⟨k, hk, rfl, hkr, hbr⟩ := hrel
    have hp3 : p9 < wr.heap.size := (Array.getElem?_eq_some_iff.1 hkr.out).1
    by_cases hk1 : k < l.length
    · obtain ⟨ad, rfl, had, hca⟩ := (HL.out.below hbr).at_ hk1
      have g1 : (k:Int) < (l.length : Int) := by omega
      obtain ⟨c0, cc1, c2, c3, c4⟩ := hca.five
      have hfp := Lib.hid (find_place HG.out k hk1)
      have hba := baseE_zero (HG.out.base (List.getElem_mem hk1))
      have hsn := Lib.hid (take_snoc hk1)
      clear hca c2 c3 c4
      generalize l[k] = y at *
      have hla : (ad.add (k * 5)).block < wr.heap.size := by rw [block_add]; exact Nat.lt_trans had hp3
      have hla9 : (ad.add (k * 5)).block < p9 := by rw [block_add]; exact had
      have q1 : IntKind.i64.wrap ((k : Int) + 1) = (k : Int) + 1 := IntWalk.i64_in _ (by omega)
      go_wp2_with fail
      go_region_held3 (fun w' => w'.cell? (ad.add (k * 5)) = some (.int .i64 y.client) ∧ w'.cell? ⟨(ad.add (k * 5)).block, (ad.add (k * 5)).off + 1, none⟩ = some (.int .i64 y.number))
        (first
          | go_keep
          | (go_split_ands
             refine ⟨?_, ?_⟩
             · (rw [hb4.cell (p := ad.add (k * 5)) (by exact hla)]; assumption)
             · (rw [hb4.cell (p := ⟨(ad.add (k * 5)).block, (ad.add (k * 5)).off + 1, none⟩) (by exact hla)]; assumption)))
        (first
          | (go_at_call 35
             refine (find_prog (some ad) c1 l.length l y.client y.number rfl _ (by omega) (by exact (HL.out.below hbr).more (Nat.le_of_lt hp3))).mono ?_
             rintro e w4 ⟨rfl, hb4⟩
             rw [hfp.out]))
      have hb24 : Below p9 w2 w4 := hbr.trans ⟨hb4.os, hb4.tape, hb4.output, hb4.size, fun b hb => hb4.block b (Nat.lt_trans hb hp3)⟩
      have k4 : w4.heap[p9]? = some (.cells (lk (l.take k)) 68 (0, 0)) := (hb4.block p9 hp3).trans hkr.out
      have d0 : w4.cell? (ad.add (k * 5)) = some (.int .i64 y.client) := (hb4.cell (p := ad.add (k * 5)) hla).trans c0
      have d1 : w4.cell? ⟨(ad.add (k * 5)).block, (ad.add (k * 5)).off + 1, none⟩ = some (.int .i64 y.number) := (hb4.cell (p := ⟨(ad.add (k * 5)).block, (ad.add (k * 5)).off + 1, none⟩) hla).trans cc1
      obtain ⟨j, hj⟩ := Int.eq_ofNat_of_zero_le hba.1
      have hj16 : j < 16 := by omega
      rw [hj] at d0
      have x4 : w4.cell? ⟨p9, j, none⟩ = some (.int .i64 (lastD (l.take k) (j : Int))) := cell_of_row _ _ j _ _ _ (by rw [k4]) |>.trans (lk_get _ hj16)
      have f4 : w4.frozen? ⟨p9, j, none⟩ = false := frozen_of_row _ _ _ _ _ k4
      have gj : (j : Int) < 16 := by omega
      have HK4 := Lib.hid k4
      have hls := Lib.hid (lk_set (l.take k) y hj16 hj)
      clear hb4 k4 c0 cc1 hkr hfp
      go_wp2_with fail
      go_still_tail 11, (by kernel_rfl)
      change wpList _ _ _ _ _ w4.drew
      have x5 : w4.drew.cell? ⟨p9, j, none⟩ = some (.int .i64 (lastD (l.take k) (j : Int))) := x4
      have f5 : w4.drew.frozen? ⟨p9, j, none⟩ = false := f4
      have k5 : Hid (w4.drew.heap[p9]? = some (.cells (lk (l.take k)) 68 (0, 0))) := HK4.out
      have hb25 : Below p9 w2 w4.drew := below_drew hb24
      clear x4 f4 d0 d1 HK4 hb24
      generalize w4.drew = w5 at *
      go_wp2_with fail
      go_roundw
      case rel => exact ⟨k + 1, by omega, by go_num, by rw [hsn.out, ← hls.out]; exact heap_setCell_same w5 p9 j _ _ _ k5.out, hb25.setCell (p := ⟨p9, j, none⟩) (Nat.le_refl _) _⟩
      case measure => simp [intOf]; omega
    · have g2 : decide ((k:Int) < (l.length : Int)) = false := by simp; omega
      rw [List.take_of_length_le (by omega)] at hkr
      obtain ⟨W4, hW4⟩ : ∃ W4 : World, W4 = wr := ⟨_, rfl⟩
      subst hW4
      go_wp2_with fail
      go_loopw [11] (fun i wq => ∃ c' : Nat, c' ≤ 16 ∧ i = .int .i64 c' ∧ Hid (wq.heap[p9]? = some (.cells (lk l) 68 (0, 0))) ∧ Below p9 w2 wq) (fun i _ => 16 - (intOf i).toNat)
      case atStart => exact ⟨0, by omega, rfl, hkr, hbr⟩
      case round =>
        clear hkr hbr
        obtain ⟨c', hc', rfl, hkr, hbr⟩ := hrel
        have hp3' : p9 < wr.heap.size := (Array.getElem?_eq_some_iff.1 hkr.out).1
        by_cases hc16 : c' < 16
        · have g3 : (c' : Int) < 16 := by omega
          have x4 : wr.cell? ⟨p9, c', none⟩ = some (.int .i64 (lastD l (c' : Int))) := cell_of_row _ _ c' _ _ _ (by rw [hkr.out]) |>.trans (lk_get _ hc16)
          have hlast := Lib.hid (lastE_lastD HG.out (c' : Int))
          go_wp2_with fail
          go_region_held3 (fun w' => w'.cell? ⟨p9, c', none⟩ = some (.int .i64 (lastD l (c' : Int))))
            (first
              | go_keep
              | (rw [hb4.cell (p := ⟨p9, c', none⟩) (by exact hp3')]; assumption))
            (first
              | (go_at_call 37
                 refine (last_prog A1 c1 l.length l (c' : Int) rfl _ (by omega) (by exact (HL.out.below hbr).more (Nat.le_of_lt hp3'))).mono ?_
                 rintro e w4 ⟨rfl, hb4⟩
                 rw [hlast.out]))
          have hb24 : Below p9 w2 w4 := hbr.trans ⟨hb4.os, hb4.tape, hb4.output, hb4.size, fun b hb => hb4.block b (Nat.lt_trans hb hp3')⟩
          have k4 : Hid (w4.heap[p9]? = some (.cells (lk l) 68 (0, 0))) := (hb4.block p9 hp3').trans hkr.out
          clear hb4 x4
          go_wp2_with fail
          go_roundw
          case rel => exact ⟨c' + 1, by omega, by go_num, k4, hb24⟩
          case measure => simp [intOf]; omega
        · have g3 : ¬ (c' : Int) < 16 := by omega
          have hbw : Below w.heap.size w wr := hbw2.trans (hbr.mono hwp)
          have hrl := (HL.out.below hbr).more (Nat.le_of_lt hp3')
          clear hbr hkr
          go_wp2_with fail
          refine (find_prog A1 c1 l.length l ca nb rfl wr (by omega) hrl).mono ?_
          rintro e w6 ⟨rfl, hb6⟩
          have hbw6 : Below w.heap.size w w6 := hbw.trans (hb6.mono hbw.size)
          have HL6 := Lib.hid ((hrl.below hb6).more hb6.size)
          clear hb6 hrl HL
          dsimp only
          rcases find_says l ca nb with ⟨h0, hno⟩ | ⟨x, hx, hh⟩
          · rw [h0]
            have HNO := Lib.hid hno
            clear h0 hno
            have g9 : ¬ (l.length : Int) < 0 := by omega
            go_wp2_with fail
            go_loopw [13] (fun i wq => ∃ j : Nat, j ≤ l.length ∧ i = .int .i64 j ∧ w6 = wq) (fun i _ => l.length - (intOf i).toNat)
            case atStart => exact ⟨0, by omega, rfl, rfl⟩
            case round =>
              obtain ⟨j, hj, rfl, hwq⟩ := hrel
              subst hwq
              by_cases hj1 : j < l.length
              · obtain ⟨bd, hbd, _, hcb⟩ := HL6.out.at_ hj1
                subst hbd
                obtain ⟨d0, d1, d2, d3, d4⟩ := hcb.five
                have g4 : (j : Int) < (l.length : Int) := by omega
                have hnh := HNO.out ⟨j, hj1⟩
                clear hcb
                by_cases h1 : l[j].client = ca
                · have h2 : ¬ l[j].number = nb := fun e => hnh ⟨h1, e⟩
                  have h1' : (l[j].client == ca) = true := by simpa using h1
                  have h2' : (l[j].number == nb) = false := by simpa using h2
                  clear hnh
                  generalize l[j] = y at *
                  go_wp2_with fail
                  go_roundw
                  case rel => exact ⟨j + 1, by omega, by go_num, (by first | rfl | trivial)⟩
                  case measure => simp [intOf]; omega
                · have h1' : (l[j].client == ca) = false := by simpa using h1
                  clear hnh
                  generalize l[j] = y at *
                  go_wp2_with fail
                  go_roundw
                  case rel => exact ⟨j + 1, by omega, by go_num, (by first | rfl | trivial)⟩
                  case measure => simp [intOf]; omega
              · have g4 : decide ((j : Int) < (l.length : Int)) = false := by simp; omega
                clear HNO HL6
                go_wp2_with fail
                go_ret
                exact ⟨rfl, hbw6⟩
          · rw [hx]
            obtain ⟨i0, hi0⟩ := x
            simp only at hx hh ⊢
            obtain ⟨h1, h2⟩ := hh
            obtain ⟨bd, hbd, _, hcb⟩ := HL6.out.at_ hi0
            subst hbd
            obtain ⟨d0, d1, d2, d3, d4⟩ := hcb.five
            rw [h1] at d0
            rw [h2] at d1
            have q1 : ((i0 : Int) + 1 == 0) = false := beq_false_of_ne (by omega)
            have q2 : ¬ (i0 : Int) + 1 < 0 := by omega
            have q3 : ¬ (l.length : Int) < (i0 : Int) + 1 := by omega
            have q4 : (0 : Int) < (l.length : Int) := by omega
            have q5 : (i0 : Int) < (l.length : Int) := by omega
            clear hcb hx h1 h2 d2 d3 d4
            go_wp2_with fail
            go_loopw [13] (fun i wq => i = .int .i64 0 ∧ w6 = wq) (fun i _ => 0)
            case atStart => exact ⟨rfl, rfl⟩
            case round =>
              obtain ⟨rfl, hwq⟩ := hrel
              subst hwq
              go_wp2_with fail
              go_ret
              exact ⟨rfl, hbw6⟩
theorem place_law (W : World) (A0 : Option Addr) (c0 n0 : Nat) (xs0 : List Raw) (hn0 : n0 = xs0.length) (_ : n0 ≤ c0) (hr0 : Rd Raw.cells 5 W W.heap.size A0 xs0) (hw0 : ∀ x ∈ xs0, x.wf) (hs0 : xs0.length * 48 ≤ 140737488351232)
    (ca : Int) (_ : I64 ca) (nb : Int) (_ : I64 nb) : Calls Try.prog 11 #[.slice A0 n0 c0, .int .i64 ca, .int .i64 nb] W fun e w' => e = .returned (.bool true) ∧ Below W.heap.size W w' :=
  place_calls A0 c0 n0 xs0 ca nb hn0 W (by omega) hw0 hr0
end Go.Proofs.Ythpogbbgdenmeaa
