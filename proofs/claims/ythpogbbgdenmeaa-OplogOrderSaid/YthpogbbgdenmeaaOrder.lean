/- OplogOrder answers true, whatever the arguments. Conditions: sizes within the form's own reach. -/
import Derived.Test.YthpogbbgdenmeaaGrown
import Derived.Test.YthpogbbgdenmeaaOrderPlain
import Derived.Test.YthpogbbgdenmeaaPiece
namespace Go.Proofs.Ythpogbbgdenmeaa
open Go.RowKit Go.Deep
set_option linter.unusedVariables false
set_option linter.unusedSimpArgs false

theorem add_off (ad : Addr) (n : Nat) : (ad.add n).off = ad.off + n := by unfold Addr.add; split <;> simp_all
/-- The last one's number, written over where it lies. -/
theorem Rd.mark {w : World} {B : Nat} {ad : Addr} {l : List Entry} {q : Nat} (h : q < l.length) (hr : Rd Entry.cells 5 w B (some ad) (l.take (q + 1))) :
    Rd Entry.cells 5 (w.setCell ⟨(ad.add (q * 5)).block, (ad.add (q * 5)).off + 1, none⟩ (.int .i64 (-1))) B (some ad) (marked l q h) := fun i x hx => by
  have hil : i < q + 1 := by have := (List.getElem?_eq_some_iff.1 hx).1; rw [marked_length] at this; exact this
  have hi' : i < (l.take (q + 1)).length := by simp; omega
  obtain ⟨ad', e, hb, hat⟩ := hr.at_ hi'
  cases e
  refine ⟨ad, rfl, hb, fun j u hu => ?_⟩
  have hj : j < 5 := by have := (List.getElem?_eq_some_iff.1 hu).1; simpa [Entry.cells] using this
  by_cases hij : i = q ∧ j = 1
  · obtain ⟨rfl, rfl⟩ := hij
    have hxe : x = { l[i] with number := -1 } := by
      unfold marked at hx
      rw [List.getElem?_append_right (by simp; omega)] at hx
      simp at hx
      rw [show i - min i l.length = 0 by omega] at hx
      simp at hx
      exact hx.symm
    subst hxe
    simp [Entry.cells] at hu
    subst hu
    have ha : (ad.add (i * 5)).add 1 = ⟨(ad.add (i * 5)).block, (ad.add (i * 5)).off + 1, none⟩ := by simp [Addr.add]
    rw [ha]
    refine World.cell?_setCell_same' _ _ _ ?_
    have := hat 1 _ rfl
    rw [ha] at this
    rw [this]; rfl
  · have hne : (⟨(ad.add (q * 5)).block, (ad.add (q * 5)).off + 1, none⟩ : Addr) ≠ (ad.add (i * 5)).add j := by
      intro e
      have := congrArg Addr.off e
      rw [add_off, add_off] at this
      simp only [add_off] at this
      omega
    rw [World.cell?_setCell_other _ _ _ _ hne]
    by_cases hiq : i < q
    · have hxe : x = (l.take (q + 1))[i] := by
        unfold marked at hx
        rw [List.getElem?_append_left (by simp; omega)] at hx
        rw [List.getElem?_take, if_pos hiq] at hx
        have := (List.getElem?_eq_some_iff.1 hx).2
        rw [← this]; simp
      rw [hxe] at hu
      exact hat j u hu
    · obtain rfl : i = q := by omega
      have hxe : x = { l[i] with number := -1 } := by
        unfold marked at hx
        rw [List.getElem?_append_right (by simp; omega)] at hx
        simp at hx
        rw [show i - min i l.length = 0 by omega] at hx
        simp at hx
        exact hx.symm
      subst hxe
      have hyy : (l.take (i + 1))[i] = l[i] := by simp
      rw [hyy] at hat
      refine hat j u ?_
      have hj1 : j ≠ 1 := fun e => hij ⟨rfl, e⟩
      match j, hj, hj1 with
      | 0, _, _ => exact hu
      | 1, _, h1 => exact absurd rfl h1
      | 2, _, _ => exact hu
      | 3, _, _ => exact hu
      | 4, _, _ => exact hu
theorem cut_ok (A : Option Addr) (c : Nat) (p : Nat) (l : List Entry) (hc : l.length ≤ c) (hp : p ≤ l.length) (w : World) (hb : l.length ≤ 256) (ha : Rd Entry.cells 5 w w.heap.size A l) :
    Calls Try.prog 23 #[.slice A l.length c, .int .i64 (p : Int)] w fun e w' => ∃ A' c', e = .returned (.tuple #[.slice A' p c', .int .i64 0]) ∧ p ≤ c' ∧ Rd Entry.cells 5 w' w'.heap.size A' (l.take p) ∧ Below w.heap.size w w' := by
  refine (cut_prog A c l.length p l rfl hc w (by omega) ha).mono ?_
  rintro e w' ⟨v, rfl, hm, hb⟩
  rw [if_neg (by omega)] at hm ⊢
  obtain ⟨A', c', rfl, hc'⟩ := hm.form
  have hr := hm.rd' encEntry.len
  rw [Int.toNat_natCast] at hm hr hc' ⊢
  have hl : (l.take p).length = p := by simp; omega
  rw [hl] at hc' ⊢
  exact ⟨A', c', rfl, hc', hr, hb⟩

set_option maxRecDepth 100000 in
set_option maxHeartbeats 8000000 in
theorem order_calls (A : Option Addr) (c n : Nat) (rs : List Raw) (i j m : Int) (turn : Bool) (hi : I64 i) (hj : I64 j) (hn : n = rs.length) (w : World) (hl : rs.length ≤ 9223372036854775806) (hw : ∀ r ∈ rs, r.wf) (ha : Rd Raw.cells 5 w w.heap.size A rs) :
    Calls Try.prog 9 #[.slice A n c, .int .i64 i, .int .i64 j, .int .i64 m, .bool turn] w fun e w' => e = .returned (.bool true) ∧ Below w.heap.size w w' := by
  subst hn
  have HA := Lib.hid ha
  clear ha
  go_enter Try.func9, Try.ntmps9
  go_wp2_with fail
  refine (grown_calls A c rs.length rs 256 rfl (by omega) (by omega) w hl hw HA.out).mono ?_
  rintro e w1 ⟨v1, rfl, ⟨l, hm1, hg, hlen, _⟩, hb1⟩
  obtain ⟨A1, c1, rfl, hc1⟩ := hm1.form
  have HG := Lib.hid hg
  have hr1 := hm1.rd' encEntry.len
  clear hg HA hw hm1
  dsimp only
  go_wp2_with fail
  refine (works06 w1).mono ?_
  rintro e w2 ⟨rfl, hb2⟩
  have hbw2 := hb1.trans (hb2.mono hb1.size)
  have HR2 := Lib.hid ((hr1.below hb2).more hb2.size)
  clear hb1 hb2 hr1
  dsimp only
  go_wp2_with fail
  have hp0 := Int.emod_nonneg i (by omega : (l.length : Int) + 1 ≠ 0)
  have hp1 := Int.emod_lt_of_pos i (by omega : 0 < (l.length : Int) + 1)
  have hwi := within_calls i (l.length : Int) hi (by omega) (by omega) w2
  obtain ⟨p, hp⟩ := Int.eq_ofNat_of_zero_le hp0
  rw [hp] at hp1 hwi
  clear hp hp0
  refine hwi.mono ?_
  rintro e w' ⟨rfl, hw'⟩
  rw [hw']
  clear hw' w' hwi
  have hpl : p ≤ l.length := by omega
  dsimp only
  go_wp2_with fail
  refine (cut_ok A1 c1 p l hc1 hpl w2 (by omega) HR2.out).mono ?_
  rintro e w3 ⟨A3, c3, rfl, hc3, hr3, hb3⟩
  have hbw3 := hbw2.trans (hb3.mono hbw2.size)
  have HR3 := Lib.hid ((HR2.out.below hb3).more hb3.size)
  clear hb3 HR2
  dsimp only
  go_wp2_with fail
  have hq0 := Int.emod_nonneg j (by omega : (l.length : Int) + 1 ≠ 0)
  have hq1 := Int.emod_lt_of_pos j (by omega : 0 < (l.length : Int) + 1)
  have hwj := within_calls j (l.length : Int) hj (by omega) (by omega) w3
  obtain ⟨q, hq⟩ := Int.eq_ofNat_of_zero_le hq0
  rw [hq] at hq1 hwj
  clear hq hq0
  refine hwj.mono ?_
  rintro e w' ⟨rfl, hw'⟩
  rw [hw']
  clear hw' w' hwj
  have hql : q ≤ l.length := by omega
  dsimp only
  go_wp2_with fail
  refine (cut_ok A1 c1 q l hc1 hql w3 (by omega) HR3.out).mono ?_
  rintro e w4 ⟨A4, c4, rfl, hc4, hr4, hb4⟩
  have hbw4 := hbw3.trans (hb4.mono hbw3.size)
  have HR4 := Lib.hid ((HR3.out.below hb4).more hb4.size)
  have hra4 := (hr3.below hb4).more hb4.size
  clear hb4 HR3 hr3
  dsimp only
  go_wp2_with fail
  have hlq : (l.take q).length = q := by simp; omega
  have hlp : (l.take p).length = p := by simp; omega
  refine (copyEntries A4 c4 q (l.take q) hlq.symm w4 (by omega) hr4).mono ?_
  rintro e w5 ⟨A5, c5, rfl, hm5, hb5⟩
  have hm5' := hm5
  have hbw5 := hbw4.trans (hb5.mono hbw4.size)
  have HB5 := Lib.hid hb5
  have HRA4 := Lib.hid hra4
  have HRB4 := Lib.hid hr4
  have hrc : Rd Entry.cells 5 w5 w5.heap.size A5 (l.take q) := hm5'.rd' encEntry.len
  have HC := Lib.hid hrc
  have HM5 := Lib.hid hm5
  have hqc5 : q ≤ c5 := by
    obtain ⟨A', c', e, hc⟩ := hm5.form
    injection e with e1 e2 e3
    subst e3
    omega
  have hbl : Hid (begins (l.take p) l = true) := by
    show _ = _
    have := common_takes l p l.length hpl (Nat.le_refl _)
    rw [List.take_length] at this
    simp only [begins, this, hlp]
    simp; omega
  have hbb : Hid (begins (l.take p) (l.take q) = decide ((p : Int) ≤ (q : Int))) := by
    show _ = _
    simp only [begins, common_takes l p q hpl hql, hlp]
    rw [Bool.eq_iff_iff]; simp; omega
  have hba : Hid (begins (l.take p) (l.take p) = true) := by
    show _ = _
    simp only [begins, common_self]
    simp
  clear hra4 hr4 hb5 hm5 hm5' hrc
  cases turn with
  | false =>
    by_cases hqp : q < p
    · have g1 : (q : Int) < (p : Int) := by omega
      have HL := Lib.hid ((HR4.out.below HB5.out).more HB5.out.size)
      have HRA := Lib.hid ((HRA4.out.below HB5.out).more HB5.out.size)
      have HRB := Lib.hid ((HRB4.out.below HB5.out).more HB5.out.size)
      clear HR4 HRA4 HRB4 HB5 HM5
      have hcs : Hid (common (l.take p) (l.take q) = q) := by show _ = _; rw [common_takes l p q hpl hql]; omega
      have hsc : Hid (common (l.take q) (l.take p) = q) := (common_comm _ _).trans hcs.out
      have hbc : Hid (begins (l.take p) (l.take q) = false) := by
        show _ = _
        simp only [begins, hcs.out, hlp]
        simp <;> omega
      have hse : (((q : Nat) : Int) == ((p : Nat) : Int)) = false := by simp <;> omega
      dsimp only
      go_wp2_with fail
      refine (begins_prog A3 A1 c3 c1 p l.length (l.take p) l hlp.symm rfl _ (by omega) (by omega) (by exact HRA.out) (by exact HL.out)).mono ?_
      rintro e w' ⟨rfl, q1, rfl⟩
      rw [hbl.out]
      dsimp only
      go_wp2_with fail
      refine (begins_prog A3 A4 c3 c4 p q (l.take p) (l.take q) hlp.symm hlq.symm _ (by omega) (by omega) (by exact HRA.out) (by exact HRB.out)).mono ?_
      rintro e w' ⟨rfl, q2, rfl⟩
      rw [hbb.out]
      dsimp only
      go_wp2_with fail
      refine (common_prog A3 A5 c3 c5 p q (l.take p) (l.take q) hlp.symm hlq.symm _ (by omega) (by rw [← hlq.symm]; omega) (by exact HRA.out) (by exact HC.out)).mono ?_
      rintro e w' ⟨rfl, q3, rfl⟩
      rw [hcs.out]
      dsimp only
      go_wp2_with fail
      refine (common_prog A5 A3 c5 c3 q p (l.take q) (l.take p) hlq.symm hlp.symm _ (by rw [← hlq.symm]; omega) (by omega) (by exact HC.out) (by exact HRA.out)).mono ?_
      rintro e w' ⟨rfl, q4, rfl⟩
      rw [hsc.out]
      dsimp only
      go_wp2_with fail
      refine (agree_prog A3 A5 c3 c5 p q m (l.take p) (l.take q) hlp.symm hlq.symm _ (by omega) (by rw [← hlq.symm]; omega) (by exact HRA.out) (by exact HC.out)).mono ?_
      rintro e w' ⟨rfl, q5, rfl⟩
      have hag : agree (l.take p) (l.take q) m = decide (0 ≤ m ∧ m ≤ (q : Nat)) := by unfold agree; rw [hcs.out]
      rw [hag]
      have HBC := Lib.hid hbc.out
      have HBA := Lib.hid hba.out
      clear hag hcs hsc hbl hbb hbc hba HL HRB
      by_cases hm0 : 0 ≤ m
      · by_cases hm1 : m ≤ ((q : Nat) : Int)
        · rw [show decide (0 ≤ m ∧ m ≤ ((q : Nat) : Int)) = true by simp; omega]
          have hm0' : decide (0 ≤ m) = true := decide_eq_true hm0
          have hm1' : decide (m ≤ ((q : Nat) : Int)) = true := decide_eq_true hm1
          dsimp only
          go_wp2_with fail
          refine (begins_prog A3 A5 c3 c5 p q (l.take p) (l.take q) hlp.symm hlq.symm _ (by omega) (by rw [← hlq.symm]; omega) (by exact HRA.out) (by exact HC.out)).mono ?_
          rintro e w' ⟨rfl, q6, rfl⟩
          rw [HBC.out]
          dsimp only
          go_wp2_with fail
          refine (begins_prog A3 A3 c3 c3 p p (l.take p) (l.take p) hlp.symm hlp.symm _ (by omega) (by omega) (by exact HRA.out) (by exact HRA.out)).mono ?_
          rintro e w' ⟨rfl, q7, rfl⟩
          rw [HBA.out]
          dsimp only
          go_wp2_with fail
          go_ret
          exact ⟨rfl, below_drewN hbw5 _⟩
        · rw [show decide (0 ≤ m ∧ m ≤ ((q : Nat) : Int)) = false by simp; omega]
          have hm0' : decide (0 ≤ m) = true := decide_eq_true hm0
          have hm1' : decide (m ≤ ((q : Nat) : Int)) = false := decide_eq_false hm1
          dsimp only
          go_wp2_with fail
          refine (begins_prog A3 A5 c3 c5 p q (l.take p) (l.take q) hlp.symm hlq.symm _ (by omega) (by rw [← hlq.symm]; omega) (by exact HRA.out) (by exact HC.out)).mono ?_
          rintro e w' ⟨rfl, q6, rfl⟩
          rw [HBC.out]
          dsimp only
          go_wp2_with fail
          refine (begins_prog A3 A3 c3 c3 p p (l.take p) (l.take p) hlp.symm hlp.symm _ (by omega) (by omega) (by exact HRA.out) (by exact HRA.out)).mono ?_
          rintro e w' ⟨rfl, q7, rfl⟩
          rw [HBA.out]
          dsimp only
          go_wp2_with fail
          go_ret
          exact ⟨rfl, below_drewN hbw5 _⟩
      · rw [show decide (0 ≤ m ∧ m ≤ ((q : Nat) : Int)) = false by simp; omega]
        have hm0' : decide (0 ≤ m) = false := decide_eq_false hm0
        dsimp only
        go_wp2_with fail
        refine (begins_prog A3 A5 c3 c5 p q (l.take p) (l.take q) hlp.symm hlq.symm _ (by omega) (by rw [← hlq.symm]; omega) (by exact HRA.out) (by exact HC.out)).mono ?_
        rintro e w' ⟨rfl, q6, rfl⟩
        rw [HBC.out]
        dsimp only
        go_wp2_with fail
        refine (begins_prog A3 A3 c3 c3 p p (l.take p) (l.take p) hlp.symm hlp.symm _ (by omega) (by omega) (by exact HRA.out) (by exact HRA.out)).mono ?_
        rintro e w' ⟨rfl, q7, rfl⟩
        rw [HBA.out]
        dsimp only
        go_wp2_with fail
        go_ret
        exact ⟨rfl, below_drewN hbw5 _⟩
    · have g1 : ¬ (q : Int) < (p : Int) := by omega
      have HL := Lib.hid ((HR4.out.below HB5.out).more HB5.out.size)
      have HRA := Lib.hid ((HRA4.out.below HB5.out).more HB5.out.size)
      have HRB := Lib.hid ((HRB4.out.below HB5.out).more HB5.out.size)
      clear HR4 HRA4 HRB4 HB5 HM5
      have hcs : Hid (common (l.take p) (l.take q) = p) := by show _ = _; rw [common_takes l p q hpl hql]; omega
      have hsc : Hid (common (l.take q) (l.take p) = p) := (common_comm _ _).trans hcs.out
      have hbc : Hid (begins (l.take p) (l.take q) = true) := by
        show _ = _
        simp only [begins, hcs.out, hlp]
        simp <;> omega
      have hse : (((p : Nat) : Int) == ((p : Nat) : Int)) = true := by simp <;> omega
      dsimp only
      go_wp2_with fail
      refine (begins_prog A3 A1 c3 c1 p l.length (l.take p) l hlp.symm rfl _ (by omega) (by omega) (by exact HRA.out) (by exact HL.out)).mono ?_
      rintro e w' ⟨rfl, q1, rfl⟩
      rw [hbl.out]
      dsimp only
      go_wp2_with fail
      refine (begins_prog A3 A4 c3 c4 p q (l.take p) (l.take q) hlp.symm hlq.symm _ (by omega) (by omega) (by exact HRA.out) (by exact HRB.out)).mono ?_
      rintro e w' ⟨rfl, q2, rfl⟩
      rw [hbb.out]
      dsimp only
      go_wp2_with fail
      refine (common_prog A3 A5 c3 c5 p q (l.take p) (l.take q) hlp.symm hlq.symm _ (by omega) (by rw [← hlq.symm]; omega) (by exact HRA.out) (by exact HC.out)).mono ?_
      rintro e w' ⟨rfl, q3, rfl⟩
      rw [hcs.out]
      dsimp only
      go_wp2_with fail
      refine (common_prog A5 A3 c5 c3 q p (l.take q) (l.take p) hlq.symm hlp.symm _ (by rw [← hlq.symm]; omega) (by omega) (by exact HC.out) (by exact HRA.out)).mono ?_
      rintro e w' ⟨rfl, q4, rfl⟩
      rw [hsc.out]
      dsimp only
      go_wp2_with fail
      refine (agree_prog A3 A5 c3 c5 p q m (l.take p) (l.take q) hlp.symm hlq.symm _ (by omega) (by rw [← hlq.symm]; omega) (by exact HRA.out) (by exact HC.out)).mono ?_
      rintro e w' ⟨rfl, q5, rfl⟩
      have hag : agree (l.take p) (l.take q) m = decide (0 ≤ m ∧ m ≤ (p : Nat)) := by unfold agree; rw [hcs.out]
      rw [hag]
      have HBC := Lib.hid hbc.out
      have HBA := Lib.hid hba.out
      clear hag hcs hsc hbl hbb hbc hba HL HRB
      by_cases hm0 : 0 ≤ m
      · by_cases hm1 : m ≤ ((p : Nat) : Int)
        · rw [show decide (0 ≤ m ∧ m ≤ ((p : Nat) : Int)) = true by simp; omega]
          have hm0' : decide (0 ≤ m) = true := decide_eq_true hm0
          have hm1' : decide (m ≤ ((p : Nat) : Int)) = true := decide_eq_true hm1
          dsimp only
          go_wp2_with fail
          refine (begins_prog A3 A5 c3 c5 p q (l.take p) (l.take q) hlp.symm hlq.symm _ (by omega) (by rw [← hlq.symm]; omega) (by exact HRA.out) (by exact HC.out)).mono ?_
          rintro e w' ⟨rfl, q6, rfl⟩
          rw [HBC.out]
          dsimp only
          go_wp2_with fail
          refine (begins_prog A3 A3 c3 c3 p p (l.take p) (l.take p) hlp.symm hlp.symm _ (by omega) (by omega) (by exact HRA.out) (by exact HRA.out)).mono ?_
          rintro e w' ⟨rfl, q7, rfl⟩
          rw [HBA.out]
          dsimp only
          go_wp2_with fail
          go_ret
          exact ⟨rfl, below_drewN hbw5 _⟩
        · rw [show decide (0 ≤ m ∧ m ≤ ((p : Nat) : Int)) = false by simp; omega]
          have hm0' : decide (0 ≤ m) = true := decide_eq_true hm0
          have hm1' : decide (m ≤ ((p : Nat) : Int)) = false := decide_eq_false hm1
          dsimp only
          go_wp2_with fail
          refine (begins_prog A3 A5 c3 c5 p q (l.take p) (l.take q) hlp.symm hlq.symm _ (by omega) (by rw [← hlq.symm]; omega) (by exact HRA.out) (by exact HC.out)).mono ?_
          rintro e w' ⟨rfl, q6, rfl⟩
          rw [HBC.out]
          dsimp only
          go_wp2_with fail
          refine (begins_prog A3 A3 c3 c3 p p (l.take p) (l.take p) hlp.symm hlp.symm _ (by omega) (by omega) (by exact HRA.out) (by exact HRA.out)).mono ?_
          rintro e w' ⟨rfl, q7, rfl⟩
          rw [HBA.out]
          dsimp only
          go_wp2_with fail
          go_ret
          exact ⟨rfl, below_drewN hbw5 _⟩
      · rw [show decide (0 ≤ m ∧ m ≤ ((p : Nat) : Int)) = false by simp; omega]
        have hm0' : decide (0 ≤ m) = false := decide_eq_false hm0
        dsimp only
        go_wp2_with fail
        refine (begins_prog A3 A5 c3 c5 p q (l.take p) (l.take q) hlp.symm hlq.symm _ (by omega) (by rw [← hlq.symm]; omega) (by exact HRA.out) (by exact HC.out)).mono ?_
        rintro e w' ⟨rfl, q6, rfl⟩
        rw [HBC.out]
        dsimp only
        go_wp2_with fail
        refine (begins_prog A3 A3 c3 c3 p p (l.take p) (l.take p) hlp.symm hlp.symm _ (by omega) (by omega) (by exact HRA.out) (by exact HRA.out)).mono ?_
        rintro e w' ⟨rfl, q7, rfl⟩
        rw [HBA.out]
        dsimp only
        go_wp2_with fail
        go_ret
        exact ⟨rfl, below_drewN hbw5 _⟩
  | true =>
    by_cases hq0 : q = 0
    · subst hq0
      by_cases hqp : 0 < p
      · have g1 : (0 : Int) < (p : Int) := by omega
        have HL := Lib.hid ((HR4.out.below HB5.out).more HB5.out.size)
        have HRA := Lib.hid ((HRA4.out.below HB5.out).more HB5.out.size)
        have HRB := Lib.hid ((HRB4.out.below HB5.out).more HB5.out.size)
        clear HR4 HRA4 HRB4 HB5 HM5
        have hcs : Hid (common (l.take p) (l.take 0) = 0) := by show _ = _; rw [common_takes l p 0 hpl hql]; omega
        have hsc : Hid (common (l.take 0) (l.take p) = 0) := (common_comm _ _).trans hcs.out
        have hbc : Hid (begins (l.take p) (l.take 0) = false) := by
          show _ = _
          simp only [begins, hcs.out, hlp]
          simp <;> omega
        have hse : ((0 : Int) == (p : Int)) = false := by simp; omega
        dsimp only
        go_wp2_with fail
        refine (begins_prog A3 A1 c3 c1 p l.length (l.take p) l hlp.symm rfl _ (by omega) (by omega) (by exact HRA.out) (by exact HL.out)).mono ?_
        rintro e w' ⟨rfl, q1, rfl⟩
        rw [hbl.out]
        dsimp only
        go_wp2_with fail
        refine (begins_prog A3 A4 c3 c4 p 0 (l.take p) (l.take 0) hlp.symm hlq.symm _ (by omega) (by omega) (by exact HRA.out) (by exact HRB.out)).mono ?_
        rintro e w' ⟨rfl, q2, rfl⟩
        rw [hbb.out]
        dsimp only
        go_wp2_with fail
        refine (common_prog A3 A5 c3 c5 p 0 (l.take p) (l.take 0) hlp.symm hlq.symm _ (by omega) (by rw [← hlq.symm]; omega) (by exact HRA.out) (by exact HC.out)).mono ?_
        rintro e w' ⟨rfl, q3, rfl⟩
        rw [hcs.out]
        dsimp only
        go_wp2_with fail
        refine (common_prog A5 A3 c5 c3 0 p (l.take 0) (l.take p) hlq.symm hlp.symm _ (by rw [← hlq.symm]; omega) (by omega) (by exact HC.out) (by exact HRA.out)).mono ?_
        rintro e w' ⟨rfl, q4, rfl⟩
        rw [hsc.out]
        dsimp only
        go_wp2_with fail
        refine (agree_prog A3 A5 c3 c5 p 0 m (l.take p) (l.take 0) hlp.symm hlq.symm _ (by omega) (by rw [← hlq.symm]; omega) (by exact HRA.out) (by exact HC.out)).mono ?_
        rintro e w' ⟨rfl, q5, rfl⟩
        have hag : agree (l.take p) (l.take 0) m = decide (0 ≤ m ∧ m ≤ (0 : Nat)) := by unfold agree; rw [hcs.out]
        rw [hag]
        have HBC := Lib.hid hbc.out
        have HBA := Lib.hid hba.out
        clear hag hcs hsc hbl hbb hbc hba HL HRB
        by_cases hm0 : 0 ≤ m
        · by_cases hm1 : m ≤ ((0 : Nat) : Int)
          · rw [show decide (0 ≤ m ∧ m ≤ ((0 : Nat) : Int)) = true by simp; omega]
            have hm0' : decide (0 ≤ m) = true := decide_eq_true hm0
            have hm1' : decide (m ≤ (0 : Int)) = true := decide_eq_true hm1
            dsimp only
            go_wp2_with fail
            refine (begins_prog A3 A5 c3 c5 p 0 (l.take p) (l.take 0) hlp.symm hlq.symm _ (by omega) (by rw [← hlq.symm]; omega) (by exact HRA.out) (by exact HC.out)).mono ?_
            rintro e w' ⟨rfl, q6, rfl⟩
            rw [HBC.out]
            dsimp only
            go_wp2_with fail
            refine (begins_prog A3 A3 c3 c3 p p (l.take p) (l.take p) hlp.symm hlp.symm _ (by omega) (by omega) (by exact HRA.out) (by exact HRA.out)).mono ?_
            rintro e w' ⟨rfl, q7, rfl⟩
            rw [HBA.out]
            dsimp only
            go_wp2_with fail
            go_ret
            exact ⟨rfl, below_drewN hbw5 _⟩
          · rw [show decide (0 ≤ m ∧ m ≤ ((0 : Nat) : Int)) = false by simp; omega]
            have hm0' : decide (0 ≤ m) = true := decide_eq_true hm0
            have hm1' : decide (m ≤ (0 : Int)) = false := decide_eq_false hm1
            dsimp only
            go_wp2_with fail
            refine (begins_prog A3 A5 c3 c5 p 0 (l.take p) (l.take 0) hlp.symm hlq.symm _ (by omega) (by rw [← hlq.symm]; omega) (by exact HRA.out) (by exact HC.out)).mono ?_
            rintro e w' ⟨rfl, q6, rfl⟩
            rw [HBC.out]
            dsimp only
            go_wp2_with fail
            refine (begins_prog A3 A3 c3 c3 p p (l.take p) (l.take p) hlp.symm hlp.symm _ (by omega) (by omega) (by exact HRA.out) (by exact HRA.out)).mono ?_
            rintro e w' ⟨rfl, q7, rfl⟩
            rw [HBA.out]
            dsimp only
            go_wp2_with fail
            go_ret
            exact ⟨rfl, below_drewN hbw5 _⟩
        · rw [show decide (0 ≤ m ∧ m ≤ ((0 : Nat) : Int)) = false by simp; omega]
          have hm0' : decide (0 ≤ m) = false := decide_eq_false hm0
          dsimp only
          go_wp2_with fail
          refine (begins_prog A3 A5 c3 c5 p 0 (l.take p) (l.take 0) hlp.symm hlq.symm _ (by omega) (by rw [← hlq.symm]; omega) (by exact HRA.out) (by exact HC.out)).mono ?_
          rintro e w' ⟨rfl, q6, rfl⟩
          rw [HBC.out]
          dsimp only
          go_wp2_with fail
          refine (begins_prog A3 A3 c3 c3 p p (l.take p) (l.take p) hlp.symm hlp.symm _ (by omega) (by omega) (by exact HRA.out) (by exact HRA.out)).mono ?_
          rintro e w' ⟨rfl, q7, rfl⟩
          rw [HBA.out]
          dsimp only
          go_wp2_with fail
          go_ret
          exact ⟨rfl, below_drewN hbw5 _⟩
      · have hp0' : p = 0 := by omega
        subst hp0'
        have HL := Lib.hid ((HR4.out.below HB5.out).more HB5.out.size)
        have HRA := Lib.hid ((HRA4.out.below HB5.out).more HB5.out.size)
        have HRB := Lib.hid ((HRB4.out.below HB5.out).more HB5.out.size)
        clear HR4 HRA4 HRB4 HB5 HM5
        have hcs : Hid (common (l.take 0) (l.take 0) = 0) := by show _ = _; rw [common_takes l 0 0 hpl hql]; omega
        have hsc : Hid (common (l.take 0) (l.take 0) = 0) := (common_comm _ _).trans hcs.out
        have hbc : Hid (begins (l.take 0) (l.take 0) = true) := by
          show _ = _
          simp only [begins, hcs.out, hlp]
          simp <;> omega
        have hse : (((0 : Nat) : Int) == ((0 : Nat) : Int)) = true := by simp <;> omega
        dsimp only
        go_wp2_with fail
        refine (begins_prog A3 A1 c3 c1 0 l.length (l.take 0) l hlp.symm rfl _ (by omega) (by omega) (by exact HRA.out) (by exact HL.out)).mono ?_
        rintro e w' ⟨rfl, q1, rfl⟩
        rw [hbl.out]
        dsimp only
        go_wp2_with fail
        refine (begins_prog A3 A4 c3 c4 0 0 (l.take 0) (l.take 0) hlp.symm hlq.symm _ (by omega) (by omega) (by exact HRA.out) (by exact HRB.out)).mono ?_
        rintro e w' ⟨rfl, q2, rfl⟩
        rw [hbb.out]
        dsimp only
        go_wp2_with fail
        refine (common_prog A3 A5 c3 c5 0 0 (l.take 0) (l.take 0) hlp.symm hlq.symm _ (by omega) (by rw [← hlq.symm]; omega) (by exact HRA.out) (by exact HC.out)).mono ?_
        rintro e w' ⟨rfl, q3, rfl⟩
        rw [hcs.out]
        dsimp only
        go_wp2_with fail
        refine (common_prog A5 A3 c5 c3 0 0 (l.take 0) (l.take 0) hlq.symm hlp.symm _ (by rw [← hlq.symm]; omega) (by omega) (by exact HC.out) (by exact HRA.out)).mono ?_
        rintro e w' ⟨rfl, q4, rfl⟩
        rw [hsc.out]
        dsimp only
        go_wp2_with fail
        refine (agree_prog A3 A5 c3 c5 0 0 m (l.take 0) (l.take 0) hlp.symm hlq.symm _ (by omega) (by rw [← hlq.symm]; omega) (by exact HRA.out) (by exact HC.out)).mono ?_
        rintro e w' ⟨rfl, q5, rfl⟩
        have hag : agree (l.take 0) (l.take 0) m = decide (0 ≤ m ∧ m ≤ (0 : Nat)) := by unfold agree; rw [hcs.out]
        rw [hag]
        have HBC := Lib.hid hbc.out
        have HBA := Lib.hid hba.out
        clear hag hcs hsc hbl hbb hbc hba HL HRB
        by_cases hm0 : 0 ≤ m
        · by_cases hm1 : m ≤ ((0 : Nat) : Int)
          · rw [show decide (0 ≤ m ∧ m ≤ ((0 : Nat) : Int)) = true by simp; omega]
            have hm0' : decide (0 ≤ m) = true := decide_eq_true hm0
            have hm1' : decide (m ≤ (0 : Int)) = true := decide_eq_true hm1
            dsimp only
            go_wp2_with fail
            refine (begins_prog A3 A5 c3 c5 0 0 (l.take 0) (l.take 0) hlp.symm hlq.symm _ (by omega) (by rw [← hlq.symm]; omega) (by exact HRA.out) (by exact HC.out)).mono ?_
            rintro e w' ⟨rfl, q6, rfl⟩
            rw [HBC.out]
            dsimp only
            go_wp2_with fail
            refine (begins_prog A3 A3 c3 c3 0 0 (l.take 0) (l.take 0) hlp.symm hlp.symm _ (by omega) (by omega) (by exact HRA.out) (by exact HRA.out)).mono ?_
            rintro e w' ⟨rfl, q7, rfl⟩
            rw [HBA.out]
            dsimp only
            go_wp2_with fail
            go_ret
            exact ⟨rfl, below_drewN hbw5 _⟩
          · rw [show decide (0 ≤ m ∧ m ≤ ((0 : Nat) : Int)) = false by simp; omega]
            have hm0' : decide (0 ≤ m) = true := decide_eq_true hm0
            have hm1' : decide (m ≤ (0 : Int)) = false := decide_eq_false hm1
            dsimp only
            go_wp2_with fail
            refine (begins_prog A3 A5 c3 c5 0 0 (l.take 0) (l.take 0) hlp.symm hlq.symm _ (by omega) (by rw [← hlq.symm]; omega) (by exact HRA.out) (by exact HC.out)).mono ?_
            rintro e w' ⟨rfl, q6, rfl⟩
            rw [HBC.out]
            dsimp only
            go_wp2_with fail
            refine (begins_prog A3 A3 c3 c3 0 0 (l.take 0) (l.take 0) hlp.symm hlp.symm _ (by omega) (by omega) (by exact HRA.out) (by exact HRA.out)).mono ?_
            rintro e w' ⟨rfl, q7, rfl⟩
            rw [HBA.out]
            dsimp only
            go_wp2_with fail
            go_ret
            exact ⟨rfl, below_drewN hbw5 _⟩
        · rw [show decide (0 ≤ m ∧ m ≤ ((0 : Nat) : Int)) = false by simp; omega]
          have hm0' : decide (0 ≤ m) = false := decide_eq_false hm0
          dsimp only
          go_wp2_with fail
          refine (begins_prog A3 A5 c3 c5 0 0 (l.take 0) (l.take 0) hlp.symm hlq.symm _ (by omega) (by rw [← hlq.symm]; omega) (by exact HRA.out) (by exact HC.out)).mono ?_
          rintro e w' ⟨rfl, q6, rfl⟩
          rw [HBC.out]
          dsimp only
          go_wp2_with fail
          refine (begins_prog A3 A3 c3 c3 0 0 (l.take 0) (l.take 0) hlp.symm hlp.symm _ (by omega) (by omega) (by exact HRA.out) (by exact HRA.out)).mono ?_
          rintro e w' ⟨rfl, q7, rfl⟩
          rw [HBA.out]
          dsimp only
          go_wp2_with fail
          go_ret
          exact ⟨rfl, below_drewN hbw5 _⟩
    · obtain ⟨r, rfl⟩ : ∃ r, q = r + 1 := ⟨q - 1, by omega⟩
      have hrl : r < l.length := by omega
      obtain ⟨ad, rfl, had, hca⟩ := HC.out.at_ (i := r) (by omega)
      have hmn : l[r].number ≠ -1 := by
        have := (baseE_zero (HG.out.base (List.getElem_mem hrl))).2.2.1
        omega
      obtain ⟨d0, d1, d2, d3, d4⟩ := hca.five
      have hlt4 := (HM5.out.lt ad.block rfl).1
      have hfz : w5.frozen? ⟨(ad.add (r * 5)).block, (ad.add (r * 5)).off + 1, none⟩ = false := by
        rcases HM5.out.2 with ⟨e, _⟩ | ⟨g, cap, cur, e, _, hgg, _⟩
        · cases e
        · injection e with e1 e2 e3
          injection e1 with e1
          subst e1
          rw [block_add]
          exact frozen_of_row _ _ _ _ _ hgg
      have hC2 := HC.out.mark hrl
      obtain ⟨W6, hW6⟩ : ∃ W6, W6 = w5.setCell ⟨(ad.add (r * 5)).block, (ad.add (r * 5)).off + 1, none⟩ (.int .i64 (-1)) := ⟨_, rfl⟩
      rw [← hW6] at hC2
      have hb46 : Below w4.heap.size w4 W6 := by rw [hW6]; exact HB5.out.setCell (p := ⟨(ad.add (r * 5)).block, (ad.add (r * 5)).off + 1, none⟩) (by rw [block_add]; exact hlt4) _
      have hbw6 : Below w.heap.size w W6 := hbw4.trans (hb46.mono hbw4.size)
      have hs6 : W6.heap.size = w5.heap.size := by rw [hW6]; simp [World.setCell]
      have HC2 := Lib.hid (hC2.more (Nat.le_of_eq hs6.symm))
      have hml := marked_length l r hrl
      clear HC hC2 hca had d0 d2 d3 d4 HM5 HB5
      have HC := HC2
      have hr1 : (r : Int) < (r : Int) + 1 := by omega
      by_cases hqp : r + 1 < p
      · have g1 : (r : Int) + 1 ≤ (p : Int) := by omega
        have g2 : (r : Int) + 1 < (p : Int) := by omega
        have HL := Lib.hid ((HR4.out.below hb46).more hb46.size)
        have HRA := Lib.hid ((HRA4.out.below hb46).more hb46.size)
        have HRB := Lib.hid ((HRB4.out.below hb46).more hb46.size)
        have HMN := Lib.hid (common_marked l p r hpl hrl hmn)
        clear HR4 HRA4 HRB4 hb46 hmn
        have hcs : Hid (common (l.take p) (marked l r hrl) = r) := by show _ = _; rw [HMN.out]; omega
        have hsc : Hid (common (marked l r hrl) (l.take p) = r) := (common_comm _ _).trans hcs.out
        have hbc : Hid (begins (l.take p) (marked l r hrl) = false) := by
          show _ = _
          simp only [begins, hcs.out, hlp]
          simp <;> omega
        have hse : (((r : Nat) : Int) == ((p : Nat) : Int)) = false := by simp <;> omega
        dsimp only
        go_wp2_with fail
        rw [← hW6]
        clear hW6
        refine (begins_prog A3 A1 c3 c1 p l.length (l.take p) l hlp.symm rfl _ (by omega) (by omega) (by exact HRA.out) (by exact HL.out)).mono ?_
        rintro e w' ⟨rfl, q1, rfl⟩
        rw [hbl.out]
        dsimp only
        go_wp2_with fail
        refine (begins_prog A3 A4 c3 c4 p (r + 1) (l.take p) (l.take (r + 1)) hlp.symm hlq.symm _ (by omega) (by omega) (by exact HRA.out) (by exact HRB.out)).mono ?_
        rintro e w' ⟨rfl, q2, rfl⟩
        rw [hbb.out]
        dsimp only
        go_wp2_with fail
        refine (common_prog A3 (some ad) c3 c5 p (r + 1) (l.take p) (marked l r hrl) hlp.symm hml.symm _ (by omega) (by rw [← hml.symm]; omega) (by exact HRA.out) (by exact HC.out)).mono ?_
        rintro e w' ⟨rfl, q3, rfl⟩
        rw [hcs.out]
        dsimp only
        go_wp2_with fail
        refine (common_prog (some ad) A3 c5 c3 (r + 1) p (marked l r hrl) (l.take p) hml.symm hlp.symm _ (by rw [← hml.symm]; omega) (by omega) (by exact HC.out) (by exact HRA.out)).mono ?_
        rintro e w' ⟨rfl, q4, rfl⟩
        rw [hsc.out]
        dsimp only
        go_wp2_with fail
        refine (agree_prog A3 (some ad) c3 c5 p (r + 1) m (l.take p) (marked l r hrl) hlp.symm hml.symm _ (by omega) (by rw [← hml.symm]; omega) (by exact HRA.out) (by exact HC.out)).mono ?_
        rintro e w' ⟨rfl, q5, rfl⟩
        have hag : agree (l.take p) (marked l r hrl) m = decide (0 ≤ m ∧ m ≤ (r : Nat)) := by unfold agree; rw [hcs.out]
        rw [hag]
        have HBC := Lib.hid hbc.out
        have HBA := Lib.hid hba.out
        clear hag hcs hsc hbl hbb hbc hba HL HRB
        by_cases hm0 : 0 ≤ m
        · by_cases hm1 : m ≤ ((r : Nat) : Int)
          · rw [show decide (0 ≤ m ∧ m ≤ ((r : Nat) : Int)) = true by simp; omega]
            have hm0' : decide (0 ≤ m) = true := decide_eq_true hm0
            have hm1' : decide (m ≤ ((r : Nat) : Int)) = true := decide_eq_true hm1
            dsimp only
            go_wp2_with fail
            refine (begins_prog A3 (some ad) c3 c5 p (r + 1) (l.take p) (marked l r hrl) hlp.symm hml.symm _ (by omega) (by rw [← hml.symm]; omega) (by exact HRA.out) (by exact HC.out)).mono ?_
            rintro e w' ⟨rfl, q6, rfl⟩
            rw [HBC.out]
            dsimp only
            go_wp2_with fail
            refine (begins_prog A3 A3 c3 c3 p p (l.take p) (l.take p) hlp.symm hlp.symm _ (by omega) (by omega) (by exact HRA.out) (by exact HRA.out)).mono ?_
            rintro e w' ⟨rfl, q7, rfl⟩
            rw [HBA.out]
            dsimp only
            go_wp2_with fail
            go_ret
            exact ⟨rfl, below_drewN hbw6 _⟩
          · rw [show decide (0 ≤ m ∧ m ≤ ((r : Nat) : Int)) = false by simp; omega]
            have hm0' : decide (0 ≤ m) = true := decide_eq_true hm0
            have hm1' : decide (m ≤ ((r : Nat) : Int)) = false := decide_eq_false hm1
            dsimp only
            go_wp2_with fail
            refine (begins_prog A3 (some ad) c3 c5 p (r + 1) (l.take p) (marked l r hrl) hlp.symm hml.symm _ (by omega) (by rw [← hml.symm]; omega) (by exact HRA.out) (by exact HC.out)).mono ?_
            rintro e w' ⟨rfl, q6, rfl⟩
            rw [HBC.out]
            dsimp only
            go_wp2_with fail
            refine (begins_prog A3 A3 c3 c3 p p (l.take p) (l.take p) hlp.symm hlp.symm _ (by omega) (by omega) (by exact HRA.out) (by exact HRA.out)).mono ?_
            rintro e w' ⟨rfl, q7, rfl⟩
            rw [HBA.out]
            dsimp only
            go_wp2_with fail
            go_ret
            exact ⟨rfl, below_drewN hbw6 _⟩
        · rw [show decide (0 ≤ m ∧ m ≤ ((r : Nat) : Int)) = false by simp; omega]
          have hm0' : decide (0 ≤ m) = false := decide_eq_false hm0
          dsimp only
          go_wp2_with fail
          refine (begins_prog A3 (some ad) c3 c5 p (r + 1) (l.take p) (marked l r hrl) hlp.symm hml.symm _ (by omega) (by rw [← hml.symm]; omega) (by exact HRA.out) (by exact HC.out)).mono ?_
          rintro e w' ⟨rfl, q6, rfl⟩
          rw [HBC.out]
          dsimp only
          go_wp2_with fail
          refine (begins_prog A3 A3 c3 c3 p p (l.take p) (l.take p) hlp.symm hlp.symm _ (by omega) (by omega) (by exact HRA.out) (by exact HRA.out)).mono ?_
          rintro e w' ⟨rfl, q7, rfl⟩
          rw [HBA.out]
          dsimp only
          go_wp2_with fail
          go_ret
          exact ⟨rfl, below_drewN hbw6 _⟩
      by_cases hpe : p = r + 1
      · subst hpe
        have g1 : ¬ (r : Int) + 1 < (r : Int) + 1 := by omega
        have HL := Lib.hid ((HR4.out.below hb46).more hb46.size)
        have HRA := Lib.hid ((HRA4.out.below hb46).more hb46.size)
        have HRB := Lib.hid ((HRB4.out.below hb46).more hb46.size)
        have HMN := Lib.hid (common_marked l (r + 1) r hpl hrl hmn)
        clear HR4 HRA4 HRB4 hb46 hmn
        have hcs : Hid (common (l.take (r + 1)) (marked l r hrl) = r) := by show _ = _; rw [HMN.out]; omega
        have hsc : Hid (common (marked l r hrl) (l.take (r + 1)) = r) := (common_comm _ _).trans hcs.out
        have hbc : Hid (begins (l.take (r + 1)) (marked l r hrl) = false) := by
          show _ = _
          simp only [begins, hcs.out, hlp]
          simp <;> omega
        have hse : ((r : Int) == (r : Int) + 1) = false := beq_false_of_ne (by omega)
        dsimp only
        go_wp2_with fail
        rw [← hW6]
        clear hW6
        refine (begins_prog A3 A1 c3 c1 (r + 1) l.length (l.take (r + 1)) l hlp.symm rfl _ (by omega) (by omega) (by exact HRA.out) (by exact HL.out)).mono ?_
        rintro e w' ⟨rfl, q1, rfl⟩
        rw [hbl.out]
        dsimp only
        go_wp2_with fail
        refine (begins_prog A3 A4 c3 c4 (r + 1) (r + 1) (l.take (r + 1)) (l.take (r + 1)) hlp.symm hlq.symm _ (by omega) (by omega) (by exact HRA.out) (by exact HRB.out)).mono ?_
        rintro e w' ⟨rfl, q2, rfl⟩
        rw [hbb.out]
        dsimp only
        go_wp2_with fail
        refine (common_prog A3 (some ad) c3 c5 (r + 1) (r + 1) (l.take (r + 1)) (marked l r hrl) hlp.symm hml.symm _ (by omega) (by rw [← hml.symm]; omega) (by exact HRA.out) (by exact HC.out)).mono ?_
        rintro e w' ⟨rfl, q3, rfl⟩
        rw [hcs.out]
        dsimp only
        go_wp2_with fail
        refine (common_prog (some ad) A3 c5 c3 (r + 1) (r + 1) (marked l r hrl) (l.take (r + 1)) hml.symm hlp.symm _ (by rw [← hml.symm]; omega) (by omega) (by exact HC.out) (by exact HRA.out)).mono ?_
        rintro e w' ⟨rfl, q4, rfl⟩
        rw [hsc.out]
        dsimp only
        go_wp2_with fail
        refine (agree_prog A3 (some ad) c3 c5 (r + 1) (r + 1) m (l.take (r + 1)) (marked l r hrl) hlp.symm hml.symm _ (by omega) (by rw [← hml.symm]; omega) (by exact HRA.out) (by exact HC.out)).mono ?_
        rintro e w' ⟨rfl, q5, rfl⟩
        have hag : agree (l.take (r + 1)) (marked l r hrl) m = decide (0 ≤ m ∧ m ≤ (r : Nat)) := by unfold agree; rw [hcs.out]
        rw [hag]
        have HBC := Lib.hid hbc.out
        have HBA := Lib.hid hba.out
        clear hag hcs hsc hbl hbb hbc hba HL HRB
        by_cases hm0 : 0 ≤ m
        · by_cases hm1 : m ≤ ((r : Nat) : Int)
          · rw [show decide (0 ≤ m ∧ m ≤ ((r : Nat) : Int)) = true by simp; omega]
            have hm0' : decide (0 ≤ m) = true := decide_eq_true hm0
            have hm1' : decide (m ≤ ((r : Nat) : Int)) = true := decide_eq_true hm1
            dsimp only
            go_wp2_with fail
            refine (begins_prog A3 (some ad) c3 c5 (r + 1) (r + 1) (l.take (r + 1)) (marked l r hrl) hlp.symm hml.symm _ (by omega) (by rw [← hml.symm]; omega) (by exact HRA.out) (by exact HC.out)).mono ?_
            rintro e w' ⟨rfl, q6, rfl⟩
            rw [HBC.out]
            dsimp only
            go_wp2_with fail
            refine (begins_prog A3 A3 c3 c3 (r + 1) (r + 1) (l.take (r + 1)) (l.take (r + 1)) hlp.symm hlp.symm _ (by omega) (by omega) (by exact HRA.out) (by exact HRA.out)).mono ?_
            rintro e w' ⟨rfl, q7, rfl⟩
            rw [HBA.out]
            dsimp only
            go_wp2_with fail
            go_ret
            exact ⟨rfl, below_drewN hbw6 _⟩
          · rw [show decide (0 ≤ m ∧ m ≤ ((r : Nat) : Int)) = false by simp; omega]
            have hm0' : decide (0 ≤ m) = true := decide_eq_true hm0
            have hm1' : decide (m ≤ ((r : Nat) : Int)) = false := decide_eq_false hm1
            dsimp only
            go_wp2_with fail
            refine (begins_prog A3 (some ad) c3 c5 (r + 1) (r + 1) (l.take (r + 1)) (marked l r hrl) hlp.symm hml.symm _ (by omega) (by rw [← hml.symm]; omega) (by exact HRA.out) (by exact HC.out)).mono ?_
            rintro e w' ⟨rfl, q6, rfl⟩
            rw [HBC.out]
            dsimp only
            go_wp2_with fail
            refine (begins_prog A3 A3 c3 c3 (r + 1) (r + 1) (l.take (r + 1)) (l.take (r + 1)) hlp.symm hlp.symm _ (by omega) (by omega) (by exact HRA.out) (by exact HRA.out)).mono ?_
            rintro e w' ⟨rfl, q7, rfl⟩
            rw [HBA.out]
            dsimp only
            go_wp2_with fail
            go_ret
            exact ⟨rfl, below_drewN hbw6 _⟩
        · rw [show decide (0 ≤ m ∧ m ≤ ((r : Nat) : Int)) = false by simp; omega]
          have hm0' : decide (0 ≤ m) = false := decide_eq_false hm0
          dsimp only
          go_wp2_with fail
          refine (begins_prog A3 (some ad) c3 c5 (r + 1) (r + 1) (l.take (r + 1)) (marked l r hrl) hlp.symm hml.symm _ (by omega) (by rw [← hml.symm]; omega) (by exact HRA.out) (by exact HC.out)).mono ?_
          rintro e w' ⟨rfl, q6, rfl⟩
          rw [HBC.out]
          dsimp only
          go_wp2_with fail
          refine (begins_prog A3 A3 c3 c3 (r + 1) (r + 1) (l.take (r + 1)) (l.take (r + 1)) hlp.symm hlp.symm _ (by omega) (by omega) (by exact HRA.out) (by exact HRA.out)).mono ?_
          rintro e w' ⟨rfl, q7, rfl⟩
          rw [HBA.out]
          dsimp only
          go_wp2_with fail
          go_ret
          exact ⟨rfl, below_drewN hbw6 _⟩
      · have g1 : ¬ (r : Int) + 1 ≤ (p : Int) := by omega
        have g2 : ¬ (r : Int) + 1 < (p : Int) := by omega
        have HL := Lib.hid ((HR4.out.below hb46).more hb46.size)
        have HRA := Lib.hid ((HRA4.out.below hb46).more hb46.size)
        have HRB := Lib.hid ((HRB4.out.below hb46).more hb46.size)
        have HMN := Lib.hid (common_marked l p r hpl hrl hmn)
        clear HR4 HRA4 HRB4 hb46 hmn
        have hcs : Hid (common (l.take p) (marked l r hrl) = p) := by show _ = _; rw [HMN.out]; omega
        have hsc : Hid (common (marked l r hrl) (l.take p) = p) := (common_comm _ _).trans hcs.out
        have hbc : Hid (begins (l.take p) (marked l r hrl) = true) := by
          show _ = _
          simp only [begins, hcs.out, hlp]
          simp <;> omega
        have hse : (((p : Nat) : Int) == ((p : Nat) : Int)) = true := by simp <;> omega
        dsimp only
        go_wp2_with fail
        rw [← hW6]
        clear hW6
        refine (begins_prog A3 A1 c3 c1 p l.length (l.take p) l hlp.symm rfl _ (by omega) (by omega) (by exact HRA.out) (by exact HL.out)).mono ?_
        rintro e w' ⟨rfl, q1, rfl⟩
        rw [hbl.out]
        dsimp only
        go_wp2_with fail
        refine (begins_prog A3 A4 c3 c4 p (r + 1) (l.take p) (l.take (r + 1)) hlp.symm hlq.symm _ (by omega) (by omega) (by exact HRA.out) (by exact HRB.out)).mono ?_
        rintro e w' ⟨rfl, q2, rfl⟩
        rw [hbb.out]
        dsimp only
        go_wp2_with fail
        refine (common_prog A3 (some ad) c3 c5 p (r + 1) (l.take p) (marked l r hrl) hlp.symm hml.symm _ (by omega) (by rw [← hml.symm]; omega) (by exact HRA.out) (by exact HC.out)).mono ?_
        rintro e w' ⟨rfl, q3, rfl⟩
        rw [hcs.out]
        dsimp only
        go_wp2_with fail
        refine (common_prog (some ad) A3 c5 c3 (r + 1) p (marked l r hrl) (l.take p) hml.symm hlp.symm _ (by rw [← hml.symm]; omega) (by omega) (by exact HC.out) (by exact HRA.out)).mono ?_
        rintro e w' ⟨rfl, q4, rfl⟩
        rw [hsc.out]
        dsimp only
        go_wp2_with fail
        refine (agree_prog A3 (some ad) c3 c5 p (r + 1) m (l.take p) (marked l r hrl) hlp.symm hml.symm _ (by omega) (by rw [← hml.symm]; omega) (by exact HRA.out) (by exact HC.out)).mono ?_
        rintro e w' ⟨rfl, q5, rfl⟩
        have hag : agree (l.take p) (marked l r hrl) m = decide (0 ≤ m ∧ m ≤ (p : Nat)) := by unfold agree; rw [hcs.out]
        rw [hag]
        have HBC := Lib.hid hbc.out
        have HBA := Lib.hid hba.out
        clear hag hcs hsc hbl hbb hbc hba HL HRB
        by_cases hm0 : 0 ≤ m
        · by_cases hm1 : m ≤ ((p : Nat) : Int)
          · rw [show decide (0 ≤ m ∧ m ≤ ((p : Nat) : Int)) = true by simp; omega]
            have hm0' : decide (0 ≤ m) = true := decide_eq_true hm0
            have hm1' : decide (m ≤ ((p : Nat) : Int)) = true := decide_eq_true hm1
            dsimp only
            go_wp2_with fail
            refine (begins_prog A3 (some ad) c3 c5 p (r + 1) (l.take p) (marked l r hrl) hlp.symm hml.symm _ (by omega) (by rw [← hml.symm]; omega) (by exact HRA.out) (by exact HC.out)).mono ?_
            rintro e w' ⟨rfl, q6, rfl⟩
            rw [HBC.out]
            dsimp only
            go_wp2_with fail
            refine (begins_prog A3 A3 c3 c3 p p (l.take p) (l.take p) hlp.symm hlp.symm _ (by omega) (by omega) (by exact HRA.out) (by exact HRA.out)).mono ?_
            rintro e w' ⟨rfl, q7, rfl⟩
            rw [HBA.out]
            dsimp only
            go_wp2_with fail
            go_ret
            exact ⟨rfl, below_drewN hbw6 _⟩
          · rw [show decide (0 ≤ m ∧ m ≤ ((p : Nat) : Int)) = false by simp; omega]
            have hm0' : decide (0 ≤ m) = true := decide_eq_true hm0
            have hm1' : decide (m ≤ ((p : Nat) : Int)) = false := decide_eq_false hm1
            dsimp only
            go_wp2_with fail
            refine (begins_prog A3 (some ad) c3 c5 p (r + 1) (l.take p) (marked l r hrl) hlp.symm hml.symm _ (by omega) (by rw [← hml.symm]; omega) (by exact HRA.out) (by exact HC.out)).mono ?_
            rintro e w' ⟨rfl, q6, rfl⟩
            rw [HBC.out]
            dsimp only
            go_wp2_with fail
            refine (begins_prog A3 A3 c3 c3 p p (l.take p) (l.take p) hlp.symm hlp.symm _ (by omega) (by omega) (by exact HRA.out) (by exact HRA.out)).mono ?_
            rintro e w' ⟨rfl, q7, rfl⟩
            rw [HBA.out]
            dsimp only
            go_wp2_with fail
            go_ret
            exact ⟨rfl, below_drewN hbw6 _⟩
        · rw [show decide (0 ≤ m ∧ m ≤ ((p : Nat) : Int)) = false by simp; omega]
          have hm0' : decide (0 ≤ m) = false := decide_eq_false hm0
          dsimp only
          go_wp2_with fail
          refine (begins_prog A3 (some ad) c3 c5 p (r + 1) (l.take p) (marked l r hrl) hlp.symm hml.symm _ (by omega) (by rw [← hml.symm]; omega) (by exact HRA.out) (by exact HC.out)).mono ?_
          rintro e w' ⟨rfl, q6, rfl⟩
          rw [HBC.out]
          dsimp only
          go_wp2_with fail
          refine (begins_prog A3 A3 c3 c3 p p (l.take p) (l.take p) hlp.symm hlp.symm _ (by omega) (by omega) (by exact HRA.out) (by exact HRA.out)).mono ?_
          rintro e w' ⟨rfl, q7, rfl⟩
          rw [HBA.out]
          dsimp only
          go_wp2_with fail
          go_ret
          exact ⟨rfl, below_drewN hbw6 _⟩
theorem order_law (W : World) (A0 : Option Addr) (c0 n0 : Nat) (xs0 : List Raw) (hn0 : n0 = xs0.length) (_ : n0 ≤ c0) (hr0 : Rd Raw.cells 5 W W.heap.size A0 xs0) (hw0 : ∀ x ∈ xs0, x.wf) (hs0 : xs0.length * 48 ≤ 140737488351232)
    (i : Int) (hi : I64 i) (j : Int) (hj : I64 j) (m : Int) (_ : I64 m) (turn : Bool) : Calls Try.prog 9 #[.slice A0 n0 c0, .int .i64 i, .int .i64 j, .int .i64 m, .bool turn] W fun e w' => e = .returned (.bool true) ∧ Below W.heap.size W w' :=
  order_calls A0 c0 n0 xs0 i j m turn hi hj hn0 W (by omega) hw0 hr0
end Go.Proofs.Ythpogbbgdenmeaa
