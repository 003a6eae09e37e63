/- LinearPrefix answers true. Conditions: sizes within the form's own reach. -/
import Derived.Test.YtmfidhlhcochoaaWorst18
import Derived.Test.YtmfidhlhcochoaaChecks18
import Derived.Test.YtmfidhlhcochoaaWorks18
namespace Go.Proofs.Ytmfidhlhcochoaa
open Go.RowKit
set_option linter.unusedVariables false
set_option linter.unusedSimpArgs false

theorem badAt_iff {l : List Call} (hg : GoodL l) {t : Int} : BadAt l t ↔ 0 ≤ t ∧ (∃ x ∈ l, x.fin = t) ∧ best (cutL (t + 1) l) = none := by
  unfold BadAt
  rw [← best_expl (hg.cut _), Decidable.not_not]
/-- What the fold over the answers comes to: the least row that no order explains, or -1. -/
theorem worst_fold {l : List Call} (hg : GoodL l) : ∀ (m : List Call), (∀ x ∈ m, x ∈ l) → (m.foldl (worstStep false l) (-1) = -1 ∧ ∀ x ∈ m, ¬ BadAt l x.fin) ∨ (BadAt l (m.foldl (worstStep false l) (-1)) ∧ ∀ x ∈ m, BadAt l x.fin → m.foldl (worstStep false l) (-1) ≤ x.fin) := by
  intro m
  have hrev : ∀ (r : List Call), (∀ x ∈ r, x ∈ l) → (r.reverse.foldl (worstStep false l) (-1) = -1 ∧ ∀ x ∈ r, ¬ BadAt l x.fin) ∨ (BadAt l (r.reverse.foldl (worstStep false l) (-1)) ∧ ∀ x ∈ r, BadAt l x.fin → r.reverse.foldl (worstStep false l) (-1) ≤ x.fin) := by
    intro r
    induction r with
    | nil => intro _; exact .inl ⟨rfl, fun x h => by simp at h⟩
    | cons y r ih =>
      intro hr
      have hy := hr y (by simp)
      have h := ih fun x hx => hr x (by simp [hx])
      rw [List.reverse_cons, List.foldl_append]
      simp only [List.foldl_cons, List.foldl_nil]
      generalize r.reverse.foldl (worstStep false l) (-1) = b at h ⊢
      unfold worstStep
      simp only [Bool.false_eq_true, false_or]
      by_cases hs : y.fin < 0 ∨ (0 ≤ b ∧ b ≤ y.fin)
      · rw [if_pos hs]
        rcases h with ⟨h1, h2⟩ | ⟨h1, h2⟩
        · refine .inl ⟨h1, fun x hx hb => ?_⟩
          rcases List.mem_cons.1 hx with rfl | hx
          · have := hb.1; omega
          · exact h2 x hx hb
        · refine .inr ⟨h1, fun x hx hb => ?_⟩
          rcases List.mem_cons.1 hx with rfl | hx
          · have := hb.1; omega
          · exact h2 x hx hb
      · rw [if_neg hs]
        by_cases hn : best (cutL (y.fin + 1) l) = none
        · rw [if_pos hn]
          have hby : BadAt l y.fin := (badAt_iff hg).2 ⟨by omega, ⟨y, hy, rfl⟩, hn⟩
          refine .inr ⟨hby, fun x hx hb => ?_⟩
          rcases List.mem_cons.1 hx with rfl | hx
          · exact Int.le_refl _
          · rcases h with ⟨h1, h2⟩ | ⟨h1, h2⟩
            · exact absurd hb (h2 x hx)
            · have := h2 x hx hb; have := h1.1; omega
        · rw [if_neg hn]
          have hby : ¬ BadAt l y.fin := fun q => hn ((badAt_iff hg).1 q).2.2
          rcases h with ⟨h1, h2⟩ | ⟨h1, h2⟩
          · refine .inl ⟨h1, fun x hx hb => ?_⟩
            rcases List.mem_cons.1 hx with rfl | hx
            · exact hby hb
            · exact h2 x hx hb
          · refine .inr ⟨h1, fun x hx hb => ?_⟩
            rcases List.mem_cons.1 hx with rfl | hx
            · exact absurd hb hby
            · exact h2 x hx hb
  intro hm
  have h := hrev m.reverse fun x hx => hm x (by simpa using hx)
  rw [List.reverse_reverse] at h
  simpa using h
/-- Of a history that no order explains Worst is the least bad row. -/
theorem worst_least {l : List Call} (hg : GoodL l) (h : best l = none) : BadAt l (l.foldl (worstStep false l) (-1)) ∧ ∀ t, BadAt l t → l.foldl (worstStep false l) (-1) ≤ t := by
  have hne : ¬ Expl l := fun he => (best_expl hg).2 he h
  obtain ⟨t, ht⟩ := bad_is hg hne
  rcases worst_fold hg l (fun x hx => hx) with ⟨_, h2⟩ | ⟨h1, h2⟩
  · obtain ⟨_, ⟨x, hx, rfl⟩, _⟩ := id ht
    exact absurd ht (h2 x hx)
  · exact ⟨h1, fun t ht => by obtain ⟨_, ⟨x, hx, rfl⟩, _⟩ := id ht; exact h2 x hx ht⟩
def answeredL (l : List Call) (ok : Bool) (k : Int) (n : Nat) : Bool := ok || (l.take n).any fun x => decide (x.fin = k)
theorem answered_succ {l : List Call} {ok : Bool} {k : Int} {n : Nat} (h : n < l.length) : answeredL l ok k (n + 1) = (answeredL l ok k n || decide (l[n].fin = k)) := by
  unfold answeredL
  rw [List.take_succ_eq_append_getElem h, List.any_append]
  simp [Bool.or_assoc]

set_option maxRecDepth 100000 in
set_option maxHeartbeats 8000000 in
theorem prefix18_calls (A : Option Addr) (c n : Nat) (l : List Call) (hn : n = l.length) (row : Int) (hrow : I64 row) (w : World) (hl : (l.length + 1) * 96 ≤ 140737488355328) (hv : ∀ x ∈ l, x.op.value.size ≤ 9223372036854775807) (ha : Rd Call.cells 10 w w.heap.size A l) :
    Calls Try.prog 9 #[.slice A n c, .int .i64 row] w fun e w' => e = .returned (.bool true) ∧ Below w.heap.size w w' := by
  subst hn
  have HA := Lib.hid ha
  have HV := Lib.hid hv
  clear ha hv
  go_enter Try.func9, Try.ntmps9
  go_wp2_with fail
  refine (search_prog A c l.length l rfl w (by omega) HV.out HA.out).mono ?_
  rintro e w1 ⟨v1, rfl, hm1, hb1⟩
  have HB1 := Lib.hid hb1
  have hr1 := (HA.out.below hb1).more hb1.size
  have HR1 := Lib.hid hr1
  clear hm1 hb1 hr1
  have hwl : (worstL l) = if (searchL l).2.2 ≠ 0 then (0, (searchL l).2.2) else (l.foldl (worstStep (searchL l).2.1 l) (-1), 0) := rfl
  by_cases hz : (searchL l).2.2 = 0
  · obtain ⟨hck, hl8, hok⟩ := search_ok hz
    have HGD : Hid (GoodL l) := checkL_zero hck
    rw [if_neg (by rw [hz]; decide), hok] at hwl
    have HCK := Lib.hid hck
    rw [hz, hok]
    clear hz hck hok
    obtain ⟨ok, hok⟩ : ∃ ok, ok = decide (best l ≠ none) := ⟨_, rfl⟩
    rw [← hok] at hwl ⊢
    obtain ⟨kk, hkk⟩ : ∃ kk, kk = l.foldl (worstStep ok l) (-1) := ⟨_, rfl⟩
    rw [← hkk] at hwl
    have HWL := Lib.hid hwl
    have HK : Hid ((kk = -1 ↔ ok = true) ∧ (ok = false → 0 ≤ kk ∧ (∃ x ∈ l, x.fin = kk) ∧ Expl (cutL kk l)) ∧ (ok = true → Expl l)) := by
      cases ok with
      | true =>
        rw [worst_ok] at hkk
        exact ⟨⟨fun _ => rfl, fun _ => hkk⟩, (fun h => by cases h), fun _ => (best_expl HGD.out).1 (of_decide_eq_true hok.symm)⟩
      | false =>
        have hbn : best l = none := by
          have := of_decide_eq_false hok.symm
          exact Decidable.not_not.1 this
        obtain ⟨h1, h2⟩ := worst_least HGD.out hbn
        rw [← hkk] at h1 h2
        have h0 := h1.1
        exact ⟨⟨fun h => by omega, (fun h => by cases h)⟩, fun _ => ⟨h0, h1.2.1, least_bad HGD.out h0 h2⟩, (fun h => by cases h)⟩
    clear hkk hwl hok
    dsimp only
    go_wp2_with fail
    refine (worst_prog A c l.length l rfl w1 hl HV.out HR1.out).mono ?_
    rintro e w2 ⟨rfl, hb2⟩
    have HB2 := Lib.hid (HB1.out.trans (hb2.mono HB1.out.size))
    have hr2 := (HR1.out.below hb2).more hb2.size
    have HR2 := Lib.hid hr2
    rw [HWL.out]
    clear hb2 hr2
    -- the row that is asked
    obtain ⟨r0, hr0⟩ : ∃ r0 : Int, r0 = if row < 0 then -(row + 1) else row := ⟨_, rfl⟩
    have h0r : 0 ≤ r0 := by rw [hr0]; split <;> omega
    obtain ⟨r1, hr1⟩ : ∃ r1 : Int, r1 = if ok = false ∧ kk < r0 then kk else r0 := ⟨_, rfl⟩
    have hex : Expl (cutL r1 l) ∧ 0 ≤ r1 := by
      obtain ⟨_, h2, h3⟩ := HK.out
      cases ok with
      | true =>
        rw [if_neg (by simp)] at hr1
        rw [hr1]
        exact ⟨(h3 rfl).cut HGD.out r0, h0r⟩
      | false =>
        obtain ⟨h4, _, h5⟩ := h2 rfl
        by_cases hlt : kk < r0
        · rw [if_pos ⟨rfl, hlt⟩] at hr1; rw [hr1]; exact ⟨h5, h4⟩
        · rw [if_neg (fun q => hlt q.2)] at hr1; rw [hr1]; exact ⟨h5.mono HGD.out h0r (by omega), h0r⟩
    have HAN : Hid (cutAns r1 l = (cutL r1 l, 0)) := by show _ = _; unfold cutAns; rw [if_neg (by rw [HCK.out]; decide), if_neg (by omega)]
    have HBE : Hid (decide (best (cutL r1 l) ≠ none) = true) := decide_eq_true ((best_expl (HGD.out.cut _)).2 hex.1)
    have h1r := hex.2
    have HGC : Hid (GoodL (cutL r1 l)) := HGD.out.cut _
    have HLC : Hid ((cutL r1 l).length ≤ 8) := Nat.le_trans (cutL_len _ _) hl8
    have HVC : Hid (∀ x ∈ cutL r1 l, x.op.value.size ≤ 9223372036854775807) := cut_vals HV.out
    have HSS := Lib.hid (search_sub (l := l) HGC.out HLC.out)
    -- is some answer at Worst's row?
    have HAW : Hid (answeredL l ok kk l.length = true) := by
      show _ = _
      unfold answeredL
      cases ok with
      | true => rfl
      | false =>
        obtain ⟨x, hx, hxe⟩ := (HK.out.2.1 rfl).2.1
        rw [List.take_length, Bool.false_or, List.any_eq_true]
        exact ⟨x, hx, decide_eq_true hxe⟩
    have hpe : ∀ p q : Bool, (p == q) = decide (p = q) := fun p q => by cases p <;> cases q <;> rfl
    have hpn : ∀ p q : Bool, (p != q) = !decide (p = q) := fun p q => by cases p <;> cases q <;> rfl
    clear hex
    obtain ⟨hk1, hk2, _⟩ := HK.out
    cases ok with
    | true =>
      have hkm : kk = -1 := hk1.2 rfl
      subst hkm
      rw [if_neg (by simp)] at hr1
      subst r1
      clear hk1 hk2 HK
      dsimp only
      by_cases hr : row < 0
      · have hr2 : decide (row < 0) = true := decide_eq_true hr
        rw [if_pos hr] at hr0
        have hw1 : IntKind.i64.wrap (row + 1) = row + 1 := IntWalk.i64_in _ (by obtain ⟨q1, q2⟩ := hrow; omega)
        have hw2 : IntKind.i64.wrap (-(row + 1)) = r0 := by rw [IntWalk.i64_in _ (by obtain ⟨q1, q2⟩ := hrow; omega)]; exact hr0.symm
        have hw3 : IntKind.i64.wrap (0 - (row + 1)) = r0 := by rw [IntWalk.i64_in _ (by obtain ⟨q1, q2⟩ := hrow; omega)]; omega
        clear hr0 hr hrow h0r h1r
        go_wp2_with fail
        refine (cut_all_prog A c l.length l rfl r0 w2 hl HV.out HR2.out).mono ?_
        rintro e w3 ⟨A3, c3, rfl, hm3, hb3⟩
        rw [HAN.out] at hm3 ⊢
        dsimp only at hm3 ⊢
        have HB3 := Lib.hid (HB2.out.trans (hb3.mono HB2.out.size))
        have hr3 := Made.rd' encCall.len hm3
        have HR3 := Lib.hid hr3
        have hra := (HR2.out.below hb3).more hb3.size
        have HRA3 := Lib.hid hra
        clear hm3 hb3 hr3 hra
        go_wp2_with fail
        refine (search_prog A3 c3 _ (cutL r0 l) rfl w3 (by have := HLC.out; omega) HVC.out HR3.out).mono ?_
        rintro e w4 ⟨v4, rfl, hm4, hb4⟩
        have HB4 := Lib.hid (HB3.out.trans (hb4.mono HB3.out.size))
        have hra := (HRA3.out.below hb4).more hb4.size
        have HRA4 := Lib.hid hra
        have hs1 : (searchL (cutL r0 l)).2.2 = 0 := HSS.out.1
        have hs2 : (searchL (cutL r0 l)).2.1 = true := HSS.out.2.trans HBE.out
        rw [hs1, hs2]
        clear hm4 hb4 hs1 hs2 hra
        dsimp only
        go_wp2_with fail
        go_loopw [16, 15] (fun i v wr => ∃ k : Nat, ∃ b, k ≤ l.length ∧ i = .int .i64 k ∧ v = .bool b ∧ Hid (b = answeredL l true (-1) k) ∧ Hid (Below w4.heap.size w4 wr)) (fun i _ _ => l.length - (intOf i).toNat)
        case atStart => exact ⟨0, true, by omega, rfl, rfl, by show _ = _; simp [answeredL], Below.refl _ _⟩
        case round =>
          obtain ⟨k, b, hk, rfl, rfl, hbv, hbr⟩ := hrel
          by_cases h1 : k < l.length
          · obtain ⟨ad, hA, hal, hca⟩ := (HRA4.out.below hbr.out).at_ h1
            have g1 : (k:Int) < (l.length : Int) := by omega
            have i1 : (0:Int) ≤ (k:Int) := by omega
            have HAS := Lib.hid (answered_succ (ok := true) (k := (-1)) h1)
            obtain ⟨c0, c1, c2, c3', c4, c5', c6, c7, c8, c9⟩ := hca.call
            cases hA
            clear hca
            generalize l[k] = x at *
            rw [← hbv.out] at HAS
            clear hbv
            cases b
            · by_cases he : x.fin = (-1)
              · have he1 : (x.fin == (-1)) = true := by simpa using he
                have he2 : decide (x.fin = (-1)) = true := decide_eq_true he
                rw [he2] at HAS
                clear he
                go_wp2_with fail
                go_roundw
                case rel => exact ⟨k + 1, true, by omega, by go_num, rfl, HAS.out.symm, hbr.out⟩
                case measure => simp [intOf]; omega
              · have he1 : (x.fin == (-1)) = false := by simpa using he
                have he2 : decide (x.fin = (-1)) = false := decide_eq_false he
                rw [he2] at HAS
                clear he
                go_wp2_with fail
                go_roundw
                case rel => exact ⟨k + 1, false, by omega, by go_num, rfl, HAS.out.symm, hbr.out⟩
                case measure => simp [intOf]; omega
            · rw [Bool.true_or] at HAS
              go_wp2_with fail
              go_roundw
              case rel => exact ⟨k + 1, true, by omega, by go_num, rfl, HAS.out.symm, hbr.out⟩
              case measure => simp [intOf]; omega
          · have g2 : decide ((k:Int) < (l.length : Int)) = false := decide_eq_false (by omega)
            have g3 : decide (k < l.length) = false := decide_eq_false h1
            have hfin := hbv.out
            rw [show k = l.length by omega, HAW.out] at hfin
            subst hfin
            have HB5 := Lib.hid (HB4.out.trans (hbr.out.mono HB4.out.size))
            clear hbv hbr
            go_wp2_with fail
            refine (works18 _).mono ?_
            rintro e w6 ⟨rfl, hb6⟩
            have HB6 := Lib.hid (HB5.out.trans (hb6.mono HB5.out.size))
            clear hb6
            dsimp only
            go_wp2_with fail
            go_ret
            exact ⟨rfl, HB6.out⟩
      · have hr2 : decide (row < 0) = false := decide_eq_false hr
        rw [if_neg hr] at hr0
        subst hr0
        clear hr hrow h0r h1r
        go_wp2_with fail
        refine (cut_all_prog A c l.length l rfl r0 w2 hl HV.out HR2.out).mono ?_
        rintro e w3 ⟨A3, c3, rfl, hm3, hb3⟩
        rw [HAN.out] at hm3 ⊢
        dsimp only at hm3 ⊢
        have HB3 := Lib.hid (HB2.out.trans (hb3.mono HB2.out.size))
        have hr3 := Made.rd' encCall.len hm3
        have HR3 := Lib.hid hr3
        have hra := (HR2.out.below hb3).more hb3.size
        have HRA3 := Lib.hid hra
        clear hm3 hb3 hr3 hra
        go_wp2_with fail
        refine (search_prog A3 c3 _ (cutL r0 l) rfl w3 (by have := HLC.out; omega) HVC.out HR3.out).mono ?_
        rintro e w4 ⟨v4, rfl, hm4, hb4⟩
        have HB4 := Lib.hid (HB3.out.trans (hb4.mono HB3.out.size))
        have hra := (HRA3.out.below hb4).more hb4.size
        have HRA4 := Lib.hid hra
        have hs1 : (searchL (cutL r0 l)).2.2 = 0 := HSS.out.1
        have hs2 : (searchL (cutL r0 l)).2.1 = true := HSS.out.2.trans HBE.out
        rw [hs1, hs2]
        clear hm4 hb4 hs1 hs2 hra
        dsimp only
        go_wp2_with fail
        go_loopw [16, 15] (fun i v wr => ∃ k : Nat, ∃ b, k ≤ l.length ∧ i = .int .i64 k ∧ v = .bool b ∧ Hid (b = answeredL l true (-1) k) ∧ Hid (Below w4.heap.size w4 wr)) (fun i _ _ => l.length - (intOf i).toNat)
        case atStart => exact ⟨0, true, by omega, rfl, rfl, by show _ = _; simp [answeredL], Below.refl _ _⟩
        case round =>
          obtain ⟨k, b, hk, rfl, rfl, hbv, hbr⟩ := hrel
          by_cases h1 : k < l.length
          · obtain ⟨ad, hA, hal, hca⟩ := (HRA4.out.below hbr.out).at_ h1
            have g1 : (k:Int) < (l.length : Int) := by omega
            have i1 : (0:Int) ≤ (k:Int) := by omega
            have HAS := Lib.hid (answered_succ (ok := true) (k := (-1)) h1)
            obtain ⟨c0, c1, c2, c3', c4, c5', c6, c7, c8, c9⟩ := hca.call
            cases hA
            clear hca
            generalize l[k] = x at *
            rw [← hbv.out] at HAS
            clear hbv
            cases b
            · by_cases he : x.fin = (-1)
              · have he1 : (x.fin == (-1)) = true := by simpa using he
                have he2 : decide (x.fin = (-1)) = true := decide_eq_true he
                rw [he2] at HAS
                clear he
                go_wp2_with fail
                go_roundw
                case rel => exact ⟨k + 1, true, by omega, by go_num, rfl, HAS.out.symm, hbr.out⟩
                case measure => simp [intOf]; omega
              · have he1 : (x.fin == (-1)) = false := by simpa using he
                have he2 : decide (x.fin = (-1)) = false := decide_eq_false he
                rw [he2] at HAS
                clear he
                go_wp2_with fail
                go_roundw
                case rel => exact ⟨k + 1, false, by omega, by go_num, rfl, HAS.out.symm, hbr.out⟩
                case measure => simp [intOf]; omega
            · rw [Bool.true_or] at HAS
              go_wp2_with fail
              go_roundw
              case rel => exact ⟨k + 1, true, by omega, by go_num, rfl, HAS.out.symm, hbr.out⟩
              case measure => simp [intOf]; omega
          · have g2 : decide ((k:Int) < (l.length : Int)) = false := decide_eq_false (by omega)
            have g3 : decide (k < l.length) = false := decide_eq_false h1
            have hfin := hbv.out
            rw [show k = l.length by omega, HAW.out] at hfin
            subst hfin
            have HB5 := Lib.hid (HB4.out.trans (hbr.out.mono HB4.out.size))
            clear hbv hbr
            go_wp2_with fail
            refine (works18 _).mono ?_
            rintro e w6 ⟨rfl, hb6⟩
            have HB6 := Lib.hid (HB5.out.trans (hb6.mono HB5.out.size))
            clear hb6
            dsimp only
            go_wp2_with fail
            go_ret
            exact ⟨rfl, HB6.out⟩
    | false =>
      have hkm : ¬ kk = -1 := fun h => by cases hk1.1 h
      have hkm1 : (kk == -1) = false := by simpa using hkm
      have hkm2 : decide (kk = -1) = false := decide_eq_false hkm
      clear hk1 hk2 HK hkm
      by_cases hlt : kk < r0
      · rw [if_pos ⟨rfl, hlt⟩] at hr1
        subst r1
        have hlt2 : decide (kk < r0) = true := decide_eq_true hlt
        clear hlt
        dsimp only
        by_cases hr : row < 0
        · have hr2 : decide (row < 0) = true := decide_eq_true hr
          rw [if_pos hr] at hr0
          have hw1 : IntKind.i64.wrap (row + 1) = row + 1 := IntWalk.i64_in _ (by obtain ⟨q1, q2⟩ := hrow; omega)
          have hw2 : IntKind.i64.wrap (-(row + 1)) = r0 := by rw [IntWalk.i64_in _ (by obtain ⟨q1, q2⟩ := hrow; omega)]; exact hr0.symm
          have hw3 : IntKind.i64.wrap (0 - (row + 1)) = r0 := by rw [IntWalk.i64_in _ (by obtain ⟨q1, q2⟩ := hrow; omega)]; omega
          clear hr0 hr hrow h0r h1r
          go_wp2_with fail
          refine (cut_all_prog A c l.length l rfl kk w2 hl HV.out HR2.out).mono ?_
          rintro e w3 ⟨A3, c3, rfl, hm3, hb3⟩
          rw [HAN.out] at hm3 ⊢
          dsimp only at hm3 ⊢
          have HB3 := Lib.hid (HB2.out.trans (hb3.mono HB2.out.size))
          have hr3 := Made.rd' encCall.len hm3
          have HR3 := Lib.hid hr3
          have hra := (HR2.out.below hb3).more hb3.size
          have HRA3 := Lib.hid hra
          clear hm3 hb3 hr3 hra
          go_wp2_with fail
          refine (search_prog A3 c3 _ (cutL kk l) rfl w3 (by have := HLC.out; omega) HVC.out HR3.out).mono ?_
          rintro e w4 ⟨v4, rfl, hm4, hb4⟩
          have HB4 := Lib.hid (HB3.out.trans (hb4.mono HB3.out.size))
          have hra := (HRA3.out.below hb4).more hb4.size
          have HRA4 := Lib.hid hra
          have hs1 : (searchL (cutL kk l)).2.2 = 0 := HSS.out.1
          have hs2 : (searchL (cutL kk l)).2.1 = true := HSS.out.2.trans HBE.out
          rw [hs1, hs2]
          clear hm4 hb4 hs1 hs2 hra
          dsimp only
          go_wp2_with fail
          go_loopw [16, 15] (fun i v wr => ∃ k : Nat, ∃ b, k ≤ l.length ∧ i = .int .i64 k ∧ v = .bool b ∧ Hid (b = answeredL l false kk k) ∧ Hid (Below w4.heap.size w4 wr)) (fun i _ _ => l.length - (intOf i).toNat)
          case atStart => exact ⟨0, false, by omega, rfl, rfl, by show _ = _; simp [answeredL], Below.refl _ _⟩
          case round =>
            obtain ⟨k, b, hk, rfl, rfl, hbv, hbr⟩ := hrel
            by_cases h1 : k < l.length
            · obtain ⟨ad, hA, hal, hca⟩ := (HRA4.out.below hbr.out).at_ h1
              have g1 : (k:Int) < (l.length : Int) := by omega
              have i1 : (0:Int) ≤ (k:Int) := by omega
              have HAS := Lib.hid (answered_succ (ok := false) (k := kk) h1)
              obtain ⟨c0, c1, c2, c3', c4, c5', c6, c7, c8, c9⟩ := hca.call
              cases hA
              clear hca
              generalize l[k] = x at *
              rw [← hbv.out] at HAS
              clear hbv
              cases b
              · by_cases he : x.fin = kk
                · have he1 : (x.fin == kk) = true := by simpa using he
                  have he2 : decide (x.fin = kk) = true := decide_eq_true he
                  rw [he2] at HAS
                  clear he
                  go_wp2_with fail
                  go_roundw
                  case rel => exact ⟨k + 1, true, by omega, by go_num, rfl, HAS.out.symm, hbr.out⟩
                  case measure => simp [intOf]; omega
                · have he1 : (x.fin == kk) = false := by simpa using he
                  have he2 : decide (x.fin = kk) = false := decide_eq_false he
                  rw [he2] at HAS
                  clear he
                  go_wp2_with fail
                  go_roundw
                  case rel => exact ⟨k + 1, false, by omega, by go_num, rfl, HAS.out.symm, hbr.out⟩
                  case measure => simp [intOf]; omega
              · rw [Bool.true_or] at HAS
                go_wp2_with fail
                go_roundw
                case rel => exact ⟨k + 1, true, by omega, by go_num, rfl, HAS.out.symm, hbr.out⟩
                case measure => simp [intOf]; omega
            · have g2 : decide ((k:Int) < (l.length : Int)) = false := decide_eq_false (by omega)
              have g3 : decide (k < l.length) = false := decide_eq_false h1
              have hfin := hbv.out
              rw [show k = l.length by omega, HAW.out] at hfin
              subst hfin
              have HB5 := Lib.hid (HB4.out.trans (hbr.out.mono HB4.out.size))
              clear hbv hbr
              go_wp2_with fail
              refine (works18 _).mono ?_
              rintro e w6 ⟨rfl, hb6⟩
              have HB6 := Lib.hid (HB5.out.trans (hb6.mono HB5.out.size))
              clear hb6
              dsimp only
              go_wp2_with fail
              go_ret
              exact ⟨rfl, HB6.out⟩
        · have hr2 : decide (row < 0) = false := decide_eq_false hr
          rw [if_neg hr] at hr0
          subst hr0
          clear hr hrow h0r h1r
          go_wp2_with fail
          refine (cut_all_prog A c l.length l rfl kk w2 hl HV.out HR2.out).mono ?_
          rintro e w3 ⟨A3, c3, rfl, hm3, hb3⟩
          rw [HAN.out] at hm3 ⊢
          dsimp only at hm3 ⊢
          have HB3 := Lib.hid (HB2.out.trans (hb3.mono HB2.out.size))
          have hr3 := Made.rd' encCall.len hm3
          have HR3 := Lib.hid hr3
          have hra := (HR2.out.below hb3).more hb3.size
          have HRA3 := Lib.hid hra
          clear hm3 hb3 hr3 hra
          go_wp2_with fail
          refine (search_prog A3 c3 _ (cutL kk l) rfl w3 (by have := HLC.out; omega) HVC.out HR3.out).mono ?_
          rintro e w4 ⟨v4, rfl, hm4, hb4⟩
          have HB4 := Lib.hid (HB3.out.trans (hb4.mono HB3.out.size))
          have hra := (HRA3.out.below hb4).more hb4.size
          have HRA4 := Lib.hid hra
          have hs1 : (searchL (cutL kk l)).2.2 = 0 := HSS.out.1
          have hs2 : (searchL (cutL kk l)).2.1 = true := HSS.out.2.trans HBE.out
          rw [hs1, hs2]
          clear hm4 hb4 hs1 hs2 hra
          dsimp only
          go_wp2_with fail
          go_loopw [16, 15] (fun i v wr => ∃ k : Nat, ∃ b, k ≤ l.length ∧ i = .int .i64 k ∧ v = .bool b ∧ Hid (b = answeredL l false kk k) ∧ Hid (Below w4.heap.size w4 wr)) (fun i _ _ => l.length - (intOf i).toNat)
          case atStart => exact ⟨0, false, by omega, rfl, rfl, by show _ = _; simp [answeredL], Below.refl _ _⟩
          case round =>
            obtain ⟨k, b, hk, rfl, rfl, hbv, hbr⟩ := hrel
            by_cases h1 : k < l.length
            · obtain ⟨ad, hA, hal, hca⟩ := (HRA4.out.below hbr.out).at_ h1
              have g1 : (k:Int) < (l.length : Int) := by omega
              have i1 : (0:Int) ≤ (k:Int) := by omega
              have HAS := Lib.hid (answered_succ (ok := false) (k := kk) h1)
              obtain ⟨c0, c1, c2, c3', c4, c5', c6, c7, c8, c9⟩ := hca.call
              cases hA
              clear hca
              generalize l[k] = x at *
              rw [← hbv.out] at HAS
              clear hbv
              cases b
              · by_cases he : x.fin = kk
                · have he1 : (x.fin == kk) = true := by simpa using he
                  have he2 : decide (x.fin = kk) = true := decide_eq_true he
                  rw [he2] at HAS
                  clear he
                  go_wp2_with fail
                  go_roundw
                  case rel => exact ⟨k + 1, true, by omega, by go_num, rfl, HAS.out.symm, hbr.out⟩
                  case measure => simp [intOf]; omega
                · have he1 : (x.fin == kk) = false := by simpa using he
                  have he2 : decide (x.fin = kk) = false := decide_eq_false he
                  rw [he2] at HAS
                  clear he
                  go_wp2_with fail
                  go_roundw
                  case rel => exact ⟨k + 1, false, by omega, by go_num, rfl, HAS.out.symm, hbr.out⟩
                  case measure => simp [intOf]; omega
              · rw [Bool.true_or] at HAS
                go_wp2_with fail
                go_roundw
                case rel => exact ⟨k + 1, true, by omega, by go_num, rfl, HAS.out.symm, hbr.out⟩
                case measure => simp [intOf]; omega
            · have g2 : decide ((k:Int) < (l.length : Int)) = false := decide_eq_false (by omega)
              have g3 : decide (k < l.length) = false := decide_eq_false h1
              have hfin := hbv.out
              rw [show k = l.length by omega, HAW.out] at hfin
              subst hfin
              have HB5 := Lib.hid (HB4.out.trans (hbr.out.mono HB4.out.size))
              clear hbv hbr
              go_wp2_with fail
              refine (works18 _).mono ?_
              rintro e w6 ⟨rfl, hb6⟩
              have HB6 := Lib.hid (HB5.out.trans (hb6.mono HB5.out.size))
              clear hb6
              dsimp only
              go_wp2_with fail
              go_ret
              exact ⟨rfl, HB6.out⟩
      · rw [if_neg (fun q => hlt q.2)] at hr1
        subst r1
        have hlt2 : decide (kk < r0) = false := decide_eq_false hlt
        clear hlt
        dsimp only
        by_cases hr : row < 0
        · have hr2 : decide (row < 0) = true := decide_eq_true hr
          rw [if_pos hr] at hr0
          have hw1 : IntKind.i64.wrap (row + 1) = row + 1 := IntWalk.i64_in _ (by obtain ⟨q1, q2⟩ := hrow; omega)
          have hw2 : IntKind.i64.wrap (-(row + 1)) = r0 := by rw [IntWalk.i64_in _ (by obtain ⟨q1, q2⟩ := hrow; omega)]; exact hr0.symm
          have hw3 : IntKind.i64.wrap (0 - (row + 1)) = r0 := by rw [IntWalk.i64_in _ (by obtain ⟨q1, q2⟩ := hrow; omega)]; omega
          clear hr0 hr hrow h0r h1r
          go_wp2_with fail
          refine (cut_all_prog A c l.length l rfl r0 w2 hl HV.out HR2.out).mono ?_
          rintro e w3 ⟨A3, c3, rfl, hm3, hb3⟩
          rw [HAN.out] at hm3 ⊢
          dsimp only at hm3 ⊢
          have HB3 := Lib.hid (HB2.out.trans (hb3.mono HB2.out.size))
          have hr3 := Made.rd' encCall.len hm3
          have HR3 := Lib.hid hr3
          have hra := (HR2.out.below hb3).more hb3.size
          have HRA3 := Lib.hid hra
          clear hm3 hb3 hr3 hra
          go_wp2_with fail
          refine (search_prog A3 c3 _ (cutL r0 l) rfl w3 (by have := HLC.out; omega) HVC.out HR3.out).mono ?_
          rintro e w4 ⟨v4, rfl, hm4, hb4⟩
          have HB4 := Lib.hid (HB3.out.trans (hb4.mono HB3.out.size))
          have hra := (HRA3.out.below hb4).more hb4.size
          have HRA4 := Lib.hid hra
          have hs1 : (searchL (cutL r0 l)).2.2 = 0 := HSS.out.1
          have hs2 : (searchL (cutL r0 l)).2.1 = true := HSS.out.2.trans HBE.out
          rw [hs1, hs2]
          clear hm4 hb4 hs1 hs2 hra
          dsimp only
          go_wp2_with fail
          go_loopw [16, 15] (fun i v wr => ∃ k : Nat, ∃ b, k ≤ l.length ∧ i = .int .i64 k ∧ v = .bool b ∧ Hid (b = answeredL l false kk k) ∧ Hid (Below w4.heap.size w4 wr)) (fun i _ _ => l.length - (intOf i).toNat)
          case atStart => exact ⟨0, false, by omega, rfl, rfl, by show _ = _; simp [answeredL], Below.refl _ _⟩
          case round =>
            obtain ⟨k, b, hk, rfl, rfl, hbv, hbr⟩ := hrel
            by_cases h1 : k < l.length
            · obtain ⟨ad, hA, hal, hca⟩ := (HRA4.out.below hbr.out).at_ h1
              have g1 : (k:Int) < (l.length : Int) := by omega
              have i1 : (0:Int) ≤ (k:Int) := by omega
              have HAS := Lib.hid (answered_succ (ok := false) (k := kk) h1)
              obtain ⟨c0, c1, c2, c3', c4, c5', c6, c7, c8, c9⟩ := hca.call
              cases hA
              clear hca
              generalize l[k] = x at *
              rw [← hbv.out] at HAS
              clear hbv
              cases b
              · by_cases he : x.fin = kk
                · have he1 : (x.fin == kk) = true := by simpa using he
                  have he2 : decide (x.fin = kk) = true := decide_eq_true he
                  rw [he2] at HAS
                  clear he
                  go_wp2_with fail
                  go_roundw
                  case rel => exact ⟨k + 1, true, by omega, by go_num, rfl, HAS.out.symm, hbr.out⟩
                  case measure => simp [intOf]; omega
                · have he1 : (x.fin == kk) = false := by simpa using he
                  have he2 : decide (x.fin = kk) = false := decide_eq_false he
                  rw [he2] at HAS
                  clear he
                  go_wp2_with fail
                  go_roundw
                  case rel => exact ⟨k + 1, false, by omega, by go_num, rfl, HAS.out.symm, hbr.out⟩
                  case measure => simp [intOf]; omega
              · rw [Bool.true_or] at HAS
                go_wp2_with fail
                go_roundw
                case rel => exact ⟨k + 1, true, by omega, by go_num, rfl, HAS.out.symm, hbr.out⟩
                case measure => simp [intOf]; omega
            · have g2 : decide ((k:Int) < (l.length : Int)) = false := decide_eq_false (by omega)
              have g3 : decide (k < l.length) = false := decide_eq_false h1
              have hfin := hbv.out
              rw [show k = l.length by omega, HAW.out] at hfin
              subst hfin
              have HB5 := Lib.hid (HB4.out.trans (hbr.out.mono HB4.out.size))
              clear hbv hbr
              go_wp2_with fail
              refine (works18 _).mono ?_
              rintro e w6 ⟨rfl, hb6⟩
              have HB6 := Lib.hid (HB5.out.trans (hb6.mono HB5.out.size))
              clear hb6
              dsimp only
              go_wp2_with fail
              go_ret
              exact ⟨rfl, HB6.out⟩
        · have hr2 : decide (row < 0) = false := decide_eq_false hr
          rw [if_neg hr] at hr0
          subst hr0
          clear hr hrow h0r h1r
          go_wp2_with fail
          refine (cut_all_prog A c l.length l rfl r0 w2 hl HV.out HR2.out).mono ?_
          rintro e w3 ⟨A3, c3, rfl, hm3, hb3⟩
          rw [HAN.out] at hm3 ⊢
          dsimp only at hm3 ⊢
          have HB3 := Lib.hid (HB2.out.trans (hb3.mono HB2.out.size))
          have hr3 := Made.rd' encCall.len hm3
          have HR3 := Lib.hid hr3
          have hra := (HR2.out.below hb3).more hb3.size
          have HRA3 := Lib.hid hra
          clear hm3 hb3 hr3 hra
          go_wp2_with fail
          refine (search_prog A3 c3 _ (cutL r0 l) rfl w3 (by have := HLC.out; omega) HVC.out HR3.out).mono ?_
          rintro e w4 ⟨v4, rfl, hm4, hb4⟩
          have HB4 := Lib.hid (HB3.out.trans (hb4.mono HB3.out.size))
          have hra := (HRA3.out.below hb4).more hb4.size
          have HRA4 := Lib.hid hra
          have hs1 : (searchL (cutL r0 l)).2.2 = 0 := HSS.out.1
          have hs2 : (searchL (cutL r0 l)).2.1 = true := HSS.out.2.trans HBE.out
          rw [hs1, hs2]
          clear hm4 hb4 hs1 hs2 hra
          dsimp only
          go_wp2_with fail
          go_loopw [16, 15] (fun i v wr => ∃ k : Nat, ∃ b, k ≤ l.length ∧ i = .int .i64 k ∧ v = .bool b ∧ Hid (b = answeredL l false kk k) ∧ Hid (Below w4.heap.size w4 wr)) (fun i _ _ => l.length - (intOf i).toNat)
          case atStart => exact ⟨0, false, by omega, rfl, rfl, by show _ = _; simp [answeredL], Below.refl _ _⟩
          case round =>
            obtain ⟨k, b, hk, rfl, rfl, hbv, hbr⟩ := hrel
            by_cases h1 : k < l.length
            · obtain ⟨ad, hA, hal, hca⟩ := (HRA4.out.below hbr.out).at_ h1
              have g1 : (k:Int) < (l.length : Int) := by omega
              have i1 : (0:Int) ≤ (k:Int) := by omega
              have HAS := Lib.hid (answered_succ (ok := false) (k := kk) h1)
              obtain ⟨c0, c1, c2, c3', c4, c5', c6, c7, c8, c9⟩ := hca.call
              cases hA
              clear hca
              generalize l[k] = x at *
              rw [← hbv.out] at HAS
              clear hbv
              cases b
              · by_cases he : x.fin = kk
                · have he1 : (x.fin == kk) = true := by simpa using he
                  have he2 : decide (x.fin = kk) = true := decide_eq_true he
                  rw [he2] at HAS
                  clear he
                  go_wp2_with fail
                  go_roundw
                  case rel => exact ⟨k + 1, true, by omega, by go_num, rfl, HAS.out.symm, hbr.out⟩
                  case measure => simp [intOf]; omega
                · have he1 : (x.fin == kk) = false := by simpa using he
                  have he2 : decide (x.fin = kk) = false := decide_eq_false he
                  rw [he2] at HAS
                  clear he
                  go_wp2_with fail
                  go_roundw
                  case rel => exact ⟨k + 1, false, by omega, by go_num, rfl, HAS.out.symm, hbr.out⟩
                  case measure => simp [intOf]; omega
              · rw [Bool.true_or] at HAS
                go_wp2_with fail
                go_roundw
                case rel => exact ⟨k + 1, true, by omega, by go_num, rfl, HAS.out.symm, hbr.out⟩
                case measure => simp [intOf]; omega
            · have g2 : decide ((k:Int) < (l.length : Int)) = false := decide_eq_false (by omega)
              have g3 : decide (k < l.length) = false := decide_eq_false h1
              have hfin := hbv.out
              rw [show k = l.length by omega, HAW.out] at hfin
              subst hfin
              have HB5 := Lib.hid (HB4.out.trans (hbr.out.mono HB4.out.size))
              clear hbv hbr
              go_wp2_with fail
              refine (works18 _).mono ?_
              rintro e w6 ⟨rfl, hb6⟩
              have HB6 := Lib.hid (HB5.out.trans (hb6.mono HB5.out.size))
              clear hb6
              dsimp only
              go_wp2_with fail
              go_ret
              exact ⟨rfl, HB6.out⟩
  · have hz2 := hz
    rw [if_pos hz] at hwl
    have HWL := Lib.hid hwl
    obtain ⟨ez, hez⟩ : ∃ ez, ez = (searchL l).2.2 := ⟨_, rfl⟩
    rw [← hez] at HWL hz
    have he1 : (ez == 0) = false := by simpa using hz
    have he2 : (ez != 0) = true := by simpa using hz
    have he3 : decide (ez = 0) = false := decide_eq_false hz
    rw [← hez]
    clear hwl hz2 hez hz
    dsimp only
    go_wp2_with fail
    refine (worst_prog A c l.length l rfl w1 hl HV.out HR1.out).mono ?_
    rintro e w2 ⟨rfl, hb2⟩
    have HB2 := Lib.hid (HB1.out.trans (hb2.mono HB1.out.size))
    rw [HWL.out]
    clear hb2
    dsimp only
    go_wp2_with fail
    refine (works18 _).mono ?_
    rintro e w3 ⟨rfl, hb3⟩
    have HB3 := Lib.hid (HB2.out.trans (hb3.mono HB2.out.size))
    clear hb3
    dsimp only
    go_wp2_with fail
    go_ret
    exact ⟨rfl, HB3.out⟩
theorem prefix18_law (W : World) (A : Option Addr) (c n : Nat) (xs : List Call) (hn : n = xs.length) (_ : n ≤ c) (hrd : Rd Call.cells 10 W W.heap.size A xs) (hwf : ∀ o ∈ xs, o.wf) (hsz : xs.length * 96 ≤ 140737488351232) (row : Int) (hrow : I64 row) :
    Calls Try.prog 9 #[.slice A n c, .int .i64 row] W fun e w' => e = .returned (.bool true) ∧ Below W.heap.size W w' :=
  prefix18_calls A c n xs hn row hrow W (by omega) (fun o ho => (hwf o ho).op.value) hrd
end Go.Proofs.Ytmfidhlhcochoaa
