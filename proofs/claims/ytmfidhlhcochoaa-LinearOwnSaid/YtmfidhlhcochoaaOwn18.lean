/- LinearOwn answers true. Conditions: sizes within the form's own reach. -/
import Derived.Test.YtmfidhlhcochoaaOwnZ18
import Derived.Test.YtmfidhlhcochoaaCut18
import Derived.Test.YtmfidhlhcochoaaWorks18
import Derived.Deep.CutRange
import Derived.Deep.DeepCutAuto
namespace Go.Proofs.Ytmfidhlhcochoaa
open Go.RowKit
set_option linter.unusedVariables false
set_option linter.unusedSimpArgs false

theorem made_empty {α : Type} {enc : α → List Value} {k : Nat} (w : World) (e : TypeId) (base : Nat) (hb : base ≤ w.heap.size) : Made enc k e base (w.alloc (.cells #[] e)) (.slice (some ⟨w.heap.size, 0, none⟩) 0 0) ([] : List α) :=
  ⟨by simp [flat], .inr ⟨w.heap.size, 0, #[], rfl, hb, heap_alloc_new w _, Nat.le_refl _, by unfold maxLen; omega, by simp, by simp [flat]⟩⟩
set_option maxRecDepth 100000 in
set_option maxHeartbeats 16000000 in
theorem own18_calls (A : Option Addr) (c n : Nat) (l : List Call) (hn : n = l.length) (Bo : Option Addr) (cb nb : Nat) (lo : List Call) (hnb : nb = lo.length) (row : Int) (hrow : I64 row) (w : World) (hl : (l.length + 5) * 96 ≤ 140737488355328) (hlo : (lo.length + 5) * 96 ≤ 140737488355328) (hv : ∀ x ∈ l, x.op.value.size ≤ 9223372036854775807) (hvo : ∀ x ∈ lo, x.op.value.size ≤ 9223372036854775807) (ha : Rd Call.cells 10 w w.heap.size A l) (hb : Rd Call.cells 10 w w.heap.size Bo lo) :
    Calls Try.prog 6 #[.slice A n c, .slice Bo nb cb, .int .i64 row] w fun e w' => e = .returned (.bool true) ∧ Below w.heap.size w w' := by
  subst hn hnb
  have HA := Lib.hid ha
  have HB := Lib.hid hb
  have HV := Lib.hid hv
  have HVO := Lib.hid hvo
  clear ha hb hv hvo
  go_enter Try.func6, Try.ntmps6
  go_upto_region 2 with fail
  obtain ⟨W1, hW1⟩ : ∃ W1, W1 = w.alloc (.cells #[.slice none 0 0, .slice none 0 0, .slice none 0 0, .slice none 0 0, .slice none 0 0, .slice none 0 0, .slice none 0 0, .slice none 0 0, .slice none 0 0, .slice none 0 0] 64) := ⟨_, rfl⟩
  have hb1 : Below w.heap.size w W1 := by rw [hW1]; exact (Below.refl _ _).alloc (Nat.le_refl _) _
  have hk1 : W1.heap[w.heap.size]? = some (.cells #[.slice none 0 0, .slice none 0 0, .slice none 0 0, .slice none 0 0, .slice none 0 0, .slice none 0 0, .slice none 0 0, .slice none 0 0, .slice none 0 0, .slice none 0 0] 64 (0, 0)) := by rw [hW1]; exact heap_alloc_new _ _
  have hz1 : W1.heap.size = w.heap.size + 1 := by rw [hW1]; simp
  rw [← hW1]
  have HB1 := Lib.hid hb1
  have HK1 := Lib.hid hk1
  have HZ1 := Lib.hid hz1
  have HM0 : Hid (Made Call.cells 10 45 w.heap.size (W1.alloc (.cells #[] 45)) (.slice (some ⟨W1.heap.size, 0, none⟩) 0 0) ([] : List Call)) := made_empty W1 _ _ (by omega)
  clear hW1 hb1 hk1 hz1
  go_upto_region 3 with (at_builtin; go_loud (refine wpList_app (v := .slice (some ⟨W1.heap.size, 0, none⟩) 0 0) (xs := []) rowCall encCall rfl (.tmp 34) (.tmp 35) rfl w.heap.size rfl HM0.out rfl rfl (HA.out.below (HB1.out.alloc (by have := HZ1.out; omega) _)) (by simp; omega) (by unfold maxLen; simp; omega) (by simp; have := HZ1.out; omega) ?_); go_loud (intro v2 w2 hm2 hg2 hat2); go_loud (obtain ⟨Ao, co, rfl, hco⟩ := hm2.form); go_loud (simp only [List.nil_append] at hm2); go_loud (have hb2 := Below.grown (HB1.out.alloc (by have := HZ1.out; omega) _) hg2 (by simp; have := HZ1.out; omega) (fun q e => (HM0.out.lt q e).1)); go_loud (have hk2 := (hg2.block w.heap.size (by simp; have := HZ1.out; omega) (fun e => by simp only [Value.ownBlock, Option.some.injEq] at e; have := HZ1.out; omega)).trans ((heap_alloc_old _ _ (by have := HZ1.out; omega)).trans HK1.out)); go_loud (have HM2 := Lib.hid hm2); go_loud (have HB2 := Lib.hid hb2); go_loud (have HK2 := Lib.hid hk2); go_loud (clear hm2 hg2 hat2 hb2 hk2 hco))
  have hol : OwnL w A Bo l lo w.heap.size w2 [(.slice Ao l.length co, l)] [] := ⟨HB2.out, HA.out.below HB2.out, HB.out.below HB2.out, ⟨fun p hp => by simp at hp; subst hp; exact HM2.out, by simp⟩, Outs.nil, HK2.out⟩
  have HOL2 := Lib.hid hol
  clear hol
  obtain ⟨r0, hr0⟩ : ∃ r0 : Int, r0 = if row < 0 then -(row + 1) else row := ⟨_, rfl⟩
  have HR0 := Lib.hid hr0
  clear hr0
  go_upto_if 38 with fail
  go_cut [2] (fun s2 wx => s2 = .int .i64 r0 ∧ wx = w2)
  case first =>
    by_cases hr : row < 0
    · have hr2 : decide (row < 0) = true := decide_eq_true hr
      have hr0 := HR0.out
      rw [if_pos hr] at hr0
      have hw1 : IntKind.i64.wrap (row + 1) = row + 1 := IntWalk.i64_in _ (by obtain ⟨q1, q2⟩ := hrow; omega)
      have hw2 : IntKind.i64.wrap (-(row + 1)) = r0 := by rw [IntWalk.i64_in _ (by obtain ⟨q1, q2⟩ := hrow; omega)]; exact hr0.symm
      have hw3 : IntKind.i64.wrap (0 - (row + 1)) = r0 := by rw [IntWalk.i64_in _ (by obtain ⟨q1, q2⟩ := hrow; omega)]; omega
      rw [hr2]
      clear hr0 hr hrow hr2
      go_wp2_with fail
      go_meet
      exact ⟨rfl, rfl⟩
    · have hr2 : decide (row < 0) = false := decide_eq_false hr
      have hr0 : r0 = row := HR0.out.trans (if_neg hr)
      subst hr0
      rw [hr2]
      clear hr hrow hr2
      go_wp2_with fail
      go_meet
      exact ⟨rfl, rfl⟩
  case rest =>
    obtain ⟨rfl, hwc⟩ := hcut
    subst hwc
    clear hrow
    go_wp2_with fail
    refine (search_prog Ao co l.length l rfl _ (by omega) HV.out (by exact (Made.rd' encCall.len (HOL2.out.c.get (i := 0) rfl)))).mono ?_
    rintro e w3 ⟨v3, rfl, hm3, hb3⟩
    obtain ⟨A3, c3, rfl, hc3⟩ := hm3.form
    have HOL3 := Lib.hid (HOL2.out.addI hb3 hm3)
    clear hm3 hb3 hc3
    dsimp only
    go_wp2_with fail
    refine (search_prog Bo cb lo.length lo rfl _ (by omega) HVO.out (by exact HOL3.out.rdB)).mono ?_
    rintro e w4 ⟨v4, rfl, hm4, hb4⟩
    obtain ⟨A4, c4, rfl, hc4⟩ := hm4.form
    have HOL4 := Lib.hid (HOL3.out.addI hb4 hm4)
    clear hm4 hb4 hc4
    dsimp only
    go_wp2_with fail
    refine (search_prog Ao co l.length l rfl _ (by omega) HV.out (by exact (Made.rd' encCall.len (HOL4.out.c.get (i := 0) rfl)))).mono ?_
    rintro e w5 ⟨v5, rfl, hm5, hb5⟩
    obtain ⟨A5, c5, rfl, hc5⟩ := hm5.form
    have HOL5 := Lib.hid (HOL4.out.addI hb5 hm5)
    clear hm5 hb5 hc5
    dsimp only
    go_wp2_with fail
    refine (cut_all_prog Ao co l.length l rfl r0 _ (by omega) HV.out (by exact (Made.rd' encCall.len (HOL5.out.c.get (i := 0) rfl)))).mono ?_
    rintro e w6 ⟨A6, c6, rfl, hm6, hb6⟩
    have HOL6 := Lib.hid (HOL5.out.addC hb6 hm6)
    clear hm6 hb6
    dsimp only
    go_wp2_with fail
    refine (cut_all_prog Bo cb lo.length lo rfl r0 _ (by omega) HVO.out (by exact HOL6.out.rdB)).mono ?_
    rintro e w7 ⟨A7, c7, rfl, hm7, hb7⟩
    have HOL7 := Lib.hid (HOL6.out.addC hb7 hm7)
    clear hm7 hb7
    dsimp only
    go_wp2_with fail
    refine (cut_all_prog Ao co l.length l rfl r0 _ (by omega) HV.out (by exact (Made.rd' encCall.len (HOL7.out.c.get (i := 0) rfl)))).mono ?_
    rintro e w8 ⟨A8, c8, rfl, hm8, hb8⟩
    have HOL8 := Lib.hid (HOL7.out.addC hb8 hm8)
    clear hm8 hb8
    dsimp only
    have hxl := cutAns_len' r0 l
    have hyl := cutAns_len' r0 lo
    have hxb := cutAns_beg r0 l
    have hal := search_len8 l
    have hbl := search_len8 lo
    generalize (searchL l).2.1 = oka at *
    generalize (searchL l).2.2 = eza at *
    generalize (searchL lo).2.1 = okb at *
    generalize (searchL lo).2.2 = ezb at *
    generalize (cutAns r0 l).2 = ezx at *
    generalize (cutAns r0 lo).2 = ezy at *
    generalize (cutAns r0 l).1 = xs at *
    generalize (cutAns r0 lo).1 = ys at *
    generalize (searchL l).1 = la at *
    generalize (searchL lo).1 = bs at *
    have HXB := Lib.hid hxb
    clear hxb
    go_wp2_with fail
    refine (sameInts A3 A5 c3 c5 la.length la rfl w8 (by omega) (Made.rd' encI.len (HOL8.out.i.get (i := 0) rfl)) (Made.rd' encI.len (HOL8.out.i.get (i := 2) rfl))).mono ?_
    rintro e w9 ⟨rfl, q9, hw9⟩
    have HOL9 := Lib.hid (HOL8.out.step (show Below w8.heap.size w8 w9 by rw [hw9]; exact below_drewN (Below.refl _ _) _))
    clear hw9
    dsimp only
    go_wp2_with fail
    refine (sameCalls A6 A8 c6 c8 xs.length xs rfl w9 (by omega) (Made.rd' encCall.len (HOL9.out.c.get (i := 1) rfl)) (Made.rd' encCall.len (HOL9.out.c.get (i := 3) rfl))).mono ?_
    rintro e w10 ⟨rfl, q10, hw10⟩
    have HOL10 := Lib.hid (HOL9.out.step (show Below w9.heap.size w9 w10 by rw [hw10]; exact below_drewN (Below.refl _ _) _))
    clear hw10
    dsimp only
    go_wp2_with fail
    refine (sameCalls Ao A co c l.length l rfl w10 (by omega) (Made.rd' encCall.len (HOL10.out.c.get (i := 0) rfl)) HOL10.out.rdA).mono ?_
    rintro e w11 ⟨rfl, q11, hw11⟩
    have HOL11 := Lib.hid (HOL10.out.step (show Below w10.heap.size w10 w11 by rw [hw11]; exact below_drewN (Below.refl _ _) _))
    clear hw11
    dsimp only
    go_wp2_with fail
    go_loopw [24] (fun i wr => ∃ k : Nat, k ≤ xs.length ∧ i = .int .i64 k ∧ Hid (OwnL w A Bo l lo w.heap.size wr [(.slice Ao l.length co, l), (.slice A6 xs.length c6, upK (setBeg (-100)) k xs), (.slice A7 ys.length c7, ys), (.slice A8 xs.length c8, xs)] [(.slice A3 la.length c3, la), (.slice A4 bs.length c4, bs), (.slice A5 la.length c5, la)])) (fun i _ => xs.length - (intOf i).toNat)
    case atStart => exact ⟨0, by omega, rfl, by have h := HOL11.out; show OwnL _ _ _ _ _ _ _ _ _; rw [upK_zero]; exact h⟩
    case round =>
      obtain ⟨k, hk, rfl, hol⟩ := hrel
      by_cases h1 : k < xs.length
      · have g1 : (k:Int) < (xs.length : Int) := by omega
        have i1 : (0:Int) ≤ (k:Int) := by omega
        have hm := hol.out.c.get (i := 1) rfl
        obtain ⟨gx, hgx⟩ : ∃ gx, A6 = some ⟨gx, 0, none⟩ := by
          rcases hm.2 with ⟨hv, hn⟩ | ⟨g, cap, cur, hv, _⟩
          · rw [upK_len] at hn; omega
          · injection hv with q1 q2 q3; exact ⟨g, q1⟩
        subst hgx
        obtain ⟨cs, hcs⟩ := hm.cell_block (b := gx) rfl
        have hrd := Made.rd' encCall.len hm
        obtain ⟨ad, hA, hal', hca⟩ := hrd.at_ (i := k) (by rw [upK_len]; exact h1)
        cases hA
        have hcell : ∃ u, wr.cell? ⟨gx, k * 10 + 5, none⟩ = some u := by
          obtain ⟨q0, q1, q2, q3, q4, q5, _⟩ := hca.call
          refine ⟨_, Eq.trans ?_ q5⟩
          congr 1
          unfold Addr.add
          split <;> simp_all
        obtain ⟨u0, hu0⟩ := hcell
        have hfz : wr.frozen? ⟨gx, k * 10 + 5, none⟩ = false := frozen_of_row _ _ _ _ _ hcs
        have hput := Made.cellPut encCall hm (i := k) (j := 5) (by rw [upK_len]; exact h1) (by omega) ((setBeg (-100)) xs[k]) (u := .int .i64 (-100)) (by rw [upK_get _ h1]; rfl)
        rw [upK_set _ h1] at hput
        have hnx := OwnL.turnC (C1 := [(.slice Ao l.length co, l)]) (C2 := [(.slice A7 ys.length c7, ys), (.slice A8 xs.length c8, xs)]) hol.out hput ((Kept.refl (fun j => (Value.slice (some ⟨gx, 0, none⟩) xs.length c6).ownBlock = some j) wr).setCell (p := ⟨gx, k * 10 + 5, none⟩) (fun _ => rfl) _) (fun j e => .inl e)
        have HNX := Lib.hid hnx
        clear hm hcs hrd hca hput hnx hal'
        go_wp2_with fail
        go_roundw
        case rel => exact ⟨k + 1, by omega, by go_num, HNX.out⟩
        case measure => simp [intOf]; omega
      · have g2 : decide ((k:Int) < (xs.length : Int)) = false := decide_eq_false (by omega)
        have g3 : decide (k < xs.length) = false := decide_eq_false h1
        have h := hol.out
        rw [upK_all _ (by omega)] at h
        have HOL12 := Lib.hid h
        clear h hol
        obtain ⟨wl12, hwl12⟩ : ∃ wl, wl = wr := ⟨_, rfl⟩
        subst hwl12
        go_wp2_with fail
        go_loopw [25] (fun i wr => ∃ k : Nat, k ≤ ys.length ∧ i = .int .i64 k ∧ Hid (OwnL w A Bo l lo w.heap.size wr [(.slice Ao l.length co, l), (.slice A6 xs.length c6, xs.map (setBeg (-100))), (.slice A7 ys.length c7, upK (setBeg (-200)) k ys), (.slice A8 xs.length c8, xs)] [(.slice A3 la.length c3, la), (.slice A4 bs.length c4, bs), (.slice A5 la.length c5, la)])) (fun i _ => ys.length - (intOf i).toNat)
        case atStart => exact ⟨0, by omega, rfl, by have h := HOL12.out; show OwnL _ _ _ _ _ _ _ _ _; rw [upK_zero]; exact h⟩
        case round =>
          obtain ⟨k, hk, rfl, hol⟩ := hrel
          by_cases h1 : k < ys.length
          · have g1 : (k:Int) < (ys.length : Int) := by omega
            have i1 : (0:Int) ≤ (k:Int) := by omega
            have hm := hol.out.c.get (i := 2) rfl
            obtain ⟨gx, hgx⟩ : ∃ gx, A7 = some ⟨gx, 0, none⟩ := by
              rcases hm.2 with ⟨hv, hn⟩ | ⟨g, cap, cur, hv, _⟩
              · rw [upK_len] at hn; omega
              · injection hv with q1 q2 q3; exact ⟨g, q1⟩
            subst hgx
            obtain ⟨cs, hcs⟩ := hm.cell_block (b := gx) rfl
            have hrd := Made.rd' encCall.len hm
            obtain ⟨ad, hA, hal', hca⟩ := hrd.at_ (i := k) (by rw [upK_len]; exact h1)
            cases hA
            have hcell : ∃ u, wr.cell? ⟨gx, k * 10 + 5, none⟩ = some u := by
              obtain ⟨q0, q1, q2, q3, q4, q5, _⟩ := hca.call
              refine ⟨_, Eq.trans ?_ q5⟩
              congr 1
              unfold Addr.add
              split <;> simp_all
            obtain ⟨u0, hu0⟩ := hcell
            have hfz : wr.frozen? ⟨gx, k * 10 + 5, none⟩ = false := frozen_of_row _ _ _ _ _ hcs
            have hput := Made.cellPut encCall hm (i := k) (j := 5) (by rw [upK_len]; exact h1) (by omega) ((setBeg (-200)) ys[k]) (u := .int .i64 (-200)) (by rw [upK_get _ h1]; rfl)
            rw [upK_set _ h1] at hput
            have hnx := OwnL.turnC (C1 := [(.slice Ao l.length co, l), (.slice A6 xs.length c6, xs.map (setBeg (-100)))]) (C2 := [(.slice A8 xs.length c8, xs)]) hol.out hput ((Kept.refl (fun j => (Value.slice (some ⟨gx, 0, none⟩) ys.length c7).ownBlock = some j) wr).setCell (p := ⟨gx, k * 10 + 5, none⟩) (fun _ => rfl) _) (fun j e => .inl e)
            have HNX := Lib.hid hnx
            clear hm hcs hrd hca hput hnx hal'
            go_wp2_with fail
            go_roundw
            case rel => exact ⟨k + 1, by omega, by go_num, HNX.out⟩
            case measure => simp [intOf]; omega
          · have g2 : decide ((k:Int) < (ys.length : Int)) = false := decide_eq_false (by omega)
            have g3 : decide (k < ys.length) = false := decide_eq_false h1
            have h := hol.out
            rw [upK_all _ (by omega)] at h
            have HOL13 := Lib.hid h
            clear h hol
            obtain ⟨wl13, hwl13⟩ : ∃ wl, wl = wr := ⟨_, rfl⟩
            subst hwl13
            go_upto_region 21 with fail
            -- two appends
            have hxy : Outs Call.cells 10 45 w.heap.size wl13 [(.slice A6 xs.length c6, xs.map (setBeg (-100))), (.slice A7 ys.length c7, ys.map (setBeg (-200)))] := HOL13.out.c.sub (by simp)
            have HXY := Lib.hid hxy
            have hm6 := HOL13.out.c.get (i := 1) rfl
            have HM6 := Lib.hid hm6
            have HSZ : Hid (w.heap.size ≤ wl13.heap.size) := HOL13.out.bel.size
            clear hxy hm6
            go_upto_region 22 with (at_builtin; go_loud (refine wpList_appX (v := .slice A6 xs.length c6) (xs := xs.map (setBeg (-100))) (ys := [(⟨0, 0, ⟨0, 0, ⟨#[]⟩⟩, -300, 0, ⟨0, 0, ⟨#[]⟩⟩⟩ : Call), (⟨0, 0, ⟨0, 0, ⟨#[]⟩⟩, -300, 0, ⟨0, 0, ⟨#[]⟩⟩⟩ : Call), (⟨0, 0, ⟨0, 0, ⟨#[]⟩⟩, -300, 0, ⟨0, 0, ⟨#[]⟩⟩⟩ : Call)]) rowCall encCall rfl (.tmp 114) (.tmp 118) rfl w.heap.size rfl (HM6.out.alloc _) rfl rfl (by simp) (rd_many18 encCall wl13 [(⟨0, 0, ⟨0, 0, ⟨#[]⟩⟩, -300, 0, ⟨0, 0, ⟨#[]⟩⟩⟩ : Call), (⟨0, 0, ⟨0, 0, ⟨#[]⟩⟩, -300, 0, ⟨0, 0, ⟨#[]⟩⟩⟩ : Call), (⟨0, 0, ⟨0, 0, ⟨#[]⟩⟩, -300, 0, ⟨0, 0, ⟨#[]⟩⟩⟩ : Call)] #[.int .i64 0, .int .i64 0, .int .i64 0, .int .i64 0, .string ⟨#[]⟩, .int .i64 (-300), .int .i64 0, .int .i64 0, .int .i64 0, .string ⟨#[]⟩, .int .i64 0, .int .i64 0, .int .i64 0, .int .i64 0, .string ⟨#[]⟩, .int .i64 (-300), .int .i64 0, .int .i64 0, .int .i64 0, .string ⟨#[]⟩, .int .i64 0, .int .i64 0, .int .i64 0, .int .i64 0, .string ⟨#[]⟩, .int .i64 (-300), .int .i64 0, .int .i64 0, .int .i64 0, .string ⟨#[]⟩] rfl 45) (by simp only [List.length_map, List.length_cons, List.length_nil]; omega) (by unfold maxLen; simp only [List.length_map, List.length_cons, List.length_nil]; omega) (Nat.le_trans HSZ.out (by simp)) ?_); go_loud (intro vX wX hmX hm6' hgX hatX); go_loud (obtain ⟨AX, cX, rfl, hcX⟩ := hmX.form); go_loud (have hka := Kept.of_grown hgX); go_loud (have hol14 := OwnL.turnC (C1 := [(.slice Ao l.length co, l)]) (C2 := [(.slice A7 ys.length c7, ys.map (setBeg (-200))), (.slice A8 xs.length c8, xs)]) (HOL13.out.step ((Below.refl _ _).alloc (Nat.le_refl _) _)) hm6' (hka.mono (fun j _ e => e)) (fun j e => .inl e)); go_loud (have ho14 := Outs.turn (V1 := []) (V2 := [(.slice A7 ys.length c7, ys.map (setBeg (-200)))]) (HXY.out.below ((Below.refl _ _).alloc (Nat.le_refl _) _)) hmX (fun j hj _ hne => hgX.block j hj (fun e => hne e.symm)) (fun j e => by rcases hatX with q | q; exact .inl (q ▸ e); (rw [q] at e; injection e with e; exact .inr (by omega)))); go_loud (have HOL14 := Lib.hid hol14); go_loud (have HO14 := Lib.hid ho14); go_loud (have hlX : (xs.map (setBeg (-100)) ++ [(⟨0, 0, ⟨0, 0, ⟨#[]⟩⟩, -300, 0, ⟨0, 0, ⟨#[]⟩⟩⟩ : Call), (⟨0, 0, ⟨0, 0, ⟨#[]⟩⟩, -300, 0, ⟨0, 0, ⟨#[]⟩⟩⟩ : Call), (⟨0, 0, ⟨0, 0, ⟨#[]⟩⟩, -300, 0, ⟨0, 0, ⟨#[]⟩⟩⟩ : Call)]).length = xs.length + 3 := by simp); go_loud (rw [hlX]); go_loud (clear hmX hm6' hgX hatX hka hol14 ho14 hcX))
            have HSZ4 : Hid (w.heap.size ≤ wX.heap.size) := HOL14.out.bel.size
            have hm7 := HOL14.out.c.get (i := 2) rfl
            have HM7 := Lib.hid hm7
            clear hm7
            go_upto_region 23 with (at_builtin; go_loud (refine wpList_appX (v := .slice A7 ys.length c7) (xs := ys.map (setBeg (-200))) (ys := [(⟨0, 0, ⟨0, 0, ⟨#[]⟩⟩, -400, 0, ⟨0, 0, ⟨#[]⟩⟩⟩ : Call), (⟨0, 0, ⟨0, 0, ⟨#[]⟩⟩, -400, 0, ⟨0, 0, ⟨#[]⟩⟩⟩ : Call), (⟨0, 0, ⟨0, 0, ⟨#[]⟩⟩, -400, 0, ⟨0, 0, ⟨#[]⟩⟩⟩ : Call)]) rowCall encCall rfl (.tmp 120) (.tmp 124) rfl w.heap.size rfl (HM7.out.alloc _) rfl rfl (by simp) (rd_many18 encCall wX [(⟨0, 0, ⟨0, 0, ⟨#[]⟩⟩, -400, 0, ⟨0, 0, ⟨#[]⟩⟩⟩ : Call), (⟨0, 0, ⟨0, 0, ⟨#[]⟩⟩, -400, 0, ⟨0, 0, ⟨#[]⟩⟩⟩ : Call), (⟨0, 0, ⟨0, 0, ⟨#[]⟩⟩, -400, 0, ⟨0, 0, ⟨#[]⟩⟩⟩ : Call)] #[.int .i64 0, .int .i64 0, .int .i64 0, .int .i64 0, .string ⟨#[]⟩, .int .i64 (-400), .int .i64 0, .int .i64 0, .int .i64 0, .string ⟨#[]⟩, .int .i64 0, .int .i64 0, .int .i64 0, .int .i64 0, .string ⟨#[]⟩, .int .i64 (-400), .int .i64 0, .int .i64 0, .int .i64 0, .string ⟨#[]⟩, .int .i64 0, .int .i64 0, .int .i64 0, .int .i64 0, .string ⟨#[]⟩, .int .i64 (-400), .int .i64 0, .int .i64 0, .int .i64 0, .string ⟨#[]⟩] rfl 45) (by simp only [List.length_map, List.length_cons, List.length_nil]; omega) (by unfold maxLen; simp only [List.length_map, List.length_cons, List.length_nil]; omega) (Nat.le_trans HSZ4.out (by simp)) ?_); go_loud (intro vY wY hmY hm7' hgY hatY); go_loud (obtain ⟨AY, cY, rfl, hcY⟩ := hmY.form); go_loud (have hka := Kept.of_grown hgY); go_loud (have hol15 := OwnL.turnC (C1 := [(.slice Ao l.length co, l), (.slice A6 xs.length c6, xs.map (setBeg (-100)))]) (C2 := [(.slice A8 xs.length c8, xs)]) (HOL14.out.step ((Below.refl _ _).alloc (Nat.le_refl _) _)) hm7' (hka.mono (fun j _ e => e)) (fun j e => .inl e)); go_loud (have ho15 := Outs.turn (V1 := [(.slice AX (xs.map (setBeg (-100)) ++ [(⟨0, 0, ⟨0, 0, ⟨#[]⟩⟩, -300, 0, ⟨0, 0, ⟨#[]⟩⟩⟩ : Call), (⟨0, 0, ⟨0, 0, ⟨#[]⟩⟩, -300, 0, ⟨0, 0, ⟨#[]⟩⟩⟩ : Call), (⟨0, 0, ⟨0, 0, ⟨#[]⟩⟩, -300, 0, ⟨0, 0, ⟨#[]⟩⟩⟩ : Call)]).length cX, xs.map (setBeg (-100)) ++ [(⟨0, 0, ⟨0, 0, ⟨#[]⟩⟩, -300, 0, ⟨0, 0, ⟨#[]⟩⟩⟩ : Call), (⟨0, 0, ⟨0, 0, ⟨#[]⟩⟩, -300, 0, ⟨0, 0, ⟨#[]⟩⟩⟩ : Call), (⟨0, 0, ⟨0, 0, ⟨#[]⟩⟩, -300, 0, ⟨0, 0, ⟨#[]⟩⟩⟩ : Call)])]) (V2 := []) (HO14.out.below ((Below.refl _ _).alloc (Nat.le_refl _) _)) hmY (fun j hj _ hne => hgY.block j hj (fun e => hne e.symm)) (fun j e => by rcases hatY with q | q; exact .inl (q ▸ e); (rw [q] at e; injection e with e; exact .inr (by omega)))); go_loud (have HOL15 := Lib.hid hol15); go_loud (have HO15 := Lib.hid ho15); go_loud (have hlY : (ys.map (setBeg (-200)) ++ [(⟨0, 0, ⟨0, 0, ⟨#[]⟩⟩, -400, 0, ⟨0, 0, ⟨#[]⟩⟩⟩ : Call), (⟨0, 0, ⟨0, 0, ⟨#[]⟩⟩, -400, 0, ⟨0, 0, ⟨#[]⟩⟩⟩ : Call), (⟨0, 0, ⟨0, 0, ⟨#[]⟩⟩, -400, 0, ⟨0, 0, ⟨#[]⟩⟩⟩ : Call)]).length = ys.length + 3 := by simp); go_loud (rw [hlY]); go_loud (clear hmY hm7' hgY hatY hka hol15 ho15 hcY))
            clear hlX hlY
            go_wp2_with fail
            go_loopw [28] (fun i wr => ∃ k : Nat, k ≤ xs.length ∧ i = .int .i64 k ∧ wr = wY) (fun i _ => xs.length - (intOf i).toNat)
            case atStart => exact ⟨0, by omega, rfl, rfl⟩
            case round =>
              obtain ⟨k, hk, rfl, rfl⟩ := hrel
              by_cases h1 : k < xs.length
              · have g1 : (k:Int) < (xs.length : Int) := by omega
                have i1 : (0:Int) ≤ (k:Int) := by omega
                have hrz := Made.rd' encCall.len (HOL15.out.c.get (i := 3) rfl)
                obtain ⟨az, hAz, halz, hcz⟩ := hrz.at_ (i := k) h1
                obtain ⟨z0, z1, z2, z3, z4, z5, z6, z7, z8, z9⟩ := hcz.call
                have hzb := HXB.out _ (List.getElem_mem h1)
                cases hAz
                generalize xs[k].beg = zb at *
                have hzb2 : decide (zb < 0) = false := decide_eq_false (by omega)
                clear hrz hcz z0 z1 z2 z3 z4 z6 z7 z8 z9 hzb halz
                have hrd := Made.rd' encCall.len (HOL15.out.c.get (i := 1) rfl)
                obtain ⟨ad, hA, hal', hca⟩ := hrd.at_ (i := k) (by simpa using h1)
                have he : (xs.map (setBeg (-100)))[k]'(by simpa using h1) = setBeg (-100) xs[k] := by simp
                rw [he] at hca
                obtain ⟨c0, c1, c2, c3', c4', c5', c6', c7', c8', c9⟩ := hca.call
                have x5 : wr.cell? ⟨(ad.add (k * 10)).block, (ad.add (k * 10)).off + 5, none⟩ = some (.int .i64 (-100)) := c5'
                cases hA
                clear hrd hca he c0 c1 c2 c3' c4' c5' c6' c7' c8' c9 hal'
                go_wp2_with fail
                go_roundw
                case rel => exact ⟨k + 1, by omega, by go_num, (by first | rfl | trivial)⟩
                case measure => simp [intOf]; omega
              · have g2 : decide ((k:Int) < (xs.length : Int)) = false := decide_eq_false (by omega)
                have g3 : decide (k < xs.length) = false := decide_eq_false h1
                obtain ⟨wr15, hwr15⟩ : ∃ wo, wo = wr := ⟨_, rfl⟩
                subst hwr15
                go_wp2_with fail
                go_loopw [29] (fun i wr => ∃ k : Nat, k ≤ ys.length ∧ i = .int .i64 k ∧ wr = wr15) (fun i _ => ys.length - (intOf i).toNat)
                case atStart => exact ⟨0, by omega, rfl, rfl⟩
                case round =>
                  obtain ⟨k, hk, rfl, rfl⟩ := hrel
                  by_cases h1 : k < ys.length
                  · have g1 : (k:Int) < (ys.length : Int) := by omega
                    have i1 : (0:Int) ≤ (k:Int) := by omega
                    have hrd := Made.rd' encCall.len (HOL15.out.c.get (i := 2) rfl)
                    obtain ⟨ad, hA, hal', hca⟩ := hrd.at_ (i := k) (by simpa using h1)
                    have he : (ys.map (setBeg (-200)))[k]'(by simpa using h1) = setBeg (-200) ys[k] := by simp
                    rw [he] at hca
                    obtain ⟨c0, c1, c2, c3', c4', c5', c6', c7', c8', c9⟩ := hca.call
                    have x5 : wr.cell? ⟨(ad.add (k * 10)).block, (ad.add (k * 10)).off + 5, none⟩ = some (.int .i64 (-200)) := c5'
                    cases hA
                    clear hrd hca he c0 c1 c2 c3' c4' c5' c6' c7' c8' c9 hal'
                    go_wp2_with fail
                    go_roundw
                    case rel => exact ⟨k + 1, by omega, by go_num, (by first | rfl | trivial)⟩
                    case measure => simp [intOf]; omega
                  · have g2 : decide ((k:Int) < (ys.length : Int)) = false := decide_eq_false (by omega)
                    have g3 : decide (k < ys.length) = false := decide_eq_false h1
                    obtain ⟨w16, hw16⟩ : ∃ wo, wo = wr := ⟨_, rfl⟩
                    subst hw16
                    go_wp2_with fail
                    have hob : OwnB w A l w.heap.size w16 (.slice Ao l.length co) [(.slice AX (xs.map (setBeg (-100)) ++ [(⟨0, 0, ⟨0, 0, ⟨#[]⟩⟩, -300, 0, ⟨0, 0, ⟨#[]⟩⟩⟩ : Call), (⟨0, 0, ⟨0, 0, ⟨#[]⟩⟩, -300, 0, ⟨0, 0, ⟨#[]⟩⟩⟩ : Call), (⟨0, 0, ⟨0, 0, ⟨#[]⟩⟩, -300, 0, ⟨0, 0, ⟨#[]⟩⟩⟩ : Call)]).length cX, xs.map (setBeg (-100)) ++ [(⟨0, 0, ⟨0, 0, ⟨#[]⟩⟩, -300, 0, ⟨0, 0, ⟨#[]⟩⟩⟩ : Call), (⟨0, 0, ⟨0, 0, ⟨#[]⟩⟩, -300, 0, ⟨0, 0, ⟨#[]⟩⟩⟩ : Call), (⟨0, 0, ⟨0, 0, ⟨#[]⟩⟩, -300, 0, ⟨0, 0, ⟨#[]⟩⟩⟩ : Call)]), (.slice AY (ys.map (setBeg (-200)) ++ [(⟨0, 0, ⟨0, 0, ⟨#[]⟩⟩, -400, 0, ⟨0, 0, ⟨#[]⟩⟩⟩ : Call), (⟨0, 0, ⟨0, 0, ⟨#[]⟩⟩, -400, 0, ⟨0, 0, ⟨#[]⟩⟩⟩ : Call), (⟨0, 0, ⟨0, 0, ⟨#[]⟩⟩, -400, 0, ⟨0, 0, ⟨#[]⟩⟩⟩ : Call)]).length cY, ys.map (setBeg (-200)) ++ [(⟨0, 0, ⟨0, 0, ⟨#[]⟩⟩, -400, 0, ⟨0, 0, ⟨#[]⟩⟩⟩ : Call), (⟨0, 0, ⟨0, 0, ⟨#[]⟩⟩, -400, 0, ⟨0, 0, ⟨#[]⟩⟩⟩ : Call), (⟨0, 0, ⟨0, 0, ⟨#[]⟩⟩, -400, 0, ⟨0, 0, ⟨#[]⟩⟩⟩ : Call)])] [(.slice A3 la.length c3, la), (.slice A4 bs.length c4, bs), (.slice A5 la.length c5, la)] (.slice none 0 0) [] := ⟨HOL15.out.bel, HOL15.out.la, HOL15.out.c.get (i := 0) rfl, HO15.out, HOL15.out.i, ⟨HOL15.out.b, Made.nil _ _ _⟩, Nat.le_refl _⟩
                    have HOB := Lib.hid hob
                    clear hob
                    have h3 := (HOB.out.i.get (i := 0) rfl).addr
                    refine (bookIntZ w.heap.size w.heap.size _ _ A3 la.length c3 h3.1 h3.2 w16 HOB.out.b (by simp) HOB.out.bel.size).mono ?_
                    rintro e w17 ⟨rfl, ⟨v17, hz17⟩, hk17⟩
                    have HOB7 := Lib.hid (HOB.out.step hk17 hz17)
                    clear h3 hz17 hk17
                    dsimp only
                    go_wp2_with fail
                    have h4 := (HOB7.out.i.get (i := 1) rfl).addr
                    refine (bookIntZ w.heap.size w.heap.size _ _ A4 bs.length c4 h4.1 h4.2 w17 HOB7.out.b (by have := bkOf_le (.slice A3 la.length c3); simp; omega) HOB7.out.bel.size).mono ?_
                    rintro e w18 ⟨rfl, ⟨v18, hz18⟩, hk18⟩
                    have HOB8 := Lib.hid (HOB7.out.step hk18 hz18)
                    clear h4 hz18 hk18
                    dsimp only
                    go_wp2_with fail
                    have h5 := (HOB8.out.i.get (i := 2) rfl).addr
                    refine (bookIntZ w.heap.size w.heap.size _ _ A5 la.length c5 h5.1 h5.2 w18 HOB8.out.b (by have := bkOf_le (.slice A3 la.length c3); have := bkOf_le (.slice A4 bs.length c4); simp; omega) HOB8.out.bel.size).mono ?_
                    rintro e w19 ⟨rfl, ⟨v19, hz19⟩, hk19⟩
                    have HOB9 := Lib.hid (HOB8.out.step hk19 hz19)
                    clear h5 hz19 hk19
                    have hiz := HOB9.out.i.iz
                    have hli := hiz.lists
                    have hln := hiz.lens (m := 1466015503697) (by intro p hp; simp only [List.map_cons, List.map_nil, List.mem_cons, List.not_mem_nil, or_false] at hp; rcases hp with rfl | rfl | rfl <;> simp <;> omega)
                    have hlc := outs_length (([(.slice A3 la.length c3, la), (.slice A4 bs.length c4, bs), (.slice A5 la.length c5, la)] : List (Value × List Nat)).map fun p => (p.1, p.2.map Int.ofNat))
                    have hle : (([(.slice A3 la.length c3, la), (.slice A4 bs.length c4, bs), (.slice A5 la.length c5, la)] : List (Value × List Nat)).map fun p => (p.1, p.2.map Int.ofNat)).flatMap (fun p => bkOf p.1) = [] ++ bkOf (.slice A3 la.length c3) ++ bkOf (.slice A4 bs.length c4) ++ bkOf (.slice A5 la.length c5) := by simp
                    rw [hle] at hli hln hlc
                    have HLI := Lib.hid hli
                    have HLN := Lib.hid hln
                    have HLC := Lib.hid hlc
                    clear hiz hli hln hlc hle
                    dsimp only
                    go_wp2_with fail
                    refine (apartZ w.heap.size w.heap.size v19 _ w19 HOB9.out.b (Nat.le_trans HLC.out (by simp)) (fun q hq => by have := HLN.out q hq; omega) HLI.out HOB9.out.bel.size).mono ?_
                    rintro e w20 ⟨rfl, hk20⟩
                    obtain ⟨hb20, ha20, ho20, hO20⟩ := HOB9.out.apart HLI.out hk20
                    have HB20 := Lib.hid hb20
                    have HA20 := Lib.hid (ha20.more hb20.size)
                    have HOW20 := Lib.hid ho20
                    have HO20 := Lib.hid hO20
                    clear hk20 hb20 ha20 ho20 hO20
                    dsimp only
                    go_wp2_with fail
                    refine (sameCalls Ao A co c l.length l rfl w20 (by omega) (Made.rd' encCall.len HOW20.out) HA20.out).mono ?_
                    rintro e w21 ⟨rfl, q21, hw21⟩
                    have hs21 : Below w20.heap.size w20 w21 := by rw [hw21]; exact below_drewN (Below.refl _ _) _
                    have HB21 := Lib.hid (HB20.out.trans (hs21.mono HB20.out.size))
                    have HOW21 := Lib.hid (HOW20.out.below hs21 (fun b e => (HOW20.out.lt b e).2))
                    have HO21 := Lib.hid (HO20.out.below hs21)
                    clear hw21 hs21
                    have hrx := Made.rd' encCall.len (HO21.out.get (i := 0) rfl)
                    obtain ⟨adx, hAX, halx, hcx⟩ := hrx.at_ (i := xs.length) (by simp)
                    rw [show (xs.map (setBeg (-100)) ++ [(⟨0, 0, ⟨0, 0, ⟨#[]⟩⟩, -300, 0, ⟨0, 0, ⟨#[]⟩⟩⟩ : Call), (⟨0, 0, ⟨0, 0, ⟨#[]⟩⟩, -300, 0, ⟨0, 0, ⟨#[]⟩⟩⟩ : Call), (⟨0, 0, ⟨0, 0, ⟨#[]⟩⟩, -300, 0, ⟨0, 0, ⟨#[]⟩⟩⟩ : Call)])[xs.length]'(by simp) = (⟨0, 0, ⟨0, 0, ⟨#[]⟩⟩, -300, 0, ⟨0, 0, ⟨#[]⟩⟩⟩ : Call) by simp] at hcx
                    have hry := Made.rd' encCall.len (HO21.out.get (i := 1) rfl)
                    obtain ⟨ady, hAY, haly, hcy⟩ := hry.at_ (i := ys.length) (by simp)
                    rw [show (ys.map (setBeg (-200)) ++ [(⟨0, 0, ⟨0, 0, ⟨#[]⟩⟩, -400, 0, ⟨0, 0, ⟨#[]⟩⟩⟩ : Call), (⟨0, 0, ⟨0, 0, ⟨#[]⟩⟩, -400, 0, ⟨0, 0, ⟨#[]⟩⟩⟩ : Call), (⟨0, 0, ⟨0, 0, ⟨#[]⟩⟩, -400, 0, ⟨0, 0, ⟨#[]⟩⟩⟩ : Call)])[ys.length]'(by simp) = (⟨0, 0, ⟨0, 0, ⟨#[]⟩⟩, -400, 0, ⟨0, 0, ⟨#[]⟩⟩⟩ : Call) by simp] at hcy
                    obtain ⟨c0, c1, c2, c3', c4', cx5, c6', c7', c8', c9⟩ := hcx.call
                    obtain ⟨d0, d1, d2, d3, d4, cy5, d6, d7, d8, d9⟩ := hcy.call
                    have gx1 : (0:Int) ≤ (xs.length : Int) := by omega
                    have gx2 : (xs.length : Int) < (xs.length : Int) + 3 := by omega
                    have gx3 : (xs.length : Int) < ((xs.length + 3 : Nat) : Int) := by omega
                    have gy1 : (0:Int) ≤ (ys.length : Int) := by omega
                    have gy2 : (ys.length : Int) < (ys.length : Int) + 3 := by omega
                    have gy3 : (ys.length : Int) < ((ys.length + 3 : Nat) : Int) := by omega
                    clear hrx hry hcx hcy c0 c1 c2 c3' c4' c6' c7' c8' c9 d0 d1 d2 d3 d4 d6 d7 d8 d9 halx haly
                    cases hAX
                    cases hAY
                    dsimp only at cx5 cy5 ⊢
                    go_wp2_with fail
                    go_loopw [30] (fun i wr => ∃ k : Nat, k ≤ l.length ∧ i = .int .i64 k ∧ Hid (Made Call.cells 10 45 w.heap.size wr (.slice Ao l.length co) (upK shutC k l)) ∧ Hid (Below w.heap.size w wr)) (fun i _ => l.length - (intOf i).toNat)
                    case atStart => exact ⟨0, by omega, rfl, by show Made _ _ _ _ _ _ _; rw [upK_zero]; exact HOW21.out, HB21.out⟩
                    case round =>
                      obtain ⟨k, hk, rfl, hmd, hbr⟩ := hrel
                      by_cases h1 : k < l.length
                      · have g1 : (k:Int) < (l.length : Int) := by omega
                        have i1 : (0:Int) ≤ (k:Int) := by omega
                        have hm := hmd.out
                        obtain ⟨gx, hgx⟩ : ∃ gx, Ao = some ⟨gx, 0, none⟩ := by
                          rcases hm.2 with ⟨hv, hn⟩ | ⟨g, cap, cur, hv, _⟩
                          · rw [upK_len] at hn; omega
                          · injection hv with q1 q2 q3; exact ⟨g, q1⟩
                        subst hgx
                        have hgw : w.heap.size ≤ gx := (hm.lt gx rfl).1
                        have hkl : k < (upK shutC k l).length := by rw [upK_len]; exact h1
                        obtain ⟨cs, hcs⟩ := hm.cell_block (b := gx) rfl
                        have hce : ∀ j, 5 < j → j < 10 → ∃ u, wr.cell? ⟨gx, k * 10 + j, none⟩ = some u := fun j h5 h10 => by
                          have hrd := Made.rd' encCall.len hm
                          obtain ⟨ad, hA, _, hca⟩ := hrd.at_ hkl
                          cases hA
                          have hj : j < ((upK shutC k l)[k]).cells.length := h10
                          refine ⟨_, Eq.trans ?_ (hca j _ (List.getElem?_eq_getElem hj))⟩
                          congr 1
                          unfold Addr.add
                          repeat' split
                          all_goals simp_all
                          all_goals omega
                        obtain ⟨u6, hu6⟩ := hce 6 (by omega) (by omega)
                        obtain ⟨u7, hu7⟩ := hce 7 (by omega) (by omega)
                        obtain ⟨u8, hu8⟩ := hce 8 (by omega) (by omega)
                        obtain ⟨u9, hu9⟩ := hce 9 (by omega) (by omega)
                        have hfz : ∀ j, wr.frozen? ⟨gx, j, none⟩ = false := fun j => frozen_of_row _ _ _ _ _ hcs
                        obtain ⟨x, hx⟩ : ∃ x, x = l[k] := ⟨_, rfl⟩
                        have hget := upK_get shutC h1
                        rw [← hx] at hget
                        have p1 := Made.cellPut encCall hm (i := k) (j := 6) hkl (by omega) { x with fin := -1 } (u := .int .i64 (-1)) (by rw [hget]; rfl)
                        have p2 := Made.cellPut encCall p1 (i := k) (j := 7) (by simpa using hkl) (by omega) { x with fin := -1, res := ⟨0, x.res.slot, x.res.value⟩ } (u := .int .i64 0) (by rw [List.getElem_set_self]; rfl)
                        have p3 := Made.cellPut encCall p2 (i := k) (j := 8) (by simpa using hkl) (by omega) { x with fin := -1, res := ⟨0, 0, x.res.value⟩ } (u := .int .i64 0) (by rw [List.getElem_set_self]; rfl)
                        have p4 := Made.cellPut encCall p3 (i := k) (j := 9) (by simpa using hkl) (by omega) (shutC x) (u := .string ⟨#[]⟩) (by rw [List.getElem_set_self]; rfl)
                        rw [List.set_set, List.set_set, List.set_set, hx, upK_set _ h1] at p4
                        have P4 := Lib.hid p4
                        have bnew := (((hbr.out.setCell (p := ⟨gx, k * 10 + 6, none⟩) hgw (.int .i64 (-1))).setCell (p := ⟨gx, k * 10 + 7, none⟩) hgw (.int .i64 0)).setCell (p := ⟨gx, k * 10 + 8, none⟩) hgw (.int .i64 0)).setCell (p := ⟨gx, k * 10 + 9, none⟩) hgw (.string ⟨#[]⟩)
                        have BNEW := Lib.hid bnew
                        have f6 := hfz (k * 10 + 6)
                        have f7 := hfz (k * 10 + 7)
                        have f8 := hfz (k * 10 + 8)
                        have f9 := hfz (k * 10 + 9)
                        have o1 : ∀ (V : World) (i j : Nat) (v : Value), i ≠ j → (V.setCell ⟨gx, k * 10 + i, none⟩ v).cell? ⟨gx, k * 10 + j, none⟩ = V.cell? ⟨gx, k * 10 + j, none⟩ := fun V i j v hij => World.cell?_setCell_other _ _ _ _ (fun q => hij (by have := congrArg Addr.off q; simp at this; omega))
                        have e7 := (o1 wr 6 7 (.int .i64 (-1)) (by omega)).trans hu7
                        have e8 := (o1 _ 7 8 (.int .i64 0) (by omega)).trans ((o1 wr 6 8 (.int .i64 (-1)) (by omega)).trans hu8)
                        have e9 := (o1 _ 8 9 (.int .i64 0) (by omega)).trans ((o1 _ 7 9 (.int .i64 0) (by omega)).trans ((o1 wr 6 9 (.int .i64 (-1)) (by omega)).trans hu9))
                        have e8b := (o1 wr 6 8 (.int .i64 (-1)) (by omega)).trans hu8
                        have e9b := (o1 wr 6 9 (.int .i64 (-1)) (by omega)).trans hu9
                        have e9c := (o1 _ 7 9 (.int .i64 0) (by omega)).trans ((o1 wr 6 9 (.int .i64 (-1)) (by omega)).trans hu9)
                        clear p1 p2 p3 p4 hget hx hcs hce hm hfz o1 bnew
                        go_wp2_with fail
                        go_roundw
                        case rel => exact ⟨k + 1, by omega, by go_num, P4.out, BNEW.out⟩
                        case measure => simp [intOf]; omega
                      · have g2 : decide ((k:Int) < (l.length : Int)) = false := decide_eq_false (by omega)
                        have g3 : decide (k < l.length) = false := decide_eq_false h1
                        have h := hmd.out
                        rw [upK_all _ (by omega)] at h
                        have HML := Lib.hid h
                        have hvs : ∀ x ∈ l.map shutC, x.op.value.size ≤ 9223372036854775807 := fun x hx => by obtain ⟨y, hy, rfl⟩ := List.mem_map.1 hx; exact HV.out y hy
                        have HVS := Lib.hid hvs
                        have hss := search_shut l
                        clear h hmd hvs
                        go_wp2_with fail
                        refine (search_prog Ao co l.length (l.map shutC) (by simp) wr (by simp; omega) HVS.out (Made.rd' encCall.len HML.out)).mono ?_
                        rintro e w30 ⟨v30, rfl, hm30, hb30⟩
                        obtain ⟨A30, c30, rfl, hc30⟩ := hm30.form
                        have HB30 := Lib.hid (hbr.out.trans (hb30.mono hbr.out.size))
                        clear hm30 hb30 hc30
                        rcases hss with hz | ⟨_, hz⟩
                        · generalize (searchL (l.map shutC)).2.2 = ez at *
                          generalize (searchL (l.map shutC)).2.1 = ok3 at *
                          generalize (searchL (l.map shutC)).1.length = n3 at *
                          have hz1 : (ez == 0) = false := by simpa using hz
                          have hz2 : (ez != 0) = true := by simpa using hz
                          have hz3 : decide (ez = 0) = false := decide_eq_false hz
                          clear hz
                          dsimp only
                          go_wp2_with fail
                          refine (works18 _).mono ?_
                          rintro e w31 ⟨rfl, hb31⟩
                          have HB31 := Lib.hid (HB30.out.trans (hb31.mono HB30.out.size))
                          clear hb31
                          dsimp only
                          go_wp2_with fail
                          go_ret
                          exact ⟨rfl, HB31.out⟩
                        · rw [hz]
                          clear hz
                          dsimp only
                          go_wp2_with fail
                          refine (works18 _).mono ?_
                          rintro e w31 ⟨rfl, hb31⟩
                          have HB31 := Lib.hid (HB30.out.trans (hb31.mono HB30.out.size))
                          clear hb31
                          dsimp only
                          go_wp2_with fail
                          go_ret
                          exact ⟨rfl, HB31.out⟩
theorem own18_law (W : World) (A : Option Addr) (c n : Nat) (xs : List Call) (hn : n = xs.length) (_ : n ≤ c) (hrd : Rd Call.cells 10 W W.heap.size A xs) (hwf : ∀ o ∈ xs, o.wf) (hsz : xs.length * 96 ≤ 140737488351232)
    (Bo : Option Addr) (cb nb : Nat) (ys : List Call) (hnb : nb = ys.length) (_ : nb ≤ cb) (hrdb : Rd Call.cells 10 W W.heap.size Bo ys) (hwfb : ∀ o ∈ ys, o.wf) (hszb : ys.length * 96 ≤ 140737488351232) (row : Int) (hrow : I64 row) :
    Calls Try.prog 6 #[.slice A n c, .slice Bo nb cb, .int .i64 row] W fun e w' => e = .returned (.bool true) ∧ Below W.heap.size W w' :=
  own18_calls A c n xs hn Bo cb nb ys hnb row hrow W (by omega) (by omega) (fun o ho => (hwf o ho).op.value) (fun o ho => (hwfb o ho).op.value) hrd hrdb
end Go.Proofs.Ytmfidhlhcochoaa
