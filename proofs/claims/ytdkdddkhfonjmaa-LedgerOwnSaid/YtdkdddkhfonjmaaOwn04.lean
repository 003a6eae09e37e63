/- LedgerOwn answers true, whatever the two scripts. Conditions: sizes within the form's own reach. -/
import Derived.Test.YtdkdddkhfonjmaaOwn04Ap
import Derived.Deep.RegionHeld3
namespace Go.Proofs.Ytdkdddkhfonjmaa
open Go.RowKit
set_option linter.unusedVariables false
set_option linter.unusedSimpArgs false

set_option maxRecDepth 100000 in
set_option maxHeartbeats 16000000 in
theorem own04_calls (A A2 : Option Addr) (c n c2 n2 : Nat) (xs ys : List Op) (hn : n = xs.length) (hn2 : n2 = ys.length) (w : World) (hl : xs.length * 32 ≤ 140737488351232) (hl2 : ys.length * 32 ≤ 140737488351232)
    (hv : ∀ o ∈ xs, o.value.size ≤ 9223372036854775807) (hv2 : ∀ o ∈ ys, o.value.size ≤ 9223372036854775807) (ha : Rd Op.cells 3 w w.heap.size A xs) (ha2 : Rd Op.cells 3 w w.heap.size A2 ys) :
    Calls Try.prog 4 #[.slice A n c, .slice A2 n2 c2] w fun e w' => e = .returned (.bool true) ∧ Below w.heap.size w w' := by
  subst hn hn2
  have HA := Lib.hid ha
  have HA2 := Lib.hid ha2
  have HV := Lib.hid hv
  have HV2 := Lib.hid hv2
  clear ha ha2 hv hv2
  go_enter Try.func4, Try.ntmps4
  go_wp2_with fail
  refine (newLedger w).mono ?_
  rintro e w1 ⟨b1, mb1, rfl, hl1, hbb1, hmb1, hb1⟩
  dsimp only
  have HL1 := Lib.hid hl1
  have HB1 := Lib.hid hb1
  have HP1 := Lib.hid (And.intro hbb1 hmb1)
  clear hl1 hb1 hbb1 hmb1
  go_wp2_with fail
  refine (newLedger w1).mono ?_
  rintro e w2 ⟨b2, mb2, rfl, hl3, hbb2, hmb2, hb2⟩
  have HT2 : Hid (Two w2 w.heap.size b1 mb1 b2 mb2 [] []) := ⟨HL1.out.below hb2, hl3, by have := HP1.out; have := HB1.out.size; omega, by have := HL1.out.lt; omega⟩
  have HB2 := Lib.hid (HB1.out.trans (hb2.mono HB1.out.size))
  have hp1 := fun W => ptr_nil W b1
  have hp2 := fun W => ptr_nil W b2
  clear hl3 hbb2 hmb2 hb2 HL1 HB1 HP1
  dsimp only
  go_wp2_with fail
  refine (works04 w2).mono ?_
  rintro e w3 ⟨rfl, hb3⟩
  have HT3 := Lib.hid (HT2.out.below hb3)
  have HB3 := Lib.hid (HB2.out.trans (hb3.mono HB2.out.size))
  clear hb3 HT2 HB2 hp1 hp2
  dsimp only
  go_wp2_with fail

  go_loopw [7] (fun i wr => ∃ k : Nat, k ≤ xs.length ∧ i = .int .i64 k ∧ Hid (Two wr w.heap.size b1 mb1 b2 mb2 (playC [] (xs.take k)) []) ∧ Hid (Below w.heap.size w wr)) (fun i _ => xs.length - (intOf i).toNat)
  case atStart => exact ⟨0, by omega, rfl, HT3.out, HB3.out⟩
  case round =>
    obtain ⟨k, hk, rfl, htr, hbr⟩ := hrel
    by_cases h1 : k < xs.length
    · obtain ⟨ad, hAd, _, hca⟩ := ((HA.out.below hbr.out).more hbr.out.size).at_ h1
      subst hAd
      have g1 : decide ((k:Int) < (xs.length:Int)) = true := decide_eq_true (by omega)
      have g1b : decide (k < xs.length) = true := decide_eq_true h1
      have i1 : (k:Int) < (xs.length:Int) := by omega
      have k1 : IntKind.i64.wrap ((k:Int) + 1) = (k:Int) + 1 := IntWalk.i64_in _ (by omega)
      obtain ⟨c0, c1', c2'⟩ := hca.three
      have hvk := HV.out _ (List.getElem_mem h1)
      have hst := Lib.hid (playC_take_succ [] xs k h1)
      clear hca
      generalize xs[k] = o at *
      generalize playC [] (xs.take k) = es at *
      have HDO := Lib.hid (doLedger b1 mb1 es o hvk wr htr.out.one)
      go_wp2_with fail
      refine HDO.out.mono ?_
      rintro e w4 ⟨rfl, hl4, hk4⟩
      have hk4' : Kept (LedS b1 mb1) wr w4 := ⟨hk4.os, hk4.tape, hk4.output, hk4.size, hk4.block⟩
      have HT4 := Lib.hid (htr.out.at1 hl4 hk4')
      have HB4 := Lib.hid (keptA hbr.out hk4' (fun j q => by have := htr.out.hb; rcases q with q | q <;> omega) (Nat.le_refl _))
      clear hl4 hk4 hk4'
      dsimp only
      go_wp2_with fail
      go_roundw
      case rel => exact ⟨k + 1, by omega, by go_num, by rw [hst.out]; exact HT4.out, HB4.out⟩
      case measure => simp [intOf]; omega
    · have g1 : decide ((k:Int) < (xs.length:Int)) = false := decide_eq_false (by omega)
      have g1b : decide (k < xs.length) = false := decide_eq_false h1
      obtain rfl : k = xs.length := by omega
      rw [List.take_length] at htr
      have hlc0 := rising_length (htr.out.one.rising)
      generalize hcs : playC [] xs = cs at *
      have HCS := Lib.hid hcs
      have HTA : Hid (Two wr w.heap.size b1 mb1 b2 mb2 cs (playC [] (ys.take 0))) := htr.out
      have HBA := Lib.hid hbr.out
      clear htr hbr g1 g1b h1 hcs HT3 HB3
      go_wp2_with fail
      generalize wr = w4 at *
      go_loopw [8] (fun i wr => ∃ k : Nat, k ≤ ys.length ∧ i = .int .i64 k ∧ Hid (Two wr w.heap.size b1 mb1 b2 mb2 cs (playC [] (ys.take k))) ∧ Hid (Below w.heap.size w wr)) (fun i _ => ys.length - (intOf i).toNat)
      case atStart => exact ⟨0, by omega, rfl, HTA.out, HBA.out⟩
      case round =>
        obtain ⟨k, hk, rfl, htr, hbr⟩ := hrel
        by_cases h1 : k < ys.length
        · obtain ⟨ad, hAd, _, hca⟩ := ((HA2.out.below hbr.out).more hbr.out.size).at_ h1
          subst hAd
          have g1 : decide ((k:Int) < (ys.length:Int)) = true := decide_eq_true (by omega)
          have g1b : decide (k < ys.length) = true := decide_eq_true h1
          have i1 : (k:Int) < (ys.length:Int) := by omega
          have k1 : IntKind.i64.wrap ((k:Int) + 1) = (k:Int) + 1 := IntWalk.i64_in _ (by omega)
          obtain ⟨c0, c1', c2'⟩ := hca.three
          have hvk := HV2.out _ (List.getElem_mem h1)
          have hst := Lib.hid (playC_take_succ [] ys k h1)
          clear hca
          generalize ys[k] = o at *
          generalize playC [] (ys.take k) = es at *
          have HDO := Lib.hid (doLedger b2 mb2 es o hvk wr htr.out.two)
          go_wp2_with fail
          refine HDO.out.mono ?_
          rintro e w4 ⟨rfl, hl4, hk4⟩
          have hk4' : Kept (LedS b2 mb2) wr w4 := ⟨hk4.os, hk4.tape, hk4.output, hk4.size, hk4.block⟩
          have HT4 := Lib.hid (htr.out.at2 hl4 hk4')
          have HB4 := Lib.hid (keptA hbr.out hk4' (fun j q => by have := htr.out.hb; rcases q with q | q <;> omega) (Nat.le_refl _))
          clear hl4 hk4 hk4'
          dsimp only
          go_wp2_with fail
          go_roundw
          case rel => exact ⟨k + 1, by omega, by go_num, by rw [hst.out]; exact HT4.out, HB4.out⟩
          case measure => simp [intOf]; omega
        · have g1 : decide ((k:Int) < (ys.length:Int)) = false := decide_eq_false (by omega)
          have g1b : decide (k < ys.length) = false := decide_eq_false h1
          obtain rfl : k = ys.length := by omega
          rw [List.take_length] at htr
          have hlc1 := rising_length (htr.out.one.rising)
          have hlc2 := rising_length (htr.out.two.rising)
          obtain ⟨rs, hrs⟩ : ∃ rs, playR [] xs = rs := ⟨_, rfl⟩
          obtain ⟨rt, hrt⟩ : ∃ rt, playR [] ys = rt := ⟨_, rfl⟩
          have hrl : rs.length = xs.length := by rw [← hrs, playR_length]
          have HRS := Lib.hid hrs
          have HRT := Lib.hid hrt
          have HRL := Lib.hid hrl
          have HRTL : Hid (rt.length = ys.length) := by show _ = _; rw [← hrt, playR_length]
          clear hrs hrt
          have HTB := Lib.hid htr.out
          have HBB := Lib.hid hbr.out
          clear htr hbr g1 g1b h1
          generalize hds : playC [] ys = ds at *
          have HDS := Lib.hid hds
          clear hds
          obtain ⟨WB, hWB⟩ : ∃ WB, WB = wr.alloc (.cells #[.slice none 0 0, .slice none 0 0, .slice none 0 0, .slice none 0 0, .slice none 0 0, .slice none 0 0, .slice none 0 0, .slice none 0 0, .slice none 0 0, .slice none 0 0] 50) := ⟨_, rfl⟩
          have hbB : Below wr.heap.size wr WB := by rw [hWB]; exact (Below.refl _ _).alloc (Nat.le_refl _) _
          have HKB : Hid (BookC WB wr.heap.size w.heap.size (.slice none 0 0) (.slice none 0 0) (.slice none 0 0) (.slice none 0 0) [] [] [] []) := by rw [hWB]; exact BookC.new wr _
          have HTW := Lib.hid (HTB.out.below hbB)
          have HBW := Lib.hid (HBB.out.trans (hbB.mono HBB.out.size))
          have HSK : Hid (w.heap.size ≤ wr.heap.size) := HBB.out.size
          have HRX := Lib.hid ((HA.out.below HBW.out).more HBW.out.size)
          have HWB := Lib.hid hWB
          clear hWB hbB HTB HBB
          generalize hbk : wr.heap.size = bk at *
          go_wp2_with (at_builtin; rw [← HWB.out]; go_loud (refine wpList_app (v := .slice none 0 0) (xs := []) rowOp encOp rfl (.tmp 61) (.tmp 62) rfl w.heap.size rfl (Made.nil _ _ _) rfl rfl HRX.out (by simp; omega) (by unfold maxLen; simp; omega) HBW.out.size ?_); intro v5 w5 hm5 hg5 hat5; obtain ⟨Ao, co, hv5, hc5⟩ := hm5.form; rw [List.nil_append] at hv5 hm5; subst hv5; have hb5 : Below WB.heap.size WB w5 := ⟨hg5.os, hg5.tape, hg5.output, hg5.size, fun j hj => hg5.block j hj (fun e => by simp [Value.ownBlock] at e)⟩; have HS5 : Hid (OwnSt w w5 b1 mb1 b2 mb2 bk cs ds (.slice Ao xs.length co) xs (.slice none 0 0) (.slice none 0 0) [] [] [] []) := ⟨HBW.out.trans (hb5.mono HBW.out.size), HTW.out.below hb5, hm5, HKB.out.below hb5, Outs.nil, Outs.nil, HSK.out⟩; clear hm5 hg5 hat5 hb5 hc5)

          have HRB : Hid (rs.length ≤ 140737488355328) := by show _ ≤ _; omega
          clear hrl
          refine (cellsLedger b1 mb1 cs _ HS5.out.two.one).mono ?_
          rintro e w6 ⟨v, rfl, hm, hb⟩
          obtain ⟨Aa, ca, rfl, _⟩ := hm.form
          have HXa := Lib.hid hm.addr
          have HS6 := Lib.hid (HS5.out.addC hb hm)
          clear hm hb HS5
          dsimp only
          go_wp2_with fail
          refine (cellsLedger b2 mb2 ds _ HS6.out.two.two).mono ?_
          rintro e w7 ⟨v, rfl, hm, hb⟩
          obtain ⟨Ab, cb, rfl, _⟩ := hm.form
          have HXb := Lib.hid hm.addr
          have HS7 := Lib.hid (HS6.out.addC hb hm)
          clear hm hb HS6
          dsimp only
          go_wp2_with fail
          refine (cellsLedger b1 mb1 cs _ HS7.out.two.one).mono ?_
          rintro e w8 ⟨v, rfl, hm, hb⟩
          obtain ⟨Ac, cc, rfl, _⟩ := hm.form
          have HXc := Lib.hid hm.addr
          have HS8 := Lib.hid (HS7.out.addC hb hm)
          clear hm hb HS7
          dsimp only
          go_wp2_with fail
          refine (replay_prog Ao co xs.length xs rfl _ (by omega) HV.out (Made.rd' encOp.len HS8.out.own)).mono ?_
          rintro e w9 ⟨v1, v2, rfl, hm1, hm2, hb⟩
          rw [HCS.out] at hm1
          rw [HRS.out] at hm2
          obtain ⟨Ad, cd, rfl, _⟩ := hm1.form
          obtain ⟨Ae, ce, rfl, _⟩ := hm2.form
          have HXd := Lib.hid hm1.addr
          have HXe := Lib.hid hm2.addr
          have HS9 := Lib.hid (HS8.out.add2 hb hm1 hm2)
          clear hm1 hm2 hb HS8
          dsimp only
          go_wp2_with fail
          refine (replay_prog A2 c2 ys.length ys rfl _ (by omega) HV2.out ((HA2.out.below HS9.out.below).more HS9.out.below.size)).mono ?_
          rintro e w10 ⟨v1, v2, rfl, hm1, hm2, hb⟩
          rw [HDS.out] at hm1
          rw [HRT.out] at hm2
          obtain ⟨Af, cf, rfl, _⟩ := hm1.form
          obtain ⟨Ag, cg, rfl, _⟩ := hm2.form
          have HXf := Lib.hid hm1.addr
          have HXg := Lib.hid hm2.addr
          have HS10 := Lib.hid (HS9.out.add2 hb hm1 hm2)
          clear hm1 hm2 hb HS9
          dsimp only
          go_wp2_with fail
          refine (replay_prog Ao co xs.length xs rfl _ (by omega) HV.out (Made.rd' encOp.len HS10.out.own)).mono ?_
          rintro e w11 ⟨v1, v2, rfl, hm1, hm2, hb⟩
          rw [HCS.out] at hm1
          rw [HRS.out] at hm2
          obtain ⟨Ah, ch, rfl, _⟩ := hm1.form
          obtain ⟨Ai, ci, rfl, _⟩ := hm2.form
          have HXh := Lib.hid hm1.addr
          have HXi := Lib.hid hm2.addr
          have HS11 := Lib.hid (HS10.out.add2 hb hm1 hm2)
          clear hm1 hm2 hb HS10
          dsimp only
          go_wp2_with fail
          with_reducible refine (HS11.out.same (A := Aa) (c := ca) (B := Ac) (d := cc) hlc0 (by simp) (by simp)).mono ?_
          rintro e w12 ⟨rfl, hb⟩
          have HS12 := Lib.hid (HS11.out.step hb)
          clear hb HS11
          dsimp only
          go_wp2_with fail
          with_reducible refine (HS12.out.same (A := Aa) (c := ca) (B := Ad) (d := cd) hlc0 (by simp) (by simp)).mono ?_
          rintro e w13 ⟨rfl, hb⟩
          have HS13 := Lib.hid (HS12.out.step hb)
          clear hb HS12
          dsimp only
          go_wp2_with fail
          with_reducible refine (HS13.out.same (A := Ad) (c := cd) (B := Ah) (d := ch) hlc0 (by simp) (by simp)).mono ?_
          rintro e w14 ⟨rfl, hb⟩
          have HS14 := Lib.hid (HS13.out.step hb)
          clear hb HS13
          dsimp only
          go_wp2_with fail
          with_reducible refine (HS14.out.sameR (A := Ae) (c := ce) (B := Ai) (d := ci) rfl HRB.out (by simp) (by simp)).mono ?_
          rintro e w15 ⟨rfl, hb⟩
          have HS15 := Lib.hid (HS14.out.step hb)
          clear hb HS14
          dsimp only
          go_wp2_with fail
          with_reducible refine (HS15.out.same (A := Ab) (c := cb) (B := Af) (d := cf) hlc2 (by simp) (by simp)).mono ?_
          rintro e w16 ⟨rfl, hb⟩
          have HS16 := Lib.hid (HS15.out.step hb)
          clear hb HS15
          dsimp only
          have hma := Lib.hid (HS16.out.oc.made (Value.slice Aa cs.length ca, cs) (by simp))
          go_wp2_with (at_builtin; go_loud (refine wpList_app (v := .slice none 0 0) (xs := []) rowCell encCell rfl (.tmp 108) (.tmp 109) rfl w16.heap.size rfl (Made.nil _ _ _) rfl rfl (Made.rd' encCell.len hma.out) (by simp; omega) (by unfold maxLen; simp; omega) (Nat.le_refl _) ?_); intro v17 w17 hm17 hg17 hat17; obtain ⟨Aw, cw, hv17, hc17⟩ := hm17.form; rw [List.nil_append] at hv17 hm17; subst hv17; have hb17 : Below w16.heap.size w16 w17 := ⟨hg17.os, hg17.tape, hg17.output, hg17.size, fun j hj => hg17.block j hj (fun e => by simp [Value.ownBlock] at e)⟩; have HS17 := Lib.hid (HS16.out.addC hb17 hm17); clear hm17 hg17 hat17 hb17 hc17 hma HS16)
          obtain ⟨N, hN⟩ : ∃ N, N = xs.length := ⟨_, rfl⟩
          have HNX := Lib.hid hN
          have hN2 : N ≤ 4398046510976 := by omega
          have HST : Hid (OwnSt w w17 b1 mb1 b2 mb2 bk cs ds (.slice Ao N co) (zOps 0 ++ xs.drop 0) (.slice none 0 0) (.slice none 0 0) [] [] ([] ++ [(Value.slice Aa cs.length ca, cs)] ++ [(Value.slice Ab ds.length cb, ds)] ++ [(Value.slice Ac cs.length cc, cs)] ++ [(Value.slice Ad cs.length cd, cs)] ++ [(Value.slice Af ds.length cf, ds)] ++ [(Value.slice Ah cs.length ch, cs)] ++ [(Value.slice Aw cs.length cw, cs)]) ([] ++ [(Value.slice Ae rs.length ce, rs)] ++ [(Value.slice Ag rt.length cg, rt)] ++ [(Value.slice Ai rs.length ci, rs)])) := by rw [hN]; exact HS17.out
          rw [← hN]
          clear hN HS17
          generalize hCV : ([] ++ [(Value.slice Aa cs.length ca, cs)] ++ [(Value.slice Ab ds.length cb, ds)] ++ [(Value.slice Ac cs.length cc, cs)] ++ [(Value.slice Ad cs.length cd, cs)] ++ [(Value.slice Af ds.length cf, ds)] ++ [(Value.slice Ah cs.length ch, cs)] : List (Value × List Cell)) = CV at *
          generalize hRV : ([] ++ [(Value.slice Ae rs.length ce, rs)] ++ [(Value.slice Ag rt.length cg, rt)] ++ [(Value.slice Ai rs.length ci, rs)] : List (Value × List Res)) = RV at *
          have HCV := Lib.hid hCV
          have HRV := Lib.hid hRV
          clear hCV hRV
          go_loopw [22] (fun i wr => ∃ k : Nat, k ≤ N ∧ i = .int .i64 k ∧ Hid (OwnSt w wr b1 mb1 b2 mb2 bk cs ds (.slice Ao N co) (zOps k ++ xs.drop k) (.slice none 0 0) (.slice none 0 0) [] [] (CV ++ [(Value.slice Aw cs.length cw, cs)]) RV)) (fun i _ => N - (intOf i).toNat)
          case atStart => exact ⟨0, by omega, rfl, HST.out⟩
          case round =>
            obtain ⟨k, hk, rfl, hst⟩ := hrel
            by_cases h1 : k < N
            · have g1 : decide ((k:Int) < (N:Int)) = true := decide_eq_true (by omega)
              have g1b : decide (k < N) = true := decide_eq_true h1
              have i0 : (0:Int) ≤ (k:Int) := by omega
              have i1 : (k:Int) < (N:Int) := by omega
              have k1 : IntKind.i64.wrap ((k:Int) + 1) = (k:Int) + 1 := IntWalk.i64_in _ (by omega)
              have hol : (zOps k ++ xs.drop k).length = N := by rw [List.length_append, zOps_length, List.length_drop, HNX.out]; have := HNX.out; omega
              have hmo := hst.out.own
              obtain ⟨ad, hAd, hx1, hx2⟩ := (Made.rd' encOp.len hmo).at_ (i := k) (by omega)
              clear hx1 hx2
              obtain ⟨g, rfl⟩ := (hmo.addr).1 ad hAd
              subst hAd
              have hsp := hmo.stepped encOp hol h1 (zOp k)
              have hmo' : Made Op.cells 3 38 w.heap.size wr (.slice (some ⟨g, 0, none⟩) (zOps k ++ xs.drop k).length co) (zOps k ++ xs.drop k) := by rw [hol]; exact hmo
              have hput := hmo'.put encOp.len (by omega) (show k < (zOps k ++ xs.drop k).length by omega) (zOp k)
              have hset : (zOps k ++ xs.drop k).set k (zOp k) = zOps (k + 1) ++ xs.drop (k + 1) := by
                have hkx : k < xs.length := by have := HNX.out; omega
                rw [List.set_append_right _ _ (by rw [zOps_length]; omega), zOps_length, Nat.sub_self, List.drop_eq_getElem_cons hkx, List.set_cons_zero, zOps_succ, List.append_assoc]
                rfl
              have hlen2 : (zOps (k + 1) ++ xs.drop (k + 1)).length = N := by rw [← hset, List.length_set, hol]
              rw [hset, hlen2] at hput
              have HOV := Lib.hid (hst.out.over (W' := putCells wr g (k * 3) (zOp k).cells) (putCells_kept.mono fun j _ e => by rw [e]; rfl) hput)
              simp only [Stepped, Op.cells, zOp, Nat.add_zero, Nat.zero_add, Nat.reduceAdd] at hsp
              obtain ⟨⟨_, _⟩, _, ⟨_, _⟩, _, ⟨_, _⟩, _, _⟩ := hsp
              clear hol hmo hmo' hput hset hlen2
              go_wp2_with fail
              go_roundw
              case rel => exact ⟨k + 1, by omega, by go_num, HOV.out⟩
              case measure => simp [intOf]; omega
            · have g1 : decide ((k:Int) < (N:Int)) = false := decide_eq_false (by omega)
              have g1b : decide (k < N) = false := decide_eq_false h1
              obtain rfl : k = N := by omega
              have hz : zOps k ++ xs.drop k = zOps k := by rw [List.drop_of_length_le (by have := HNX.out; omega), List.append_nil]
              rw [hz] at hst
              obtain ⟨zc, hzc⟩ : ∃ zc, playC [] (zOps k) = zc := ⟨_, rfl⟩
              obtain ⟨zr, hzr⟩ : ∃ zr, playR [] (zOps k) = zr := ⟨_, rfl⟩
              have hzl := (zOps_play k).1
              have hrl : zr.length = k := by rw [← hzr, playR_length, zOps_length]
              rw [hzc] at hzl
              have HZC := Lib.hid hzc
              have HZR := Lib.hid hzr
              have HZL := Lib.hid hzl
              have HZRL := Lib.hid hrl
              have HST2 := Lib.hid hst.out
              have HSS := Lib.hid (hst.out.below.size)
              clear hz hzc hzr hzl hrl hst g1 g1b h1
              have g1 : decide ((k:Int) < (k:Int)) = false := decide_eq_false (by omega)
              go_wp2_with fail
              refine (replay_prog Ao co k (zOps k) (zOps_length k).symm wr (by rw [zOps_length]; omega) (fun o ho => by obtain ⟨i, _, rfl⟩ := List.mem_map.1 ho; simp [zOp, ByteArray.size]) (Made.rd' encOp.len HST2.out.own)).mono ?_
              rintro e w30 ⟨v1, v2, rfl, hm1, hm2, hb⟩
              rw [HZC.out] at hm1
              rw [HZR.out] at hm2
              obtain ⟨Aj, cj, rfl, _⟩ := hm1.form
              obtain ⟨Am, cm, rfl, _⟩ := hm2.form
              have HXj := Lib.hid hm1.addr
              have HXm := Lib.hid hm2.addr
              have HS30 := Lib.hid (HST2.out.add2 hb hm1 hm2)
              clear hm1 hm2 hb HST2
              dsimp only
              have hcase : (k ≤ 1024 ∧ zc.length = k) ∨ (1024 < k ∧ zc.length = 1024) := by have := HZL.out; omega
              rcases hcase with ⟨hk2, hzl⟩ | ⟨hk2, hzl⟩
              all_goals
                rw [HZRL.out] at HXm ⊢
                rw [hzl] at HXj ⊢
                have HZ2 := Lib.hid hzl
                clear hzl g1
                go_wp2_with fail
                refine (bookCell bk w.heap.size _ _ _ _ _ _ _ _ Aa cs.length ca HXa.out.1 HXa.out.2 _ HS30.out.book (by simp only [List.length_append, List.length_nil]; have q1 := fun v => bkOf_le v; skip; omega) HS30.out.below.size).mono ?_
                rintro e w31 ⟨rfl, ⟨v', hb'⟩, hk'⟩
                have HS31 := Lib.hid (HS30.out.put hk' hb')
                clear hb' hk' HS30
                dsimp only
                go_wp2_with fail
                refine (bookCell bk w.heap.size _ _ _ _ _ _ _ _ Ab ds.length cb HXb.out.1 HXb.out.2 _ HS31.out.book (by simp only [List.length_append, List.length_nil]; have q1 := fun v => bkOf_le v; have := q1 (.slice Aa cs.length ca); omega) HS31.out.below.size).mono ?_
                rintro e w32 ⟨rfl, ⟨v', hb'⟩, hk'⟩
                have HS32 := Lib.hid (HS31.out.put hk' hb')
                clear hb' hk' HS31
                dsimp only
                go_wp2_with fail
                refine (bookCell bk w.heap.size _ _ _ _ _ _ _ _ Ac cs.length cc HXc.out.1 HXc.out.2 _ HS32.out.book (by simp only [List.length_append, List.length_nil]; have q1 := fun v => bkOf_le v; have := q1 (.slice Aa cs.length ca); have := q1 (.slice Ab ds.length cb); omega) HS32.out.below.size).mono ?_
                rintro e w33 ⟨rfl, ⟨v', hb'⟩, hk'⟩
                have HS33 := Lib.hid (HS32.out.put hk' hb')
                clear hb' hk' HS32
                dsimp only
                go_wp2_with fail
                refine (bookCell bk w.heap.size _ _ _ _ _ _ _ _ Ad cs.length cd HXd.out.1 HXd.out.2 _ HS33.out.book (by simp only [List.length_append, List.length_nil]; have q1 := fun v => bkOf_le v; have := q1 (.slice Aa cs.length ca); have := q1 (.slice Ab ds.length cb); have := q1 (.slice Ac cs.length cc); omega) HS33.out.below.size).mono ?_
                rintro e w34 ⟨rfl, ⟨v', hb'⟩, hk'⟩
                have HS34 := Lib.hid (HS33.out.put hk' hb')
                clear hb' hk' HS33
                dsimp only
                go_wp2_with fail
                refine (bookCell bk w.heap.size _ _ _ _ _ _ _ _ Af ds.length cf HXf.out.1 HXf.out.2 _ HS34.out.book (by simp only [List.length_append, List.length_nil]; have q1 := fun v => bkOf_le v; have := q1 (.slice Aa cs.length ca); have := q1 (.slice Ab ds.length cb); have := q1 (.slice Ac cs.length cc); have := q1 (.slice Ad cs.length cd); omega) HS34.out.below.size).mono ?_
                rintro e w35 ⟨rfl, ⟨v', hb'⟩, hk'⟩
                have HS35 := Lib.hid (HS34.out.put hk' hb')
                clear hb' hk' HS34
                dsimp only
                go_wp2_with fail
                refine (bookCell bk w.heap.size _ _ _ _ _ _ _ _ Ah cs.length ch HXh.out.1 HXh.out.2 _ HS35.out.book (by simp only [List.length_append, List.length_nil]; have q1 := fun v => bkOf_le v; have := q1 (.slice Aa cs.length ca); have := q1 (.slice Ab ds.length cb); have := q1 (.slice Ac cs.length cc); have := q1 (.slice Ad cs.length cd); have := q1 (.slice Af ds.length cf); omega) HS35.out.below.size).mono ?_
                rintro e w36 ⟨rfl, ⟨v', hb'⟩, hk'⟩
                have HS36 := Lib.hid (HS35.out.put hk' hb')
                clear hb' hk' HS35
                dsimp only
                go_wp2_with fail
                refine (bookCell bk w.heap.size _ _ _ _ _ _ _ _ Aj _ cj HXj.out.1 HXj.out.2 _ HS36.out.book (by simp only [List.length_append, List.length_nil]; have q1 := fun v => bkOf_le v; have := q1 (.slice Aa cs.length ca); have := q1 (.slice Ab ds.length cb); have := q1 (.slice Ac cs.length cc); have := q1 (.slice Ad cs.length cd); have := q1 (.slice Af ds.length cf); have := q1 (.slice Ah cs.length ch); omega) HS36.out.below.size).mono ?_
                rintro e w37 ⟨rfl, ⟨v', hb'⟩, hk'⟩
                have HS37 := Lib.hid (HS36.out.put hk' hb')
                clear hb' hk' HS36
                dsimp only
                go_wp2_with fail
                refine (bookRes bk w.heap.size _ _ _ _ _ _ _ _ Ae rs.length ce HXe.out.1 HXe.out.2 _ HS37.out.book (by simp only [List.length_append, List.length_nil]; have q1 := fun v => bkOf_le v; skip; omega) HS37.out.below.size).mono ?_
                rintro e w38 ⟨rfl, ⟨v', hb'⟩, hk'⟩
                have HS38 := Lib.hid (HS37.out.put hk' hb')
                clear hb' hk' HS37
                dsimp only
                go_wp2_with fail
                refine (bookRes bk w.heap.size _ _ _ _ _ _ _ _ Ag rt.length cg HXg.out.1 HXg.out.2 _ HS38.out.book (by simp only [List.length_append, List.length_nil]; have q1 := fun v => bkOf_le v; have := q1 (.slice Ae rs.length ce); omega) HS38.out.below.size).mono ?_
                rintro e w39 ⟨rfl, ⟨v', hb'⟩, hk'⟩
                have HS39 := Lib.hid (HS38.out.put hk' hb')
                clear hb' hk' HS38
                dsimp only
                go_wp2_with fail
                refine (bookRes bk w.heap.size _ _ _ _ _ _ _ _ Ai rs.length ci HXi.out.1 HXi.out.2 _ HS39.out.book (by simp only [List.length_append, List.length_nil]; have q1 := fun v => bkOf_le v; have := q1 (.slice Ae rs.length ce); have := q1 (.slice Ag rt.length cg); omega) HS39.out.below.size).mono ?_
                rintro e w40 ⟨rfl, ⟨v', hb'⟩, hk'⟩
                have HS40 := Lib.hid (HS39.out.put hk' hb')
                clear hb' hk' HS39
                dsimp only
                go_wp2_with fail
                refine (bookRes bk w.heap.size _ _ _ _ _ _ _ _ Am k cm HXm.out.1 HXm.out.2 _ HS40.out.book (by simp only [List.length_append, List.length_nil]; have q1 := fun v => bkOf_le v; have := q1 (.slice Ae rs.length ce); have := q1 (.slice Ag rt.length cg); have := q1 (.slice Ai rs.length ci); omega) HS40.out.below.size).mono ?_
                rintro e w41 ⟨rfl, ⟨v', hb'⟩, hk'⟩
                have HS41 := Lib.hid (HS40.out.put hk' hb')
                clear hb' hk' HS40
                dsimp only
                go_wp2_with fail
                refine (HS41.out.apart (V := CV ++ [(Value.slice Aj zc.length cj, zc)]) ((List.sublist_append_left CV _).append (List.Sublist.refl _)) (by rw [← HCV.out, HZ2.out]; simp) (by rw [← HRV.out, HZRL.out]; simp) (by rw [← HCV.out]; simp) (by rw [← HRV.out]; simp) ?_ (m := 4398046511000) (by omega) ?_).mono ?_
                · intro p hp
                  rw [← HCV.out] at hp
                  simp only [List.nil_append, List.cons_append, List.mem_cons, List.not_mem_nil, or_false] at hp
                  rcases hp with rfl | rfl | rfl | rfl | rfl | rfl | rfl <;> first | exact hlc0 | exact hlc2 | (have := HZ2.out; show zc.length ≤ 1024; omega)
                · intro p hp
                  rw [← HRV.out] at hp
                  simp only [List.nil_append, List.cons_append, List.mem_cons, List.not_mem_nil, or_false] at hp
                  have q1 := HRL.out
                  have q2 := HNX.out
                  have q3 := HRTL.out
                  have q4 := HZRL.out
                  rcases hp with rfl | rfl | rfl | rfl <;> simp only <;> omega
                rintro e w42 ⟨rfl, hb42, ht42, hw42⟩
                have hmw := hw42 (Value.slice Aw cs.length cw, cs) (by simp) (fun q hq j hj e => by
                  have hp := HS41.out.oc.apart
                  rcases List.mem_append.1 hq with hq | hq
                  · exact ((List.pairwise_append.1 (List.pairwise_append.1 hp).1).2.2 q hq _ (by simp)) j e hj
                  · rw [List.mem_singleton.1 hq] at e
                    exact ((List.pairwise_append.1 hp).2.2 (Value.slice Aw cs.length cw, cs) (by simp) _ (by simp)) j hj e)
                have HMW := Lib.hid hmw
                have HB42 := Lib.hid hb42
                have HT42 := Lib.hid ht42
                clear hmw hb42 ht42 hw42
                dsimp only
                go_wp2_with fail
                refine (cellsLedger b1 mb1 cs w42 HT42.out.one).mono ?_
                rintro e w43 ⟨v, rfl, hm43, hb43⟩
                obtain ⟨A8, c8, rfl, _⟩ := hm43.form
                have HSM := Lib.hid (sameCellsTrue A8 Aw c8 cw cs.length cs rfl w43 (by omega) (Made.rd' encCell.len hm43) (Made.rd' encCell.len (HMW.out.below hb43 fun b q => (HMW.out.lt b q).2)))
                have HB43 := Lib.hid (HB42.out.trans (hb43.mono HB42.out.size))
                clear hm43 hb43
                dsimp only
                go_wp2_with fail
                refine HSM.out.mono ?_
                rintro e w' ⟨rfl, q9, hw'⟩
                rw [hw']
                dsimp only
                go_wp2_with fail
                go_ret
                exact ⟨rfl, below_drewN HB43.out q9⟩

theorem own04_law (W : World) (A : Option Addr) (c n : Nat) (xs : List Op) (hn : n = xs.length) (_ : n ≤ c) (hrd : Rd Op.cells 3 W W.heap.size A xs) (hwf : ∀ o ∈ xs, o.wf) (hsz : xs.length * 32 ≤ 140737488351232)
    (A2 : Option Addr) (c2 n2 : Nat) (ys : List Op) (hn2 : n2 = ys.length) (_ : n2 ≤ c2) (hrd2 : Rd Op.cells 3 W W.heap.size A2 ys) (hwf2 : ∀ o ∈ ys, o.wf) (hsz2 : ys.length * 32 ≤ 140737488351232) :
    Calls Try.prog 4 #[.slice A n c, .slice A2 n2 c2] W fun e w' => e = .returned (.bool true) ∧ Below W.heap.size W w' :=
  own04_calls A A2 c n c2 n2 xs ys hn hn2 W hsz hsz2 (fun o ho => (hwf o ho).value) (fun o ho => (hwf2 o ho).value) hrd hrd2
end Go.Proofs.Ytdkdddkhfonjmaa
