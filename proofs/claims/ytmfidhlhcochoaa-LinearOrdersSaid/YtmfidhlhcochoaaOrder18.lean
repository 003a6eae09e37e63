/- linear.Order answers orderL. Conditions: Go lengths. -/
import Derived.Test.YtmfidhlhcochoaaLinM1
import Derived.Test.YtmfidhlhcochoaaHolds
namespace Go.Proofs.Ytmfidhlhcochoaa
open Go.RowKit
set_option linter.unusedVariables false
set_option linter.unusedSimpArgs false

theorem entry_inj {l : List Call} (hg : GoodL l) {i j : Nat} (hi : i < l.length) (hj : j < l.length) (e : entryOf l[i] = entryOf l[j]) : i = j := by
  have hk : sameKey l[i] l[j] = true ∧ sameKey l[j] l[i] = true := by
    have h1 : l[i].client = l[j].client := congrArg Entry.client e
    have h2 : l[i].number = l[j].number := congrArg Entry.number e
    simp [sameKey, h1, h2]
  rcases Nat.lt_trichotomy i j with h | h | h
  · have := (hg j hj).2 i h
    rw [hk.1] at this; cases this
  · exact h
  · have := (hg i hi).2 j h
    rw [hk.2] at this; cases this
theorem placeE_some {l : List Call} (hg : GoodL l) {j : Nat} (hj : j < l.length) {x : Entry} (e : entryOf l[j] = x) : placeE l x = some j := by
  unfold placeE
  cases hf : (List.range l.length).find? fun k => decide ((l[k]?).map entryOf = some x) with
  | none =>
    rw [List.find?_eq_none] at hf
    have := hf j (List.mem_range.2 hj)
    rw [List.getElem?_eq_getElem hj] at this
    simp [e] at this
  | some k =>
    have h1 := List.find?_some hf
    have h2 := List.mem_range.1 (List.mem_of_find?_eq_some hf)
    simp only [List.getElem?_eq_getElem h2, Option.map_some, decide_eq_true_eq, Option.some.injEq] at h1
    rw [entry_inj hg h2 hj (h1.trans e.symm)]
theorem placeE_none {l : List Call} {x : Entry} (h : ∀ j (hj : j < l.length), entryOf l[j] ≠ x) : placeE l x = none := by
  unfold placeE
  rw [List.find?_eq_none]
  intro k hk
  have hk := List.mem_range.1 hk
  rw [List.getElem?_eq_getElem hk]
  simp [h k hk]
/-- The map tells the places of the first k calls' entries. -/
structure HaveE (ps : List (Entry × Int)) (l : List Call) (k : Nat) : Prop where
  yes : ∀ q v, lookK ps q = some v → ∃ j, ∃ (h : j < l.length), j < k ∧ entryOf l[j] = q ∧ v = (j:Int) + 1
  no : ∀ q, lookK ps q = none → ∀ j (h : j < l.length), j < k → entryOf l[j] ≠ q
theorem HaveE.nil (l : List Call) : HaveE [] l 0 := ⟨fun q v h => by simp [lookK] at h, fun q _ j h hj => absurd hj (Nat.not_lt_zero j)⟩
theorem HaveE.snoc {ps : List (Entry × Int)} {l : List Call} {k : Nat} (h : HaveE ps l k) (hk : k < l.length) : HaveE (setK ps (entryOf l[k]) ((k:Int) + 1)) l (k + 1) := by
  refine ⟨fun q v hv => ?_, fun q hq j hj hjk => ?_⟩
  · rw [lookK_setK] at hv
    by_cases e : entryOf l[k] = q
    · rw [if_pos e] at hv
      injection hv with hv
      exact ⟨k, hk, by omega, e, hv.symm⟩
    · rw [if_neg e] at hv
      obtain ⟨j, h2, h3, h4⟩ := h.yes q v hv
      exact ⟨j, h2, by omega, h4⟩
  · rw [lookK_setK] at hq
    by_cases e : entryOf l[k] = q
    · rw [if_pos e] at hq; cases hq
    · rw [if_neg e] at hq
      by_cases ej : j = k
      · subst ej; exact e
      · exact h.no q hq j hj (by omega)
theorem good_of {l : List Call} (h : checkL l = 0) : GoodL l := by
  unfold checkL at h
  by_cases hg : GoodL l
  · exact hg
  · rw [if_neg hg] at h; cases h
def OrderPost (l : List Call) (seq : List Entry) (w : World) (e : Ending) (w' : World) : Prop :=
  ∃ A' c', e = .returned (.tuple #[.slice A' (orderL l seq).1.length c', .int .i64 (orderL l seq).2]) ∧ Rd icell 1 w' w'.heap.size A' (orderL l seq).1 ∧ Below w.heap.size w w'

set_option maxRecDepth 100000 in
set_option maxHeartbeats 8000000 in
theorem order_prog (A : Option Addr) (c n : Nat) (l : List Call) (hn : n = l.length) (As : Option Addr) (cs ns : Nat) (seq : List Entry) (hns : ns = seq.length) (w : World) (hl : l.length ≤ 281474976710656) (hls : (seq.length + 1) * 8 ≤ 140737488355328) (hv : ∀ x ∈ l, x.op.value.size ≤ 9223372036854775807) (ha : Rd Call.cells 10 w w.heap.size A l) (has : Rd Entry.cells 5 w w.heap.size As seq) :
    Calls Try.prog 31 #[.slice A n c, .slice As ns cs] w (OrderPost l seq w) := by
  subst hn hns
  obtain ⟨T0, hT0⟩ : ∃ T0 : Ending → World → Prop, T0 = OrderPost l seq w := ⟨_, rfl⟩
  rw [← hT0]
  have HT0 := Lib.hid hT0
  have HA := Lib.hid ha
  have HAS := Lib.hid has
  have HV := Lib.hid hv
  clear ha has hv hT0
  have hmm := @run_makeMap Try.prog
  go_enter Try.func31, Try.ntmps31
  go_wp2_with fail
  refine (linCheck A c l.length l rfl w (by omega) HV.out HA.out).mono ?_
  rintro e w1 ⟨rfl, hb1⟩
  have HB1 := Lib.hid hb1
  clear hb1
  by_cases hck : checkL l = 0
  · have HGD : Hid (GoodL l) := good_of hck
    have HOL : Hid (orderL l seq = match ordersW l (allFree l) [] seq with | some o => (o, (0:Int)) | none => ([], 182)) := by
      show _ = _
      unfold orderL; rw [if_neg (by simp [hck])]; rfl
    rw [hck]
    have hm0 : MapK ekEntry evInt (w1.alloc (.map #[] 0)) w1.heap.size ([] : List (Entry × Int)) := MapK.new w1
    have hb0 : Below w.heap.size w (w1.alloc (.map #[] 0)) := HB1.out.alloc HB1.out.size _
    have HM0 := Lib.hid hm0
    have HB0 := Lib.hid hb0
    clear hm0 hb0 hck
    dsimp only
    go_wp2_with fail
    go_loopw [23] (fun i wr => ∃ k : Nat, ∃ ps : List (Entry × Int), k ≤ l.length ∧ i = .int .i64 k ∧ Hid (HaveE ps l k) ∧ Hid (MapK ekEntry evInt wr w1.heap.size ps) ∧ Hid (Below w.heap.size w wr)) (fun i _ => l.length - (intOf i).toNat)
    case atStart => exact ⟨0, [], by omega, rfl, HaveE.nil l, HM0.out, HB0.out⟩
    case round =>
      obtain ⟨k, ps, hk, rfl, hhv, hmk, hbr⟩ := hrel
      by_cases h1 : k < l.length
      · obtain ⟨ad, hA, hal, hca⟩ := (HA.out.below hbr.out).at_ h1
        have g1 : (k:Int) < (l.length : Int) := by omega
        have i2 : (0:Int) ≤ (k:Int) := by omega
        have k1 : IntKind.i64.wrap ((k:Int) + 1) = (k:Int) + 1 := IntWalk.i64_in _ (by omega)
        obtain ⟨c0, c1, c2, c3, c4, c5, c6, c7, c8, c9⟩ := hca.call
        have HHAVE : Hid (HaveE (setK ps (entryOf l[k]) ((k:Int) + 1)) l (k + 1)) := hhv.out.snoc h1
        have HMK : Hid (∀ o : Obj, MapK ekEntry evInt (wr.alloc o) w1.heap.size ps) := fun o => hmk.out.same (heap_alloc_old _ _ hmk.out.lt)
        have HBF : Hid (∀ o : Obj, Below w.heap.size w (wr.alloc o)) := fun o => hbr.out.alloc hbr.out.size o
        have hmw : w1.heap.size < wr.heap.size := hmk.out.lt
        have hwl : w.heap.size ≤ w1.heap.size := HB1.out.size
        subst hA
        clear hca hhv
        generalize l[k] = x at *
        go_wp2_with (at_mapUpdate; refine wpList_updateK (ev := evInt) (HMK.out _) keyEntry rfl _ _ _ rfl Try.underlying130 rfl (entryOf x) rfl ((k:Int) + 1) rfl ?_; intro w3 hm3 hg3 hs3; have HM3 := Lib.hid hm3; have hbf := (HBF.out _).grown hg3 (HBF.out _).size (fun b e => by cases e; exact hwl); have HB3 := Lib.hid hbf; clear hm3 hg3 hbf)
        go_roundw
        case rel => exact ⟨k + 1, _, by omega, by go_num, HHAVE.out, HM3.out, HB3.out⟩
        case measure => simp [intOf]; omega
      · have g2 : decide ((k:Int) < (l.length : Int)) = false := decide_eq_false (by omega)
        have g3 : decide (k < l.length) = false := decide_eq_false h1
        have hkl : k = l.length := by omega
        subst hkl
        have hmkk := make_marks wr l.length (by omega) (by omega)
        obtain ⟨wo, hwo⟩ : ∃ wo, wo = wr := ⟨_, rfl⟩
        subst hwo
        obtain ⟨W3, hW3⟩ : ∃ W3, W3 = wo.alloc (.cells (Array.replicate l.length (Value.bool false)) 4) := ⟨_, rfl⟩
        have hb3 : Below w.heap.size w W3 := by rw [hW3]; exact hbr.out.alloc hbr.out.size _
        have hm3 : Marks W3 wo.heap.size (allFree l) := Marks.row (by rw [hW3]; refine (heap_alloc_new _ _).trans ?_; rw [marks_free]; rfl)
        have hmp3 : MapK ekEntry evInt W3 w1.heap.size ps := hmk.out.same (by rw [hW3]; exact heap_alloc_old _ _ hmk.out.lt)
        have hz3 : W3.heap.size = wo.heap.size + 1 := by rw [hW3]; simp
        have hmw : w1.heap.size < wo.heap.size := hmk.out.lt
        have hwl : w.heap.size ≤ w1.heap.size := HB1.out.size
        have HW3 := Lib.hid hW3
        have HB3 := Lib.hid hb3
        have HM3 := Lib.hid hm3
        have HMP3 := Lib.hid hmp3
        have HHV := Lib.hid hhv
        clear hW3 hb3 hm3 hmp3 hmk hbr hhv
        go_wp2_with (first | (rw [hmkk]) | fail)
        rw [← HW3.out]
        clear hmkk
        go_loopw [44, 11] (fun i v wr => ∃ k : Nat, ∃ S out Ao co, k ≤ seq.length ∧ i = .int .i64 k ∧ v = .slice Ao out.length co ∧ Hid (ordersW l (allFree l) [] seq = ordersW l S out (seq.drop k)) ∧ Hid (S.length = l.length) ∧ Hid (out.length ≤ k) ∧ Hid (Marks wr wo.heap.size S) ∧ Hid (Made icell 1 3 W3.heap.size wr (.slice Ao out.length co) out) ∧ Hid (Kept (fun j => j = wo.heap.size) W3 wr)) (fun i _ _ => seq.length - (intOf i).toNat)
        case atStart => exact ⟨0, allFree l, [], none, 0, by omega, rfl, rfl, rfl, by show _ = _; simp [allFree], Nat.le_refl _, HM3.out, Made.nil _ _ _, Kept.refl _ _⟩
        case round =>
          obtain ⟨k, S, out, Ao, co, hk, rfl, rfl, how, hSl, hol, hmr, hmd, hkp⟩ := hrel
          have hbr : Below w.heap.size w wr := HB3.out.trans (hkp.out.below HB3.out.size (fun j e => by omega))
          have HBR := Lib.hid hbr
          by_cases h1 : k < seq.length
          · obtain ⟨bd, hB, hbl, hcb⟩ := (HAS.out.below hbr).at_ h1
            obtain ⟨d0, d1, d2, d3, d4⟩ := hcb.five
            have g1 : (k:Int) < (seq.length : Int) := by omega
            have i2 : (0:Int) ≤ (k:Int) := by omega
            have hdrop : seq.drop k = seq[k] :: seq.drop (k + 1) := List.drop_eq_getElem_cons h1
            have how2 := how.out
            rw [hdrop] at how2
            have HOW := Lib.hid how2
            have hgw : w1.heap.size < wr.heap.size := by have := hkp.out.size; omega
            have hmpr : MapK ekEntry evInt wr w1.heap.size ps := (HMP3.out.same (hkp.out.block _ (by omega) (by omega)))
            have hlk : ∀ o, (Instr.lookup 130 (.map (some w1.heap.size)) (ekEntry seq[k]) false).run Try.prog (wr.alloc o) = .ok (((lookK ps seq[k]).map evInt).getD (.int .i64 0)) (wr.alloc o) := fun o => MapK.lookup (hmpr.same (heap_alloc_old _ _ hmpr.lt)) keyEntry Try.underlying130 (zeroI _) seq[k]
            have HYES : Hid (∀ v, lookK ps seq[k] = some v → ∃ j, ∃ (h : j < l.length), placeE l seq[k] = some j ∧ v = (j:Int) + 1) := fun v hv => by
              obtain ⟨j, hj, _, he, hv⟩ := HHV.out.yes _ v hv
              exact ⟨j, hj, placeE_some HGD.out hj he, hv⟩
            have HNO : Hid (lookK ps seq[k] = none → placeE l seq[k] = none) := fun hn => placeE_none fun j hj => HHV.out.no _ hn j hj hj
            subst hB
            clear hcb how how2 hdrop hmpr hbr
            generalize seq[k] = x at *
            cases hlo : lookK ps x with
            | none =>
              rw [hlo] at hlk
              simp only [Option.map_none, Option.getD_none, ekEntry] at hlk
              have hpl := HNO.out hlo
              have hnx : Hid (ordersW l (allFree l) [] seq = ordersW l S out (seq.drop (k + 1))) := HOW.out.trans (by simp only [ordersW, hpl])
              clear hlo hpl HYES HNO HOW
              go_wp2_with fail
              go_roundw
              case rel => exact ⟨k + 1, S, out, Ao, co, by omega, by go_num, rfl, hnx.out, hSl.out, by show _ ≤ _; have := hol.out; omega, hmr.out.below ((Below.refl _ _).alloc (Nat.le_refl _) _), hmd.out.alloc _, hkp.out.alloc _⟩
              case measure => simp [intOf]; omega
            | some v =>
              rw [hlo] at hlk
              obtain ⟨j, hj, hpl, hvj⟩ := HYES.out v hlo
              simp only [Option.map_some, Option.getD_some, evInt, ekEntry] at hlk
              have hv0 : (v == 0) = false := by simp; omega
              have hv1 : decide (v = 0) = false := decide_eq_false (by omega)
              have hvw : IntKind.i64.wrap (v - 1) = (j:Int) := by rw [IntWalk.i64_in _ (by omega)]; omega
              have g3 : (j:Int) < (l.length : Int) := by omega
              have i3 : (0:Int) ≤ (j:Int) := by omega
              have hSj : j < S.length := by rw [hSl.out]; exact hj
              have HVJ := Lib.hid hvj
              have HPL := Lib.hid hpl
              cases hst : S[j]'hSj
              · have hsj : S[j]? = some false := by rw [List.getElem?_eq_getElem hSj, hst]
                have dm : ∀ o, (wr.alloc o).cell? ⟨wo.heap.size, j, none⟩ = some (.bool false) := fun o => (World.cell?_alloc_lt _ _ _ hmr.out.lt).trans (hmr.out.cell j _ hsj)
                have hnx : Hid (ordersW l (allFree l) [] seq = ordersW l (S.set j true) (out ++ [j]) (seq.drop (k + 1))) := HOW.out.trans (by simp only [ordersW, HPL.out, List.getD_eq_getElem?_getD, hsj]; rfl)
                obtain ⟨W4, hW4⟩ : ∃ W4, W4 = wr.alloc (.cells #[.int .i64 x.client, .int .i64 x.number, .int .i64 x.op.kind, .int .i64 x.op.slot, .string x.op.value] 119) := ⟨_, rfl⟩
                have hm4 : Marks W4 wo.heap.size S := by rw [hW4]; exact hmr.out.below ((Below.refl _ _).alloc (Nat.le_refl _) _)
                have fm := hm4.fz j
                have hk4 : Kept (fun j => j = wo.heap.size) W3 W4 := by rw [hW4]; exact hkp.out.alloc _
                have hd4 : Made icell 1 3 W3.heap.size W4 (.slice Ao out.length co) out := by rw [hW4]; exact hmd.out.alloc _
                obtain ⟨W5, hW5⟩ : ∃ W5, W5 = W4.setCell ⟨wo.heap.size, j, none⟩ (.bool true) := ⟨_, rfl⟩
                have hm5 : Marks W5 wo.heap.size (S.set j true) := by rw [hW5]; exact hm4.set hSj true
                have hk5 : Kept (fun j => j = wo.heap.size) W3 W5 := by rw [hW5]; exact hk4.setCell (p := ⟨wo.heap.size, j, none⟩) (fun _ => rfl) _
                have hs5 : W5.heap.size = W4.heap.size := by rw [hW5]; simp [World.setCell]
                have hd5 : Made icell 1 3 W3.heap.size W5 (.slice Ao out.length co) out := hd4.same fun b hb => by
                  rw [hW5]; exact Below.heap_setCell _ _ _ _ (by show b ≠ wo.heap.size; have := (hd4.lt b hb).1; omega)
                obtain ⟨W6, hW6⟩ : ∃ W6, W6 = W5.alloc (.cells #[.int .i64 (j : Nat)] 3) := ⟨_, rfl⟩
                have hd6 : Made icell 1 3 W3.heap.size W6 (.slice Ao out.length co) out := by rw [hW6]; exact hd5.alloc _
                have hr6 : Rd icell 1 W6 (W5.heap.size + 1) (some ⟨W5.heap.size, 0, none⟩) [j] := by rw [hW6]; exact rd_one encI W5 j #[.int .i64 (j : Nat)] rfl 3
                have hz4 : W4.heap.size = wr.heap.size + 1 := by rw [hW4]; simp
                rw [hs5, hz4] at hr6
                clear hz4
                have hm6 : Marks W6 wo.heap.size (S.set j true) := by rw [hW6]; exact hm5.below ((Below.refl _ _).alloc (Nat.le_refl _) _)
                have hk6 : Kept (fun j => j = wo.heap.size) W3 W6 := by rw [hW6]; exact hk5.alloc _
                have hz6 : W3.heap.size ≤ W6.heap.size := hk6.size
                have hm6l : wo.heap.size < W6.heap.size := hm6.lt
                have HM6 := Lib.hid hm6
                have HK6 := Lib.hid hk6
                have HZ6 := Lib.hid hz6
                have HD6 := Lib.hid hd6
                have HR6 := Lib.hid hr6
                have HW4 := Lib.hid hW4
                have HW5 := Lib.hid hW5
                have HW6 := Lib.hid hW6
                rw [hW4] at fm
                clear hlo hpl hvj HYES HNO HOW hst hsj hm4 hk4 hd4 hm5 hk5 hs5 hd5 hd6 hr6 hm6 hk6 hW4 hW5 hW6 hz6
                go_wp2_with (at_builtin; rw [← HW4.out, ← HW5.out, ← HW6.out]; go_loud (refine wpList_app (v := .slice Ao out.length co) (xs := out) (ys := [j]) rowInt encI rfl (.tmp 62) (.tmp 65) rfl W3.heap.size rfl HD6.out rfl rfl HR6.out (by have := hol.out; simp only [List.length_singleton]; omega) (by have := hol.out; unfold maxLen; simp only [List.length_singleton]; omega) HZ6.out ?_); intro v7 w7 hm7 hg7 hat7; have HM7 := Lib.hid hm7; have HG7 := Lib.hid hg7; obtain ⟨A7, c7, rfl, hc7⟩ := hm7.form; clear hm7 hg7 hat7 hc7)
                go_roundw
                case rel =>
                  refine ⟨k + 1, S.set j true, out ++ [j], A7, c7, by omega, by go_num, by rw [List.length_append]; rfl, hnx.out, by show _ = _; rw [List.length_set]; exact hSl.out, by show _ ≤ _; have := hol.out; simp; omega, HM6.out.same (HG7.out.block _ (by omega) (fun e => ?_)), HM7.out, HK6.out.trans2 (Kept.of_grown HG7.out) fun q hq e => ?_⟩
                  · have := (HD6.out.lt _ e.symm).1; omega
                  · have := (HD6.out.lt _ e).1; omega
                case measure => simp [intOf]; omega
              · have hsj : S[j]? = some true := by rw [List.getElem?_eq_getElem hSj, hst]
                have dm : ∀ o, (wr.alloc o).cell? ⟨wo.heap.size, j, none⟩ = some (.bool true) := fun o => (World.cell?_alloc_lt _ _ _ hmr.out.lt).trans (hmr.out.cell j _ hsj)
                have hend : Hid (ordersW l (allFree l) [] seq = none) := HOW.out.trans (by simp only [ordersW, HPL.out, List.getD_eq_getElem?_getD, hsj]; rfl)
                clear hlo hpl hvj HYES HNO HOW hst hsj
                go_wp2_with fail
                rw [HT0.out]
                refine ⟨none, 0, ?_, ?_, HBR.out.alloc HBR.out.size _⟩
                · rw [HOL.out, hend.out]; rfl
                · rw [HOL.out, hend.out]; exact Rd.nil
          · have g2 : decide ((k:Int) < (seq.length : Int)) = false := decide_eq_false (by omega)
            have g3 : decide (k < seq.length) = false := decide_eq_false h1
            have hfin := how.out
            rw [List.drop_eq_nil_of_le (by omega)] at hfin
            simp only [ordersW] at hfin
            have HFIN := Lib.hid hfin
            clear how hfin
            go_wp2_with fail
            refine (missing_prog A (some ⟨wo.heap.size, 0, none⟩) c l.length l.length l.length l S rfl rfl hSl.out wr (by omega) ((HA.out.below HBR.out).more HBR.out.size) hmr.out.rd).mono ?_
            rintro e w8 ⟨rfl, hb8⟩
            have HB8 := Lib.hid (HBR.out.trans (hb8.mono HBR.out.size))
            have hrd8 := ((Made.rd' encI.len hmd.out).below hb8).more hb8.size
            have HRD8 := Lib.hid hrd8
            clear hb8 hrd8
            cases hms : missingL l S
            · rw [hms] at HFIN
              clear hms
              dsimp only
              go_wp2_with fail
              rw [HT0.out]
              refine ⟨Ao, co, ?_, ?_, HB8.out⟩
              · rw [HOL.out, HFIN.out]; rfl
              · rw [HOL.out, HFIN.out]; exact HRD8.out
            · rw [hms] at HFIN
              clear hms
              dsimp only
              go_wp2_with fail
              rw [HT0.out]
              refine ⟨none, 0, ?_, ?_, HB8.out⟩
              · rw [HOL.out, HFIN.out]; rfl
              · rw [HOL.out, HFIN.out]; exact Rd.nil
  · have hc2 : checkL l = 180 := by unfold checkL at hck ⊢; split; rename_i h; exact absurd (if_pos h) hck; rfl
    have HOL : Hid (orderL l seq = ([], 180)) := by show _ = _; unfold orderL; rw [if_pos (by rw [hc2]; decide), hc2]
    rw [hc2]
    clear hck hc2
    dsimp only
    go_wp2_with fail
    rw [HT0.out]
    refine ⟨none, 0, ?_, ?_, HB1.out⟩
    · rw [HOL.out]; rfl
    · rw [HOL.out]; exact Rd.nil
end Go.Proofs.Ytmfidhlhcochoaa
