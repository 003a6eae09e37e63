/- The reference's Order answers orderL. Conditions: Go lengths. -/
import Derived.Test.YtmfidhlhcochoaaOrder18
import Derived.Test.YtmfidhlhcochoaaRefM18
namespace Go.Proofs.Ytmfidhlhcochoaa
open Go.RowKit
set_option linter.unusedVariables false
set_option linter.unusedSimpArgs false

/-- The order behind the first k calls that were held against an entry. -/
def ordIn (l : List Call) (x : Entry) (out : List Nat) (k : Nat) : List Nat := match placeE l x with
  | some j => if j < k then out ++ [j] else out
  | none => out
theorem ordIn_hit {l : List Call} {x : Entry} {out : List Nat} {k : Nat} (h : placeE l x = some k) : ordIn l x out k = out ∧ ordIn l x out (k + 1) = out ++ [k] := by
  unfold ordIn; rw [h]; simp
theorem ordIn_miss {l : List Call} {x : Entry} {out : List Nat} {k : Nat} (h : placeE l x ≠ some k) : ordIn l x out (k + 1) = ordIn l x out k := by
  unfold ordIn
  cases hp : placeE l x with
  | none => rfl
  | some j =>
    have : j ≠ k := fun e => h (by rw [hp, e])
    dsimp only
    by_cases hj : j < k
    · rw [if_pos hj, if_pos (by omega)]
    · rw [if_neg hj, if_neg (by omega)]
theorem placeE_is {l : List Call} {x : Entry} {j : Nat} (h : placeE l x = some j) : ∃ (hj : j < l.length), entryOf l[j] = x := by
  unfold placeE at h
  have h1 := List.find?_some h
  have h2 := List.mem_range.1 (List.mem_of_find?_eq_some h)
  simp only [List.getElem?_eq_getElem h2, Option.map_some, decide_eq_true_eq, Option.some.injEq] at h1
  exact ⟨h2, h1⟩
theorem ordIn_len (l : List Call) (x : Entry) (out : List Nat) (k : Nat) : (ordIn l x out k).length ≤ out.length + 1 := by
  unfold ordIn
  split
  · split <;> simp
  · simp
theorem ordIn_lt {l : List Call} {x : Entry} {out : List Nat} (h : ∀ i ∈ out, i < l.length) (k : Nat) : ∀ i ∈ ordIn l x out k, i < l.length := by
  unfold ordIn
  split
  · rename_i j hj
    split
    · intro i hi
      rcases List.mem_append.1 hi with hi | hi
      · exact h i hi
      · simp only [List.mem_singleton] at hi; subst hi; exact (placeE_is hj).1
    · exact h
  · exact h
theorem ordersW_step {l : List Call} {x : Entry} {xs : List Entry} {out : List Nat} (hr : ∀ i ∈ out, i < l.length) (hn : ∀ j, placeE l x = some j → j ∉ out) : ordersW l (marksOf l.length out) out (x :: xs) = ordersW l (marksOf l.length (ordIn l x out l.length)) (ordIn l x out l.length) xs := by
  unfold ordIn
  simp only [ordersW]
  cases hp : placeE l x with
  | none => rfl
  | some j =>
    obtain ⟨hj, _⟩ := placeE_is hp
    have hm := marksOf_get l.length out j hj
    rw [decide_eq_false (hn j hp)] at hm
    dsimp only
    rw [if_neg (by rw [List.getD_eq_getElem?_getD, hm]; simp), if_pos hj, marksOf_snoc]
theorem ordersW_stop {l : List Call} {x : Entry} {xs : List Entry} {out : List Nat} {j : Nat} (hp : placeE l x = some j) (hm : j ∈ out) : ordersW l (marksOf l.length out) out (x :: xs) = none := by
  obtain ⟨hj, _⟩ := placeE_is hp
  have h := marksOf_get l.length out j hj
  rw [decide_eq_true hm] at h
  simp only [ordersW, hp]
  rw [if_pos (by rw [List.getD_eq_getElem?_getD, h]; rfl)]

set_option maxRecDepth 100000 in
set_option maxHeartbeats 8000000 in
theorem order_ref (A : Option Addr) (c n : Nat) (l : List Call) (hn : n = l.length) (As : Option Addr) (cs ns : Nat) (seq : List Entry) (hns : ns = seq.length) (w : World) (hl : l.length ≤ 281474976710656) (hls : (seq.length + 1) * 8 ≤ 140737488355328) (hv : ∀ x ∈ l, x.op.value.size ≤ 9223372036854775807) (ha : Rd Call.cells 10 w w.heap.size A l) (has : Rd Entry.cells 5 w w.heap.size As seq) :
    Calls Try.prog 33 #[.slice A n c, .slice As ns cs] w (OrderPost l seq w) := by
  subst hn hns
  obtain ⟨T0, hT0⟩ : ∃ T0 : Ending → World → Prop, T0 = OrderPost l seq w := ⟨_, rfl⟩
  rw [← hT0]
  have HT0 := Lib.hid hT0
  have HA := Lib.hid ha
  have HAS := Lib.hid has
  have HV := Lib.hid hv
  clear ha has hv hT0
  go_enter Try.func33, Try.ntmps33
  go_wp2_with fail
  refine (refCheck A c l.length l rfl w (by omega) HV.out HA.out).mono ?_
  rintro e w1 ⟨rfl, hb1⟩
  have HB1 := Lib.hid hb1
  clear hb1
  by_cases hck : checkL l = 0
  · have HGD : Hid (GoodL l) := good_of hck
    have HOL : Hid (orderL l seq = match ordersW l (allFree l) [] seq with | some o => (o, (0:Int)) | none => ([], 182)) := by
      show _ = _
      unfold orderL; rw [if_neg (by simp [hck])]; rfl
    rw [hck]
    clear hck
    dsimp only
    go_wp2_with fail
    go_loopw [7, 6] (fun i v wr => ∃ k : Nat, ∃ out Ao co, k ≤ seq.length ∧ i = .int .i64 k ∧ v = .slice Ao out.length co ∧ Hid (ordersW l (allFree l) [] seq = ordersW l (marksOf l.length out) out (seq.drop k)) ∧ Hid (∀ i ∈ out, i < l.length) ∧ Hid (out.length ≤ k) ∧ Hid (Made icell 1 3 w1.heap.size wr (.slice Ao out.length co) out) ∧ Hid (Below w1.heap.size w1 wr)) (fun i _ _ => seq.length - (intOf i).toNat)
    case atStart => exact ⟨0, [], none, 0, by omega, rfl, rfl, rfl, fun i h => by simp at h, Nat.le_refl _, Made.nil _ _ _, Below.refl _ _⟩
    case round =>
      obtain ⟨k, out, Ao, co, hk, rfl, rfl, how, hin, hol, hmd, hbr⟩ := hrel
      obtain ⟨wo, hwo⟩ : ∃ wo, wo = wr := ⟨_, rfl⟩
      subst hwo
      have hbw : Below w.heap.size w wo := HB1.out.trans (hbr.out.mono HB1.out.size)
      have HBW := Lib.hid hbw
      by_cases h1 : k < seq.length
      · obtain ⟨x, hx⟩ : ∃ x, x = seq[k] := ⟨_, rfl⟩
        have g1 : (k:Int) < (seq.length : Int) := by omega
        have i1 : (0:Int) ≤ (k:Int) := by omega
        have hdrop : seq.drop k = x :: seq.drop (k + 1) := by rw [hx]; exact List.drop_eq_getElem_cons h1
        have how2 := how.out
        rw [hdrop] at how2
        have HOW := Lib.hid how2
        have HX := Lib.hid hx
        have h0 : ordIn l x out 0 = out := by unfold ordIn; split <;> simp
        have H0 := Lib.hid h0
        clear how how2 hdrop hx h0 hbw
        go_wp2_with fail
        go_loopw [8, 6] (fun i v wi => ∃ k2 : Nat, ∃ o2 A2 c2, k2 ≤ l.length ∧ i = .int .i64 k2 ∧ v = .slice A2 o2.length c2 ∧ Hid (o2 = ordIn l x out k2) ∧ Hid (∀ j, placeE l x = some j → j < k2 → j ∉ out) ∧ Hid (Made icell 1 3 w1.heap.size wi (.slice A2 o2.length c2) o2) ∧ Hid (Below w1.heap.size w1 wi)) (fun i _ _ => l.length - (intOf i).toNat)
        case atStart => exact ⟨0, out, Ao, co, by omega, rfl, rfl, H0.out.symm, fun j _ h => absurd h (Nat.not_lt_zero j), hmd.out, hbr.out⟩
        case round =>
          obtain ⟨k2, o2, A2, c2, hk2, rfl, rfl, ho2, hno, hm2, hb2⟩ := hrel
          have hbi : Below w.heap.size w wr := HB1.out.trans (hb2.out.mono HB1.out.size)
          have HBI := Lib.hid hbi
          by_cases h2 : k2 < l.length
          · obtain ⟨ad, hA, hal, hca⟩ := (HA.out.below hbi).at_ h2
            obtain ⟨c0, c1, cc2, c3, c4, c5, c6, c7, c8, c9⟩ := hca.call
            obtain ⟨bd, hB, hbl, hcb⟩ := (HAS.out.below hbi).at_ h1
            rw [← HX.out] at hcb
            obtain ⟨d0, d1, d2, d3, d4⟩ := hcb.five
            have g2 : (k2:Int) < (l.length : Int) := by omega
            have i2 : (0:Int) ≤ (k2:Int) := by omega
            have HHIT : Hid (entryOf l[k2] = x → placeE l x = some k2) := fun e => placeE_some HGD.out h2 e
            have HMISS : Hid (entryOf l[k2] ≠ x → placeE l x ≠ some k2) := fun e q => e (placeE_is q).2
            subst hA hB
            obtain ⟨y, hy⟩ : ∃ y, y = l[k2] := ⟨_, rfl⟩
            rw [← hy] at HHIT HMISS c0 c1 cc2 c3 c4
            have he : ∀ W : World, (binOp .eql 119 (.agg #[.int .i64 y.client, .int .i64 y.number, .int .i64 y.op.kind, .int .i64 y.op.slot, .string y.op.value]) (.agg #[.int .i64 x.client, .int .i64 x.number, .int .i64 x.op.kind, .int .i64 x.op.slot, .string x.op.value])).run Try.prog W = .ok (.bool (decide (entryOf y = x))) W := fun W => eql_entry (entryOf y) x W
            have hge := guard_entry
            have hsm : (A2 = none → o2.length = 0) := fun e => by
              rcases Nat.eq_zero_or_pos o2.length with h | h
              · exact h
              · exact absurd e (hm2.out.addrN h)
            clear hca hcb hbi hy c5 c6 c7 c8 c9 hsm
            by_cases hq : entryOf y = x
            · have hp := HHIT.out hq
              have hd : decide (entryOf y = x) = true := decide_eq_true hq
              rw [hd] at he
              have ho : o2 = out := ho2.out.trans (ordIn_hit hp).1
              have HO := Lib.hid ho
              have HP := Lib.hid hp
              have hrdo := Made.rd' encI.len hm2.out
              have HRDO := Lib.hid hrdo
              have hln : o2.length ≤ seq.length := by rw [ho]; have := hol.out; omega
              have HLN := Lib.hid hln
              clear hq hd HHIT HMISS hp ho hrdo hln
              go_wp2_with fail
              go_quiet (fail)
              go_wp2_with fail
              refine (has_ref A2 c2 o2.length o2 rfl k2 _ (by have := HLN.out; omega) (HRDO.out.drewN _)).mono ?_
              rintro e w2 ⟨rfl, rfl⟩
              by_cases hmem : k2 ∈ o2
              · rw [decide_eq_true hmem]
                have hfin : Hid (ordersW l (allFree l) [] seq = none) := HOW.out.trans (ordersW_stop HP.out (HO.out ▸ hmem))
                clear hmem
                dsimp only
                go_wp2_with fail
                rw [HT0.out]
                refine ⟨none, 0, ?_, ?_, below_drewN HBI.out _⟩
                · rw [HOL.out, hfin.out]; rfl
                · rw [HOL.out, hfin.out]; exact Rd.nil
              · rw [decide_eq_false hmem]
                have hnm : k2 ∉ out := HO.out ▸ hmem
                have HNM := Lib.hid hnm
                clear hmem hnm
                have hz := hm2.out.lt
                have hzb := hb2.out.size
                dsimp only
                go_wp2_with (at_builtin; go_loud (refine wpList_app (v := .slice A2 o2.length c2) (xs := o2) (ys := [k2]) rowInt encI rfl (.tmp 49) (.tmp 51) rfl w1.heap.size rfl ((hm2.out.drewN _).alloc _) rfl rfl (rd_one encI _ k2 #[.int .i64 (k2 : Nat)] rfl 3) (by have := HLN.out; simp only [List.length_singleton]; omega) (by have := HLN.out; unfold maxLen; simp only [List.length_singleton]; omega) (by simp; omega) ?_); intro v7 w7 hm7 hg7 hat7; have HM7 := Lib.hid hm7; have hg7b := Below.grown ((below_drewN hb2.out _).alloc (by simpa using hzb) _) hg7 (by simp; omega) (fun q e => (hz q e).1); have HG7 := Lib.hid hg7b; obtain ⟨A7, c7, rfl, hc7⟩ := hm7.form; clear hm7 hg7 hat7 hc7 hg7b)
                go_roundw
                case rel => exact ⟨k2 + 1, o2 ++ [k2], A7, c7, by omega, by go_num, by rw [List.length_append]; rfl, by show _ = _; rw [(ordIn_hit HP.out).2, HO.out], fun j hj hjk => by { have : j = k2 := Option.some.inj (hj.symm.trans HP.out); subst this; exact HNM.out }, HM7.out, HG7.out⟩
                case measure => simp [intOf]; omega
            · have hp := HMISS.out hq
              have hd : decide (entryOf y = x) = false := decide_eq_false hq
              rw [hd] at he
              have HP := Lib.hid hp
              clear hq hd HHIT HMISS hp
              go_wp2_with fail
              go_quiet (fail)
              go_wp2_with fail
              go_roundw
              case rel => exact ⟨k2 + 1, o2, A2, c2, by omega, by go_num, rfl, by show _ = _; rw [ordIn_miss HP.out]; exact ho2.out, fun j hj hjk => hno.out j hj (by rcases Nat.lt_succ_iff_lt_or_eq.1 hjk with h | h; exact h; subst h; exact absurd hj HP.out), hm2.out.drewN _, below_drewN hb2.out _⟩
              case measure => simp [intOf]; omega
          · have g2 : decide ((k2:Int) < (l.length : Int)) = false := decide_eq_false (by omega)
            have g3 : decide (k2 < l.length) = false := decide_eq_false h2
            have hkl : k2 = l.length := by omega
            have ho : o2 = ordIn l x out l.length := by rw [← hkl]; exact ho2.out
            have hst := HOW.out.trans (ordersW_step hin.out (fun j hj => hno.out j hj (by have := (placeE_is hj).1; omega)))
            rw [← ho] at hst
            have HST := Lib.hid hst
            have HLN2 : Hid (o2.length ≤ k + 1) := by show _ ≤ _; rw [ho]; have := ordIn_len l x out l.length; have := hol.out; omega
            have HLT2 : Hid (∀ i ∈ o2, i < l.length) := by show ∀ i ∈ o2, _; rw [ho]; exact ordIn_lt hin.out l.length
            clear ho hst hkl
            go_wp2_with fail
            go_roundw
            case rel => exact ⟨k + 1, o2, A2, c2, by omega, by go_num, rfl, HST.out, HLT2.out, HLN2.out, hm2.out, hb2.out⟩
            case measure => simp [intOf]; omega
      · have g5 : decide ((k:Int) < (seq.length : Int)) = false := decide_eq_false (by omega)
        have g6 : decide (k < seq.length) = false := decide_eq_false h1
        have hfin := how.out
        rw [List.drop_eq_nil_of_le (by omega)] at hfin
        simp only [ordersW] at hfin
        have HFIN := Lib.hid hfin
        have hrdo := Made.rd' encI.len hmd.out
        have HRDO := Lib.hid hrdo
        have hln : out.length ≤ 9223372036854775806 := by have := hol.out; omega
        have HLN := Lib.hid hln
        clear how hfin hrdo hbw hln
        go_wp2_with fail
        go_loopw [9] (fun i wr => ∃ k3 : Nat, k3 ≤ l.length ∧ i = .int .i64 k3 ∧ Hid (∀ j, j < k3 → missAt l (marksOf l.length out) j = false) ∧ wr = wo) (fun i _ => l.length - (intOf i).toNat)
        case atStart => exact ⟨0, by omega, rfl, fun j h => absurd h (Nat.not_lt_zero j), rfl⟩
        case round =>
          obtain ⟨k3, hk3, rfl, hno, rfl⟩ := hrel
          by_cases h3 : k3 < l.length
          · obtain ⟨ad, hA, hal, hca⟩ := (HA.out.below HBW.out).at_ h3
            obtain ⟨a0, a1, a2, a3, a4, a5, a6, a7, a8, a9⟩ := hca.call
            have g3 : (k3:Int) < (l.length : Int) := by omega
            have i3 : (0:Int) ≤ (k3:Int) := by omega
            have hmk : missAt l (marksOf l.length out) k3 = (decide (0 ≤ l[k3].fin) && !(decide (k3 ∈ out))) := by
              unfold missAt
              rw [List.getElem?_eq_getElem h3, List.getD_eq_getElem?_getD, marksOf_get _ _ _ h3]
              rfl
            have hnx : Hid (missAt l (marksOf l.length out) k3 = false → ∀ j, j < k3 + 1 → missAt l (marksOf l.length out) j = false) := fun h j hj => by
              by_cases e : j = k3
              · subst e; exact h
              · exact hno.out j (by omega)
            have hyes : Hid (missAt l (marksOf l.length out) k3 = true → ordersW l (allFree l) [] seq = none) := fun h => by
              rw [HFIN.out, if_pos (missing_of h3 h)]
            have HMK := Lib.hid hmk
            subst hA
            clear hca hmk hno a0 a1 a2 a3 a4 a5 a7 a8 a9
            generalize l[k3] = y at *
            by_cases hf : 0 ≤ y.fin
            · have hf2 : decide (0 ≤ y.fin) = true := decide_eq_true hf
              obtain ⟨hb, hhb⟩ : ∃ hb, hb = decide (k3 ∈ out) := ⟨_, rfl⟩
              rw [← hhb] at HMK
              have HHB := Lib.hid hhb
              clear hhb
              go_wp2_with fail
              refine (has_ref Ao co out.length out rfl k3 wr HLN.out HRDO.out).mono ?_
              rintro e w6 ⟨rfl, rfl⟩
              rw [← HHB.out]
              cases hb
              · have hend := hyes.out (by rw [HMK.out, hf2]; rfl)
                have HEND := Lib.hid hend
                clear hnx hyes HMK HFIN hend
                dsimp only
                go_wp2_with fail
                rw [HT0.out]
                refine ⟨none, 0, ?_, ?_, HBW.out⟩
                · rw [HOL.out, HEND.out]; rfl
                · rw [HOL.out, HEND.out]; exact Rd.nil
              · have HN := Lib.hid (hnx.out (by rw [HMK.out, hf2]; rfl))
                clear hnx hyes HMK
                dsimp only
                go_wp2_with fail
                go_roundw
                case rel => exact ⟨k3 + 1, by omega, by go_num, HN.out, (by first | rfl | trivial)⟩
                case measure => simp [intOf]; omega
            · have hf2 : decide (0 ≤ y.fin) = false := decide_eq_false hf
              have HN := Lib.hid (hnx.out (by rw [HMK.out, hf2]; rfl))
              clear hnx hyes HMK
              go_wp2_with fail
              go_roundw
              case rel => exact ⟨k3 + 1, by omega, by go_num, HN.out, (by first | rfl | trivial)⟩
              case measure => simp [intOf]; omega
          · have g7 : decide ((k3:Int) < (l.length : Int)) = false := decide_eq_false (by omega)
            have g8 : decide (k3 < l.length) = false := decide_eq_false h3
            have hnm := missing_none (S := marksOf l.length out) (l := l) (fun j hj => hno.out j (by omega))
            have hfin2 := HFIN.out
            rw [hnm] at hfin2
            have HF2 := Lib.hid hfin2
            clear hnm hfin2 hno
            go_wp2_with fail
            rw [HT0.out]
            refine ⟨Ao, co, ?_, ?_, HBW.out⟩
            · rw [HOL.out, HF2.out]; rfl
            · rw [HOL.out, HF2.out]; exact HRDO.out
  · have hc2 : checkL l = 180 := by unfold checkL at hck ⊢; split; rename_i h; exact absurd (if_pos h) hck; rfl
    have HOL : Hid (orderL l seq = ([], 180)) := by show _ = _; unfold orderL; rw [if_pos (by rw [hc2]; decide), hc2]
    rw [hc2]
    clear hck hc2
    dsimp only
    go_wp2_with fail
    rw [HT0.out]
    refine ⟨none, 0, ?_, ?_, HB1.out⟩
    · rw [HOL.out]; rfl
    · rw [HOL.out]; exact Rd.nil
end Go.Proofs.Ytmfidhlhcochoaa
