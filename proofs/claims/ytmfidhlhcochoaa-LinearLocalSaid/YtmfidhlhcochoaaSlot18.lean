/- linear.Slot and the reference's: they answer slotL. Conditions: Go lengths. -/
import Derived.Test.YtmfidhlhcochoaaRefCheck18
import Derived.Test.YtmfidhlhcochoaaLocal18
namespace Go.Proofs.Ytmfidhlhcochoaa
open Go.RowKit
set_option linter.unusedVariables false
set_option linter.unusedSimpArgs false

theorem slotL_snoc {l : List Call} (s : Int) {k : Nat} (h : k < l.length) : slotL (l.take (k + 1)) s = slotL (l.take k) s ++ (if (isPlain l[k] && decide (l[k].op.slot = s)) = true then [l[k]] else []) := by
  rw [List.take_succ_eq_append_getElem h]
  unfold slotL
  rw [List.filter_append]
  congr 1
  cases hb : (isPlain l[k] && decide (l[k].op.slot = s)) <;> simp [hb]
theorem slotL_len (s : Int) (l : List Call) : (slotL l s).length ≤ l.length := List.length_filter_le _ _
/-- What Slot answers. -/
def slotAns (s : Int) (l : List Call) : List Call × Int := if checkL l ≠ 0 then ([], checkL l) else if s < 0 ∨ 1024 ≤ s then ([], 41) else (slotL l s, 0)
def SlotPost (s : Int) (l : List Call) (w : World) (e : Ending) (w' : World) : Prop :=
  ∃ A' c', e = .returned (.tuple #[.slice A' (slotAns s l).1.length c', .int .i64 (slotAns s l).2]) ∧ Made Call.cells 10 45 w.heap.size w' (.slice A' (slotAns s l).1.length c') (slotAns s l).1 ∧ Below w.heap.size w w'
theorem checkL_two' (l : List Call) : checkL l = 0 ∨ checkL l = 180 := by unfold checkL; split; exact .inl rfl; exact .inr rfl

set_option maxRecDepth 100000 in
set_option maxHeartbeats 4000000 in
theorem slot_prog (A : Option Addr) (c n : Nat) (l : List Call) (hn : n = l.length) (s : Int) (w : World) (hl : (l.length + 1) * 96 ≤ 140737488355328) (hv : ∀ x ∈ l, x.op.value.size ≤ 9223372036854775807) (ha : Rd Call.cells 10 w w.heap.size A l) :
    Calls Try.prog 21 #[.slice A n c, .int .i64 s] w (SlotPost s l w) := by
  subst hn
  obtain ⟨T0, hT0⟩ : ∃ T0 : Ending → World → Prop, T0 = SlotPost s l w := ⟨_, rfl⟩
  rw [← hT0]
  have HT0 := Lib.hid hT0
  have HA := Lib.hid ha
  have HV := Lib.hid hv
  clear ha hv hT0
  go_enter Try.func21, Try.ntmps21
  go_wp2_with fail
  refine (linCheck A c l.length l rfl w (by omega) HV.out HA.out).mono ?_
  rintro e w1 ⟨rfl, hb1⟩
  have HB1 := Lib.hid hb1
  have hr1 := (HA.out.below hb1).more hb1.size
  have HR1 := Lib.hid hr1
  clear hb1 hr1
  rcases checkL_two' l with hck | hck
  · have HC := Lib.hid hck
    rw [hck]
    clear hck
    by_cases h0 : s < 0
    · have h02 : decide (s < 0) = true := decide_eq_true h0
      have HAN : Hid (slotAns s l = ([], 41)) := by show _ = _; unfold slotAns; rw [if_neg (by rw [HC.out]; decide), if_pos (.inl h0)]
      clear h0
      dsimp only
      go_wp2_with fail
      rw [HT0.out]
      refine ⟨none, 0, ?_, ?_, HB1.out⟩
      · rw [HAN.out]; rfl
      · rw [HAN.out]; exact Made.nil _ _ _
    have h02 : decide (s < 0) = false := decide_eq_false h0
    by_cases h9 : 1024 ≤ s
    · have h92 : decide (1024 ≤ s) = true := decide_eq_true h9
      have HAN : Hid (slotAns s l = ([], 41)) := by show _ = _; unfold slotAns; rw [if_neg (by rw [HC.out]; decide), if_pos (.inr h9)]
      clear h0 h9
      dsimp only
      go_wp2_with fail
      rw [HT0.out]
      refine ⟨none, 0, ?_, ?_, HB1.out⟩
      · rw [HAN.out]; rfl
      · rw [HAN.out]; exact Made.nil _ _ _
    have h92 : decide (1024 ≤ s) = false := decide_eq_false h9
    have HAN : Hid (slotAns s l = (slotL l s, 0)) := by show _ = _; unfold slotAns; rw [if_neg (by rw [HC.out]; decide), if_neg (by omega)]
    clear h0 h9
    dsimp only
    go_wp2_with fail
    go_loopw [23, 7] (fun i v wr => ∃ k : Nat, ∃ out A5 c5, k ≤ l.length ∧ i = .int .i64 k ∧ v = .slice A5 out.length c5 ∧ Hid (out = slotL (l.take k) s) ∧ Hid (Made Call.cells 10 45 w1.heap.size wr (.slice A5 out.length c5) out) ∧ Hid (Below w1.heap.size w1 wr)) (fun i _ _ => l.length - (intOf i).toNat)
    case atStart => exact ⟨0, [], none, 0, by omega, rfl, rfl, rfl, Made.nil _ _ _, Below.refl _ _⟩
    case round =>
      obtain ⟨k, out, A5, c5, hk, rfl, rfl, ho, hmd, hbr⟩ := hrel
      have hzb : w1.heap.size ≤ wr.heap.size := hbr.out.size
      have hz := hmd.out.lt
      by_cases h1 : k < l.length
      · obtain ⟨ad, hA, hal, hca⟩ := (HR1.out.below hbr.out).at_ h1
        have g1 : (k:Int) < (l.length : Int) := by omega
        have i1 : (0:Int) ≤ (k:Int) := by omega
        have HCS := Lib.hid (slotL_snoc s h1)
        have HOL : Hid (out.length ≤ k) := by show _ ≤ _; rw [ho.out]; exact Nat.le_trans (slotL_len _ _) (by rw [List.length_take]; omega)
        obtain ⟨c0, c1, c2, c3, c4, c5', c6, c7, c8, c9⟩ := hca.call
        subst hA
        clear hca
        generalize l[k] = x at *
        by_cases k1 : x.op.kind = 1
        · have k12 : decide (x.op.kind = 1) = true := decide_eq_true k1
          have k13 : (x.op.kind == 1) = true := by simpa using k1
          have k14 : isPlain x = true := by unfold isPlain; rw [k12]; rfl
          clear k1
          by_cases hs : x.op.slot = s
          · have hs2 : decide (x.op.slot = s) = true := decide_eq_true hs
            have hs3 : (x.op.slot == s) = true := by simpa using hs
            clear hs
            have hnx : Hid (out ++ [x] = slotL (l.take (k + 1)) s) := by
              show _ = _
              rw [HCS.out, if_pos (by simp [isPlain, k12, hs2]), ho.out]
            clear HCS
            go_wp2_with (at_builtin; go_loud (refine wpList_app (v := .slice A5 out.length c5) (xs := out) (ys := [x]) rowCall encCall rfl (.tmp 44) (.tmp 46) rfl w1.heap.size rfl ((hmd.out.alloc _).alloc _) rfl rfl (rd_at encCall _ x #[.int .i64 x.client, .int .i64 x.number, .int .i64 x.op.kind, .int .i64 x.op.slot, .string x.op.value, .int .i64 x.beg, .int .i64 x.fin, .int .i64 x.res.code, .int .i64 x.res.slot, .string x.res.value] rfl 45 (by simp) (Nat.lt_succ_self _)) (by have := HOL.out; simp only [List.length_singleton]; omega) (by have := HOL.out; unfold maxLen; simp only [List.length_singleton]; omega) (by simp; omega) ?_); intro v7 w7 hm7 hg7 hat7; have HM7 := Lib.hid hm7; have hg7b := Below.grown ((hbr.out.alloc hzb _).alloc (by first | omega | (simp; omega)) _) hg7 (by simp; omega) (fun q e => (hz q e).1); have HG7 := Lib.hid hg7b; obtain ⟨A7, c7, rfl, hc7⟩ := hm7.form; clear hm7 hg7 hat7 hc7 hg7b)
            go_roundw
            case rel => exact ⟨k + 1, out ++ [x], A7, c7, by omega, by go_num, by rw [List.length_append]; rfl, hnx.out, HM7.out, HG7.out⟩
            case measure => simp [intOf]; omega
          · have hs2 : decide (x.op.slot = s) = false := decide_eq_false hs
            have hs3 : (x.op.slot == s) = false := by simpa using hs
            clear hs
            have hnx : Hid (out = slotL (l.take (k + 1)) s) := by
              show _ = _
              rw [HCS.out, if_neg (by simp [isPlain, k12, hs2]), List.append_nil]; exact ho.out
            clear HCS
            go_wp2_with fail
            go_roundw
            case rel => exact ⟨k + 1, out, A5, c5, by omega, by go_num, rfl, hnx.out, hmd.out.alloc _, (hbr.out.alloc hzb _)⟩
            case measure => simp [intOf]; omega
        · have k12 : decide (x.op.kind = 1) = false := decide_eq_false k1
          have k13 : (x.op.kind == 1) = false := by simpa using k1
          by_cases k3 : x.op.kind = 3
          · have k32 : decide (x.op.kind = 3) = true := decide_eq_true k3
            have k33 : (x.op.kind == 3) = true := by simpa using k3
            clear k1 k3
            by_cases hs : x.op.slot = s
            · have hs2 : decide (x.op.slot = s) = true := decide_eq_true hs
              have hs3 : (x.op.slot == s) = true := by simpa using hs
              clear hs
              have hnx : Hid (out ++ [x] = slotL (l.take (k + 1)) s) := by
                show _ = _
                rw [HCS.out, if_pos (by simp [isPlain, k12, k32, hs2]), ho.out]
              clear HCS
              go_wp2_with (at_builtin; go_loud (refine wpList_app (v := .slice A5 out.length c5) (xs := out) (ys := [x]) rowCall encCall rfl (.tmp 44) (.tmp 46) rfl w1.heap.size rfl ((hmd.out.alloc _).alloc _) rfl rfl (rd_at encCall _ x #[.int .i64 x.client, .int .i64 x.number, .int .i64 x.op.kind, .int .i64 x.op.slot, .string x.op.value, .int .i64 x.beg, .int .i64 x.fin, .int .i64 x.res.code, .int .i64 x.res.slot, .string x.res.value] rfl 45 (by simp) (Nat.lt_succ_self _)) (by have := HOL.out; simp only [List.length_singleton]; omega) (by have := HOL.out; unfold maxLen; simp only [List.length_singleton]; omega) (by simp; omega) ?_); intro v7 w7 hm7 hg7 hat7; have HM7 := Lib.hid hm7; have hg7b := Below.grown ((hbr.out.alloc hzb _).alloc (by first | omega | (simp; omega)) _) hg7 (by simp; omega) (fun q e => (hz q e).1); have HG7 := Lib.hid hg7b; obtain ⟨A7, c7, rfl, hc7⟩ := hm7.form; clear hm7 hg7 hat7 hc7 hg7b)
              go_roundw
              case rel => exact ⟨k + 1, out ++ [x], A7, c7, by omega, by go_num, by rw [List.length_append]; rfl, hnx.out, HM7.out, HG7.out⟩
              case measure => simp [intOf]; omega
            · have hs2 : decide (x.op.slot = s) = false := decide_eq_false hs
              have hs3 : (x.op.slot == s) = false := by simpa using hs
              clear hs
              have hnx : Hid (out = slotL (l.take (k + 1)) s) := by
                show _ = _
                rw [HCS.out, if_neg (by simp [isPlain, k12, k32, hs2]), List.append_nil]; exact ho.out
              clear HCS
              go_wp2_with fail
              go_roundw
              case rel => exact ⟨k + 1, out, A5, c5, by omega, by go_num, rfl, hnx.out, hmd.out.alloc _, (hbr.out.alloc hzb _)⟩
              case measure => simp [intOf]; omega
          · have k32 : decide (x.op.kind = 3) = false := decide_eq_false k3
            have k33 : (x.op.kind == 3) = false := by simpa using k3
            clear k1 k3
            have hnx : Hid (out = slotL (l.take (k + 1)) s) := by
              show _ = _
              rw [HCS.out, if_neg (by simp [isPlain, k12, k32]), List.append_nil]; exact ho.out
            clear HCS
            go_wp2_with fail
            go_roundw
            case rel => exact ⟨k + 1, out, A5, c5, by omega, by go_num, rfl, hnx.out, hmd.out.alloc _, (hbr.out.alloc hzb _)⟩
            case measure => simp [intOf]; omega
      · have g2 : decide ((k:Int) < (l.length : Int)) = false := decide_eq_false (by omega)
        have g3 : decide (k < l.length) = false := decide_eq_false h1
        have hfin : Hid (out = slotL l s) := by show _ = _; rw [ho.out, List.take_of_length_le (by omega)]
        go_wp2_with fail
        rw [HT0.out]
        obtain rfl := hfin.out
        refine ⟨A5, c5, ?_, ?_, HB1.out.trans (hbr.out.mono HB1.out.size)⟩
        · rw [HAN.out]; rfl
        · rw [HAN.out]; exact hmd.out.base' HB1.out.size
  · have HAN : Hid (slotAns s l = ([], 180)) := by show _ = _; unfold slotAns; rw [hck, if_pos (by decide)]
    rw [hck]
    clear hck
    dsimp only
    go_wp2_with fail
    rw [HT0.out]
    refine ⟨none, 0, ?_, ?_, HB1.out⟩
    · rw [HAN.out]; rfl
    · rw [HAN.out]; exact Made.nil _ _ _

set_option maxRecDepth 100000 in
set_option maxHeartbeats 4000000 in
theorem slot_ref (A : Option Addr) (c n : Nat) (l : List Call) (hn : n = l.length) (s : Int) (w : World) (hl : (l.length + 1) * 96 ≤ 140737488355328) (hv : ∀ x ∈ l, x.op.value.size ≤ 9223372036854775807) (ha : Rd Call.cells 10 w w.heap.size A l) :
    Calls Try.prog 38 #[.slice A n c, .int .i64 s] w (SlotPost s l w) := by
  subst hn
  obtain ⟨T0, hT0⟩ : ∃ T0 : Ending → World → Prop, T0 = SlotPost s l w := ⟨_, rfl⟩
  rw [← hT0]
  have HT0 := Lib.hid hT0
  have HA := Lib.hid ha
  have HV := Lib.hid hv
  clear ha hv hT0
  go_enter Try.func38, Try.ntmps38
  go_wp2_with fail
  refine (refCheck A c l.length l rfl w (by omega) HV.out HA.out).mono ?_
  rintro e w1 ⟨rfl, hb1⟩
  have HB1 := Lib.hid hb1
  have hr1 := (HA.out.below hb1).more hb1.size
  have HR1 := Lib.hid hr1
  clear hb1 hr1
  rcases checkL_two' l with hck | hck
  · have HC := Lib.hid hck
    rw [hck]
    clear hck
    by_cases h0 : s < 0
    · have h02 : decide (s < 0) = true := decide_eq_true h0
      have HAN : Hid (slotAns s l = ([], 41)) := by show _ = _; unfold slotAns; rw [if_neg (by rw [HC.out]; decide), if_pos (.inl h0)]
      clear h0
      dsimp only
      go_wp2_with fail
      rw [HT0.out]
      refine ⟨none, 0, ?_, ?_, HB1.out⟩
      · rw [HAN.out]; rfl
      · rw [HAN.out]; exact Made.nil _ _ _
    have h02 : decide (s < 0) = false := decide_eq_false h0
    by_cases h9 : 1024 ≤ s
    · have h92 : decide (1024 ≤ s) = true := decide_eq_true h9
      have HAN : Hid (slotAns s l = ([], 41)) := by show _ = _; unfold slotAns; rw [if_neg (by rw [HC.out]; decide), if_pos (.inr h9)]
      clear h0 h9
      dsimp only
      go_wp2_with fail
      rw [HT0.out]
      refine ⟨none, 0, ?_, ?_, HB1.out⟩
      · rw [HAN.out]; rfl
      · rw [HAN.out]; exact Made.nil _ _ _
    have h92 : decide (1024 ≤ s) = false := decide_eq_false h9
    have HAN : Hid (slotAns s l = (slotL l s, 0)) := by show _ = _; unfold slotAns; rw [if_neg (by rw [HC.out]; decide), if_neg (by omega)]
    clear h0 h9
    dsimp only
    go_wp2_with fail
    go_loopw [7, 6] (fun i v wr => ∃ k : Nat, ∃ out A5 c5, k ≤ l.length ∧ i = .int .i64 k ∧ v = .slice A5 out.length c5 ∧ Hid (out = slotL (l.take k) s) ∧ Hid (Made Call.cells 10 45 w1.heap.size wr (.slice A5 out.length c5) out) ∧ Hid (Below w1.heap.size w1 wr)) (fun i _ _ => l.length - (intOf i).toNat)
    case atStart => exact ⟨0, [], none, 0, by omega, rfl, rfl, rfl, Made.nil _ _ _, Below.refl _ _⟩
    case round =>
      obtain ⟨k, out, A5, c5, hk, rfl, rfl, ho, hmd, hbr⟩ := hrel
      have hzb : w1.heap.size ≤ wr.heap.size := hbr.out.size
      have hz := hmd.out.lt
      by_cases h1 : k < l.length
      · obtain ⟨ad, hA, hal, hca⟩ := (HR1.out.below hbr.out).at_ h1
        have g1 : (k:Int) < (l.length : Int) := by omega
        have i1 : (0:Int) ≤ (k:Int) := by omega
        have HCS := Lib.hid (slotL_snoc s h1)
        have HOL : Hid (out.length ≤ k) := by show _ ≤ _; rw [ho.out]; exact Nat.le_trans (slotL_len _ _) (by rw [List.length_take]; omega)
        obtain ⟨c0, c1, c2, c3, c4, c5', c6, c7, c8, c9⟩ := hca.call
        subst hA
        clear hca
        generalize l[k] = x at *
        by_cases k1 : x.op.kind = 1
        · have k12 : decide (x.op.kind = 1) = true := decide_eq_true k1
          have k13 : (x.op.kind == 1) = true := by simpa using k1
          have k14 : isPlain x = true := by unfold isPlain; rw [k12]; rfl
          clear k1
          by_cases hs : x.op.slot = s
          · have hs2 : decide (x.op.slot = s) = true := decide_eq_true hs
            have hs3 : (x.op.slot == s) = true := by simpa using hs
            clear hs
            have hnx : Hid (out ++ [x] = slotL (l.take (k + 1)) s) := by
              show _ = _
              rw [HCS.out, if_pos (by simp [isPlain, k12, hs2]), ho.out]
            clear HCS
            go_wp2_with (at_builtin; go_loud (refine wpList_app (v := .slice A5 out.length c5) (xs := out) (ys := [x]) rowCall encCall rfl (.tmp 49) (.tmp 54) rfl w1.heap.size rfl ((hmd.out).alloc _) rfl rfl (rd_at encCall _ x #[.int .i64 x.client, .int .i64 x.number, .int .i64 x.op.kind, .int .i64 x.op.slot, .string x.op.value, .int .i64 x.beg, .int .i64 x.fin, .int .i64 x.res.code, .int .i64 x.res.slot, .string x.res.value] rfl 45 (by simp) (Nat.lt_succ_self _)) (by have := HOL.out; simp only [List.length_singleton]; omega) (by have := HOL.out; unfold maxLen; simp only [List.length_singleton]; omega) (by simp; omega) ?_); intro v7 w7 hm7 hg7 hat7; have HM7 := Lib.hid hm7; have hg7b := Below.grown (hbr.out.alloc (by first | omega | (simp; omega)) _) hg7 (by simp; omega) (fun q e => (hz q e).1); have HG7 := Lib.hid hg7b; obtain ⟨A7, c7, rfl, hc7⟩ := hm7.form; clear hm7 hg7 hat7 hc7 hg7b)
            go_roundw
            case rel => exact ⟨k + 1, out ++ [x], A7, c7, by omega, by go_num, by rw [List.length_append]; rfl, hnx.out, HM7.out, HG7.out⟩
            case measure => simp [intOf]; omega
          · have hs2 : decide (x.op.slot = s) = false := decide_eq_false hs
            have hs3 : (x.op.slot == s) = false := by simpa using hs
            clear hs
            have hnx : Hid (out = slotL (l.take (k + 1)) s) := by
              show _ = _
              rw [HCS.out, if_neg (by simp [isPlain, k12, hs2]), List.append_nil]; exact ho.out
            clear HCS
            go_wp2_with fail
            go_roundw
            case rel => exact ⟨k + 1, out, A5, c5, by omega, by go_num, rfl, hnx.out, hmd.out, hbr.out⟩
            case measure => simp [intOf]; omega
        · have k12 : decide (x.op.kind = 1) = false := decide_eq_false k1
          have k13 : (x.op.kind == 1) = false := by simpa using k1
          by_cases k3 : x.op.kind = 3
          · have k32 : decide (x.op.kind = 3) = true := decide_eq_true k3
            have k33 : (x.op.kind == 3) = true := by simpa using k3
            clear k1 k3
            by_cases hs : x.op.slot = s
            · have hs2 : decide (x.op.slot = s) = true := decide_eq_true hs
              have hs3 : (x.op.slot == s) = true := by simpa using hs
              clear hs
              have hnx : Hid (out ++ [x] = slotL (l.take (k + 1)) s) := by
                show _ = _
                rw [HCS.out, if_pos (by simp [isPlain, k12, k32, hs2]), ho.out]
              clear HCS
              go_wp2_with (at_builtin; go_loud (refine wpList_app (v := .slice A5 out.length c5) (xs := out) (ys := [x]) rowCall encCall rfl (.tmp 49) (.tmp 54) rfl w1.heap.size rfl ((hmd.out).alloc _) rfl rfl (rd_at encCall _ x #[.int .i64 x.client, .int .i64 x.number, .int .i64 x.op.kind, .int .i64 x.op.slot, .string x.op.value, .int .i64 x.beg, .int .i64 x.fin, .int .i64 x.res.code, .int .i64 x.res.slot, .string x.res.value] rfl 45 (by simp) (Nat.lt_succ_self _)) (by have := HOL.out; simp only [List.length_singleton]; omega) (by have := HOL.out; unfold maxLen; simp only [List.length_singleton]; omega) (by simp; omega) ?_); intro v7 w7 hm7 hg7 hat7; have HM7 := Lib.hid hm7; have hg7b := Below.grown (hbr.out.alloc (by first | omega | (simp; omega)) _) hg7 (by simp; omega) (fun q e => (hz q e).1); have HG7 := Lib.hid hg7b; obtain ⟨A7, c7, rfl, hc7⟩ := hm7.form; clear hm7 hg7 hat7 hc7 hg7b)
              go_roundw
              case rel => exact ⟨k + 1, out ++ [x], A7, c7, by omega, by go_num, by rw [List.length_append]; rfl, hnx.out, HM7.out, HG7.out⟩
              case measure => simp [intOf]; omega
            · have hs2 : decide (x.op.slot = s) = false := decide_eq_false hs
              have hs3 : (x.op.slot == s) = false := by simpa using hs
              clear hs
              have hnx : Hid (out = slotL (l.take (k + 1)) s) := by
                show _ = _
                rw [HCS.out, if_neg (by simp [isPlain, k12, k32, hs2]), List.append_nil]; exact ho.out
              clear HCS
              go_wp2_with fail
              go_roundw
              case rel => exact ⟨k + 1, out, A5, c5, by omega, by go_num, rfl, hnx.out, hmd.out, hbr.out⟩
              case measure => simp [intOf]; omega
          · have k32 : decide (x.op.kind = 3) = false := decide_eq_false k3
            have k33 : (x.op.kind == 3) = false := by simpa using k3
            clear k1 k3
            have hnx : Hid (out = slotL (l.take (k + 1)) s) := by
              show _ = _
              rw [HCS.out, if_neg (by simp [isPlain, k12, k32]), List.append_nil]; exact ho.out
            clear HCS
            go_wp2_with fail
            go_roundw
            case rel => exact ⟨k + 1, out, A5, c5, by omega, by go_num, rfl, hnx.out, hmd.out, hbr.out⟩
            case measure => simp [intOf]; omega
      · have g2 : decide ((k:Int) < (l.length : Int)) = false := decide_eq_false (by omega)
        have g3 : decide (k < l.length) = false := decide_eq_false h1
        have hfin : Hid (out = slotL l s) := by show _ = _; rw [ho.out, List.take_of_length_le (by omega)]
        go_wp2_with fail
        rw [HT0.out]
        obtain rfl := hfin.out
        refine ⟨A5, c5, ?_, ?_, HB1.out.trans (hbr.out.mono HB1.out.size)⟩
        · rw [HAN.out]; rfl
        · rw [HAN.out]; exact hmd.out.base' HB1.out.size
  · have HAN : Hid (slotAns s l = ([], 180)) := by show _ = _; unfold slotAns; rw [hck, if_pos (by decide)]
    rw [hck]
    clear hck
    dsimp only
    go_wp2_with fail
    rw [HT0.out]
    refine ⟨none, 0, ?_, ?_, HB1.out⟩
    · rw [HAN.out]; rfl
    · rw [HAN.out]; exact Made.nil _ _ _

end Go.Proofs.Ytmfidhlhcochoaa
