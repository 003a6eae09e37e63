/- linear.cut, the reference's Cut and upTo: they answer cutL. Conditions: Go lengths. -/
import Derived.Test.YtmfidhlhcochoaaRefCheck18
import Derived.Test.YtmfidhlhcochoaaLocal18
namespace Go.Proofs.Ytmfidhlhcochoaa
open Go.RowKit
set_option linter.unusedVariables false
set_option linter.unusedSimpArgs false

theorem cutL_snoc {l : List Call} (t : Int) {k : Nat} (h : k < l.length) : cutL t (l.take (k + 1)) = cutL t (l.take k) ++ (if l[k].beg < t then [truncC t l[k]] else []) := by
  rw [List.take_succ_eq_append_getElem h]
  unfold cutL
  rw [List.filter_append, List.map_append]
  congr 1
  by_cases hb : l[k].beg < t
  · simp [hb]
  · simp [hb]
theorem cutL_len (t : Int) (l : List Call) : (cutL t l).length ≤ l.length := by
  unfold cutL
  rw [List.length_map]
  exact List.length_filter_le _ _

set_option maxRecDepth 100000 in
set_option maxHeartbeats 4000000 in
theorem cut_prog (A : Option Addr) (c n : Nat) (l : List Call) (hn : n = l.length) (t : Int) (w : World) (hl : (l.length + 1) * 96 ≤ 140737488355328) (ha : Rd Call.cells 10 w w.heap.size A l) :
    Calls Try.prog 51 #[.slice A n c, .int .i64 t] w fun e w' => ∃ A' c', e = .returned (.slice A' (cutL t l).length c') ∧ Made Call.cells 10 45 w.heap.size w' (.slice A' (cutL t l).length c') (cutL t l) ∧ Below w.heap.size w w' := by
  subst hn
  have HA := Lib.hid ha
  clear ha
  go_enter Try.func51, Try.ntmps51
  go_wp2_with fail
  go_loopw [10, 5] (fun i v wr => ∃ k : Nat, ∃ out A5 c5, k ≤ l.length ∧ i = .int .i64 k ∧ v = .slice A5 out.length c5 ∧ Hid (out = cutL t (l.take k)) ∧ Hid (Made Call.cells 10 45 w.heap.size wr (.slice A5 out.length c5) out) ∧ Hid (Below w.heap.size w wr)) (fun i _ _ => l.length - (intOf i).toNat)
  case atStart => exact ⟨0, [], none, 0, by omega, rfl, rfl, rfl, Made.nil _ _ _, Below.refl _ _⟩
  case round =>
    obtain ⟨k, out, A5, c5, hk, rfl, rfl, ho, hmd, hbr⟩ := hrel
    have hzb : w.heap.size ≤ wr.heap.size := hbr.out.size
    have hz := hmd.out.lt
    by_cases h1 : k < l.length
    · obtain ⟨ad, hA, hal, hca⟩ := (HA.out.below hbr.out).at_ h1
      have g1 : (k:Int) < (l.length : Int) := by omega
      have i1 : (0:Int) ≤ (k:Int) := by omega
      have HCS := Lib.hid (cutL_snoc t h1)
      have HOL : Hid (out.length ≤ k) := by show _ ≤ _; rw [ho.out]; exact Nat.le_trans (cutL_len _ _) (by rw [List.length_take]; omega)
      obtain ⟨c0, c1, c2, c3, c4, c5', c6, c7, c8, c9⟩ := hca.call
      cases hA
      clear hca
      generalize l[k] = x at *
      by_cases hb : x.beg < t
      · have hb2 : decide (t ≤ x.beg) = false := decide_eq_false (by omega)
        by_cases hf : t ≤ x.fin
        · have hf2 : decide (t ≤ x.fin) = true := decide_eq_true (by omega)
          have hnx : Hid (out ++ [(⟨x.client, x.number, x.op, x.beg, -1, zres⟩ : Call)] = cutL t (l.take (k + 1))) := by
            show _ = _
            rw [HCS.out, if_pos hb, ho.out]
            unfold truncC
            rw [if_pos hf]
          clear HCS hb hf
          go_wp2_with (at_builtin; go_loud (refine wpList_app (v := .slice A5 out.length c5) (xs := out) (ys := [(⟨x.client, x.number, x.op, x.beg, -1, zres⟩ : Call)]) rowCall encCall rfl (.tmp 25) (.tmp 27) rfl w.heap.size rfl ((hmd.out.alloc _).alloc _) rfl rfl (rd_at encCall _ (⟨x.client, x.number, x.op, x.beg, -1, zres⟩) #[.int .i64 x.client, .int .i64 x.number, .int .i64 x.op.kind, .int .i64 x.op.slot, .string x.op.value, .int .i64 x.beg, .int .i64 (-1), .int .i64 0, .int .i64 0, .string ⟨#[]⟩] rfl 45 (by simp [World.setCell]) (Nat.lt_succ_self _)) (by have := HOL.out; simp only [List.length_singleton]; omega) (by have := HOL.out; unfold maxLen; simp only [List.length_singleton]; omega) (by simp; omega) ?_); intro v7 w7 hm7 hg7 hat7; have HM7 := Lib.hid hm7; go_loud (have hg7b := Below.grown ((hbr.out.alloc hzb _).alloc (by simp; omega) _) hg7 (by simp; have h55 := hzb; omega) (fun q e => (hz q e).1)); have HG7 := Lib.hid hg7b; obtain ⟨A7, c7, rfl, hc7⟩ := hm7.form; clear hm7 hg7 hat7 hc7 hg7b)
          go_roundw
          case rel => exact ⟨k + 1, out ++ [(⟨x.client, x.number, x.op, x.beg, -1, zres⟩ : Call)], A7, c7, by omega, by go_num, by rw [List.length_append]; rfl, hnx.out, HM7.out, HG7.out⟩
          case measure => simp [intOf]; omega
        · have hf2 : decide (t ≤ x.fin) = false := decide_eq_false (by omega)
          have hnx : Hid (out ++ [x] = cutL t (l.take (k + 1))) := by
            show _ = _
            rw [HCS.out, if_pos hb, ho.out]
            unfold truncC
            rw [if_neg hf]
          clear HCS hb hf
          go_wp2_with (at_builtin; go_loud (refine wpList_app (v := .slice A5 out.length c5) (xs := out) (ys := [x]) rowCall encCall rfl (.tmp 25) (.tmp 27) rfl w.heap.size rfl ((hmd.out.alloc _).alloc _) rfl rfl (rd_at encCall _ (x) #[.int .i64 x.client, .int .i64 x.number, .int .i64 x.op.kind, .int .i64 x.op.slot, .string x.op.value, .int .i64 x.beg, .int .i64 x.fin, .int .i64 x.res.code, .int .i64 x.res.slot, .string x.res.value] rfl 45 (by simp [World.setCell]) (Nat.lt_succ_self _)) (by have := HOL.out; simp only [List.length_singleton]; omega) (by have := HOL.out; unfold maxLen; simp only [List.length_singleton]; omega) (by simp; omega) ?_); intro v7 w7 hm7 hg7 hat7; have HM7 := Lib.hid hm7; go_loud (have hg7b := Below.grown ((hbr.out.alloc hzb _).alloc (by simp; omega) _) hg7 (by simp; have h55 := hzb; omega) (fun q e => (hz q e).1)); have HG7 := Lib.hid hg7b; obtain ⟨A7, c7, rfl, hc7⟩ := hm7.form; clear hm7 hg7 hat7 hc7 hg7b)
          go_roundw
          case rel => exact ⟨k + 1, out ++ [x], A7, c7, by omega, by go_num, by rw [List.length_append]; rfl, hnx.out, HM7.out, HG7.out⟩
          case measure => simp [intOf]; omega
      · have hb2 : decide (t ≤ x.beg) = true := decide_eq_true (by omega)
        have hnx : Hid (out = cutL t (l.take (k + 1))) := by
          show _ = _
          rw [HCS.out, if_neg hb, List.append_nil]; exact ho.out
        clear HCS hb
        go_wp2_with fail
        go_roundw
        case rel => exact ⟨k + 1, out, A5, c5, by omega, by go_num, rfl, hnx.out, hmd.out.alloc _, hbr.out.alloc hzb _⟩
        case measure => simp [intOf]; omega
    · have g2 : decide ((k:Int) < (l.length : Int)) = false := decide_eq_false (by omega)
      have g3 : decide (k < l.length) = false := decide_eq_false h1
      have hfin : Hid (out = cutL t l) := by show _ = _; rw [ho.out, List.take_of_length_le (by omega)]
      go_wp2_with fail
      go_ret
      obtain rfl := hfin.out
      exact ⟨A5, c5, rfl, hmd.out, hbr.out⟩

set_option maxRecDepth 100000 in
set_option maxHeartbeats 4000000 in
theorem upTo_ref (A : Option Addr) (c n : Nat) (l : List Call) (hn : n = l.length) (row : Int) (w : World) (hl : (l.length + 1) * 96 ≤ 140737488355328) (ha : Rd Call.cells 10 w w.heap.size A l) :
    Calls Try.prog 74 #[.slice A n c, .int .i64 row] w fun e w' => ∃ A' c', e = .returned (.slice A' (cutL (row + 1) l).length c') ∧ Made Call.cells 10 45 w.heap.size w' (.slice A' (cutL (row + 1) l).length c') (cutL (row + 1) l) ∧ Below w.heap.size w w' := by
  subst hn
  have HA := Lib.hid ha
  clear ha
  go_enter Try.func74, Try.ntmps74
  go_wp2_with fail
  go_loopw [6, 5] (fun i v wr => ∃ k : Nat, ∃ out A5 c5, k ≤ l.length ∧ i = .int .i64 k ∧ v = .slice A5 out.length c5 ∧ Hid (out = cutL (row + 1) (l.take k)) ∧ Hid (Made Call.cells 10 45 w.heap.size wr (.slice A5 out.length c5) out) ∧ Hid (Below w.heap.size w wr)) (fun i _ _ => l.length - (intOf i).toNat)
  case atStart => exact ⟨0, [], none, 0, by omega, rfl, rfl, rfl, Made.nil _ _ _, Below.refl _ _⟩
  case round =>
    obtain ⟨k, out, A5, c5, hk, rfl, rfl, ho, hmd, hbr⟩ := hrel
    have hzb : w.heap.size ≤ wr.heap.size := hbr.out.size
    have hz := hmd.out.lt
    by_cases h1 : k < l.length
    · obtain ⟨ad, hA, hal, hca⟩ := (HA.out.below hbr.out).at_ h1
      have g1 : (k:Int) < (l.length : Int) := by omega
      have i1 : (0:Int) ≤ (k:Int) := by omega
      have HCS := Lib.hid (cutL_snoc (row + 1) h1)
      have HOL : Hid (out.length ≤ k) := by show _ ≤ _; rw [ho.out]; exact Nat.le_trans (cutL_len _ _) (by rw [List.length_take]; omega)
      obtain ⟨c0, c1, c2, c3, c4, c5', c6, c7, c8, c9⟩ := hca.call
      cases hA
      clear hca
      generalize l[k] = x at *
      by_cases hb : x.beg < (row + 1)
      · have hb2 : decide (row < x.beg) = false := decide_eq_false (by omega)
        by_cases hf : (row + 1) ≤ x.fin
        · have hf2 : decide (row < x.fin) = true := decide_eq_true (by omega)
          have hnx : Hid (out ++ [(⟨x.client, x.number, x.op, x.beg, -1, zres⟩ : Call)] = cutL (row + 1) (l.take (k + 1))) := by
            show _ = _
            rw [HCS.out, if_pos hb, ho.out]
            unfold truncC
            rw [if_pos hf]
          clear HCS hb hf
          go_wp2_with (at_builtin; go_loud (refine wpList_app (v := .slice A5 out.length c5) (xs := out) (ys := [(⟨x.client, x.number, x.op, x.beg, -1, zres⟩ : Call)]) rowCall encCall rfl (.tmp 29) (.tmp 31) rfl w.heap.size rfl ((hmd.out.alloc _).alloc _) rfl rfl (rd_at encCall _ (⟨x.client, x.number, x.op, x.beg, -1, zres⟩) #[.int .i64 x.client, .int .i64 x.number, .int .i64 x.op.kind, .int .i64 x.op.slot, .string x.op.value, .int .i64 x.beg, .int .i64 (-1), .int .i64 0, .int .i64 0, .string ⟨#[]⟩] rfl 45 (by simp [World.setCell]) (Nat.lt_succ_self _)) (by have := HOL.out; simp only [List.length_singleton]; omega) (by have := HOL.out; unfold maxLen; simp only [List.length_singleton]; omega) (by simp; omega) ?_); intro v7 w7 hm7 hg7 hat7; have HM7 := Lib.hid hm7; go_loud (have hg7b := Below.grown ((hbr.out.alloc hzb _).alloc (by simp; omega) _) hg7 (by simp; have h55 := hzb; omega) (fun q e => (hz q e).1)); have HG7 := Lib.hid hg7b; obtain ⟨A7, c7, rfl, hc7⟩ := hm7.form; clear hm7 hg7 hat7 hc7 hg7b)
          go_roundw
          case rel => exact ⟨k + 1, out ++ [(⟨x.client, x.number, x.op, x.beg, -1, zres⟩ : Call)], A7, c7, by omega, by go_num, by rw [List.length_append]; rfl, hnx.out, HM7.out, HG7.out⟩
          case measure => simp [intOf]; omega
        · have hf2 : decide (row < x.fin) = false := decide_eq_false (by omega)
          have hnx : Hid (out ++ [x] = cutL (row + 1) (l.take (k + 1))) := by
            show _ = _
            rw [HCS.out, if_pos hb, ho.out]
            unfold truncC
            rw [if_neg hf]
          clear HCS hb hf
          go_wp2_with (at_builtin; go_loud (refine wpList_app (v := .slice A5 out.length c5) (xs := out) (ys := [x]) rowCall encCall rfl (.tmp 29) (.tmp 31) rfl w.heap.size rfl ((hmd.out.alloc _).alloc _) rfl rfl (rd_at encCall _ (x) #[.int .i64 x.client, .int .i64 x.number, .int .i64 x.op.kind, .int .i64 x.op.slot, .string x.op.value, .int .i64 x.beg, .int .i64 x.fin, .int .i64 x.res.code, .int .i64 x.res.slot, .string x.res.value] rfl 45 (by simp [World.setCell]) (Nat.lt_succ_self _)) (by have := HOL.out; simp only [List.length_singleton]; omega) (by have := HOL.out; unfold maxLen; simp only [List.length_singleton]; omega) (by simp; omega) ?_); intro v7 w7 hm7 hg7 hat7; have HM7 := Lib.hid hm7; go_loud (have hg7b := Below.grown ((hbr.out.alloc hzb _).alloc (by simp; omega) _) hg7 (by simp; have h55 := hzb; omega) (fun q e => (hz q e).1)); have HG7 := Lib.hid hg7b; obtain ⟨A7, c7, rfl, hc7⟩ := hm7.form; clear hm7 hg7 hat7 hc7 hg7b)
          go_roundw
          case rel => exact ⟨k + 1, out ++ [x], A7, c7, by omega, by go_num, by rw [List.length_append]; rfl, hnx.out, HM7.out, HG7.out⟩
          case measure => simp [intOf]; omega
      · have hb2 : decide (row < x.beg) = true := decide_eq_true (by omega)
        have hnx : Hid (out = cutL (row + 1) (l.take (k + 1))) := by
          show _ = _
          rw [HCS.out, if_neg hb, List.append_nil]; exact ho.out
        clear HCS hb
        go_wp2_with fail
        go_roundw
        case rel => exact ⟨k + 1, out, A5, c5, by omega, by go_num, rfl, hnx.out, hmd.out.alloc _, hbr.out.alloc hzb _⟩
        case measure => simp [intOf]; omega
    · have g2 : decide ((k:Int) < (l.length : Int)) = false := decide_eq_false (by omega)
      have g3 : decide (k < l.length) = false := decide_eq_false h1
      have hfin : Hid (out = cutL (row + 1) l) := by show _ = _; rw [ho.out, List.take_of_length_le (by omega)]
      go_wp2_with fail
      go_ret
      obtain rfl := hfin.out
      exact ⟨A5, c5, rfl, hmd.out, hbr.out⟩

/-- What Cut answers. -/
def cutAns (t : Int) (l : List Call) : List Call × Int := if checkL l ≠ 0 then ([], checkL l) else if t < 0 then ([], 3) else (cutL t l, 0)
def CutPost (t : Int) (l : List Call) (w : World) (e : Ending) (w' : World) : Prop :=
  ∃ A' c', e = .returned (.tuple #[.slice A' (cutAns t l).1.length c', .int .i64 (cutAns t l).2]) ∧ Made Call.cells 10 45 w.heap.size w' (.slice A' (cutAns t l).1.length c') (cutAns t l).1 ∧ Below w.heap.size w w'
theorem checkL_two (l : List Call) : checkL l = 0 ∨ checkL l = 180 := by unfold checkL; split; exact .inl rfl; exact .inr rfl

set_option maxRecDepth 100000 in
set_option maxHeartbeats 4000000 in
theorem cut_all_prog (A : Option Addr) (c n : Nat) (l : List Call) (hn : n = l.length) (t : Int) (w : World) (hl : (l.length + 1) * 96 ≤ 140737488355328) (hv : ∀ x ∈ l, x.op.value.size ≤ 9223372036854775807) (ha : Rd Call.cells 10 w w.heap.size A l) :
    Calls Try.prog 22 #[.slice A n c, .int .i64 t] w (CutPost t l w) := by
  subst hn
  obtain ⟨T0, hT0⟩ : ∃ T0 : Ending → World → Prop, T0 = CutPost t l w := ⟨_, rfl⟩
  rw [← hT0]
  have HT0 := Lib.hid hT0
  have HA := Lib.hid ha
  have HV := Lib.hid hv
  clear ha hv hT0
  go_enter Try.func22, Try.ntmps22
  go_wp2_with fail
  refine (linCheck A c l.length l rfl w (by omega) HV.out HA.out).mono ?_
  rintro e w1 ⟨rfl, hb1⟩
  have HB1 := Lib.hid hb1
  have hr1 := (HA.out.below hb1).more hb1.size
  have HR1 := Lib.hid hr1
  clear hb1 hr1
  rcases checkL_two l with hck | hck
  · have HC := Lib.hid hck
    rw [hck]
    clear hck
    by_cases ht : t < 0
    · have ht2 : decide (t < 0) = true := decide_eq_true ht
      have HAN : Hid (cutAns t l = ([], 3)) := by show _ = _; unfold cutAns; rw [if_neg (by rw [HC.out]; decide), if_pos ht]
      clear ht
      dsimp only
      go_wp2_with fail
      rw [HT0.out]
      refine ⟨none, 0, ?_, ?_, HB1.out⟩
      · rw [HAN.out]; rfl
      · rw [HAN.out]; exact Made.nil _ _ _
    · have ht2 : decide (t < 0) = false := decide_eq_false ht
      have HAN : Hid (cutAns t l = (cutL t l, 0)) := by show _ = _; unfold cutAns; rw [if_neg (by rw [HC.out]; decide), if_neg ht]
      clear ht
      dsimp only
      go_wp2_with fail
      refine (cut_prog A c l.length l rfl t w1 hl HR1.out).mono ?_
      rintro e w2 ⟨A2, c2, rfl, hm2, hb2⟩
      have HM2 := Lib.hid (hm2.base' HB1.out.size)
      have HB2 := Lib.hid (HB1.out.trans (hb2.mono HB1.out.size))
      clear hm2 hb2
      dsimp only
      go_wp2_with fail
      rw [HT0.out]
      refine ⟨A2, c2, ?_, ?_, HB2.out⟩
      · rw [HAN.out]; rfl
      · rw [HAN.out]; exact HM2.out
  · have HAN : Hid (cutAns t l = ([], 180)) := by show _ = _; unfold cutAns; rw [hck, if_pos (by decide)]
    rw [hck]
    clear hck
    dsimp only
    go_wp2_with fail
    rw [HT0.out]
    refine ⟨none, 0, ?_, ?_, HB1.out⟩
    · rw [HAN.out]; rfl
    · rw [HAN.out]; exact Made.nil _ _ _

set_option maxRecDepth 100000 in
set_option maxHeartbeats 4000000 in
theorem cut_ref (A : Option Addr) (c n : Nat) (l : List Call) (hn : n = l.length) (t : Int) (w : World) (hl : (l.length + 1) * 96 ≤ 140737488355328) (hv : ∀ x ∈ l, x.op.value.size ≤ 9223372036854775807) (ha : Rd Call.cells 10 w w.heap.size A l) :
    Calls Try.prog 37 #[.slice A n c, .int .i64 t] w (CutPost t l w) := by
  subst hn
  obtain ⟨T0, hT0⟩ : ∃ T0 : Ending → World → Prop, T0 = CutPost t l w := ⟨_, rfl⟩
  rw [← hT0]
  have HT0 := Lib.hid hT0
  have HA := Lib.hid ha
  have HV := Lib.hid hv
  clear ha hv hT0
  go_enter Try.func37, Try.ntmps37
  go_wp2_with fail
  refine (refCheck A c l.length l rfl w (by omega) HV.out HA.out).mono ?_
  rintro e w1 ⟨rfl, hb1⟩
  have HB1 := Lib.hid hb1
  have hr1 := (HA.out.below hb1).more hb1.size
  have HR1 := Lib.hid hr1
  clear hb1 hr1
  rcases checkL_two l with hck | hck
  · have HC := Lib.hid hck
    rw [hck]
    clear hck
    by_cases ht : t < 0
    · have ht2 : decide (t < 0) = true := decide_eq_true ht
      have HAN : Hid (cutAns t l = ([], 3)) := by show _ = _; unfold cutAns; rw [if_neg (by rw [HC.out]; decide), if_pos ht]
      clear ht
      dsimp only
      go_wp2_with fail
      rw [HT0.out]
      refine ⟨none, 0, ?_, ?_, HB1.out⟩
      · rw [HAN.out]; rfl
      · rw [HAN.out]; exact Made.nil _ _ _
    · have ht2 : decide (t < 0) = false := decide_eq_false ht
      have HAN : Hid (cutAns t l = (cutL t l, 0)) := by show _ = _; unfold cutAns; rw [if_neg (by rw [HC.out]; decide), if_neg ht]
      clear ht
      dsimp only
      go_wp2_with fail
      go_loopw [7, 6] (fun i v wr => ∃ k : Nat, ∃ out A5 c5, k ≤ l.length ∧ i = .int .i64 k ∧ v = .slice A5 out.length c5 ∧ Hid (out = cutL t (l.take k)) ∧ Hid (Made Call.cells 10 45 w1.heap.size wr (.slice A5 out.length c5) out) ∧ Hid (Below w1.heap.size w1 wr)) (fun i _ _ => l.length - (intOf i).toNat)
      case atStart => exact ⟨0, [], none, 0, by omega, rfl, rfl, rfl, Made.nil _ _ _, Below.refl _ _⟩
      case round =>
        obtain ⟨k, out, A5, c5, hk, rfl, rfl, ho, hmd, hbr⟩ := hrel
        have hzb : w1.heap.size ≤ wr.heap.size := hbr.out.size
        have hz := hmd.out.lt
        by_cases h1 : k < l.length
        · obtain ⟨ad, hA, hal, hca⟩ := (HR1.out.below hbr.out).at_ h1
          have g1 : (k:Int) < (l.length : Int) := by omega
          have i1 : (0:Int) ≤ (k:Int) := by omega
          have HCS := Lib.hid (cutL_snoc t h1)
          have HOL : Hid (out.length ≤ k) := by show _ ≤ _; rw [ho.out]; exact Nat.le_trans (cutL_len _ _) (by rw [List.length_take]; omega)
          obtain ⟨c0, c1, c2, c3, c4, c5', c6, c7, c8, c9⟩ := hca.call
          cases hA
          clear hca
          generalize l[k] = x at *
          by_cases hb : x.beg < t
          · have hb2 : decide (t ≤ x.beg) = false := decide_eq_false (by omega)
            by_cases hf : t ≤ x.fin
            · have hf2 : decide (t ≤ x.fin) = true := decide_eq_true (by omega)
              have hnx : Hid (out ++ [(⟨x.client, x.number, x.op, x.beg, -1, zres⟩ : Call)] = cutL t (l.take (k + 1))) := by
                show _ = _
                rw [HCS.out, if_pos hb, ho.out]
                unfold truncC
                rw [if_pos hf]
              clear HCS hb hf
              go_wp2_with (at_builtin; go_loud (refine wpList_app (v := .slice A5 out.length c5) (xs := out) (ys := [(⟨x.client, x.number, x.op, x.beg, -1, zres⟩ : Call)]) rowCall encCall rfl (.tmp 35) (.tmp 37) rfl w1.heap.size rfl ((hmd.out.alloc _).alloc _) rfl rfl (rd_at encCall _ (⟨x.client, x.number, x.op, x.beg, -1, zres⟩) #[.int .i64 x.client, .int .i64 x.number, .int .i64 x.op.kind, .int .i64 x.op.slot, .string x.op.value, .int .i64 x.beg, .int .i64 (-1), .int .i64 0, .int .i64 0, .string ⟨#[]⟩] rfl 45 (by simp [World.setCell]) (Nat.lt_succ_self _)) (by have := HOL.out; simp only [List.length_singleton]; omega) (by have := HOL.out; unfold maxLen; simp only [List.length_singleton]; omega) (by simp; omega) ?_); intro v7 w7 hm7 hg7 hat7; have HM7 := Lib.hid hm7; go_loud (have hg7b := Below.grown ((hbr.out.alloc hzb _).alloc (by simp; omega) _) hg7 (by simp; have h55 := hzb; omega) (fun q e => (hz q e).1)); have HG7 := Lib.hid hg7b; obtain ⟨A7, c7, rfl, hc7⟩ := hm7.form; clear hm7 hg7 hat7 hc7 hg7b)
              go_roundw
              case rel => exact ⟨k + 1, out ++ [(⟨x.client, x.number, x.op, x.beg, -1, zres⟩ : Call)], A7, c7, by omega, by go_num, by rw [List.length_append]; rfl, hnx.out, HM7.out, HG7.out⟩
              case measure => simp [intOf]; omega
            · have hf2 : decide (t ≤ x.fin) = false := decide_eq_false (by omega)
              have hnx : Hid (out ++ [x] = cutL t (l.take (k + 1))) := by
                show _ = _
                rw [HCS.out, if_pos hb, ho.out]
                unfold truncC
                rw [if_neg hf]
              clear HCS hb hf
              go_wp2_with (at_builtin; go_loud (refine wpList_app (v := .slice A5 out.length c5) (xs := out) (ys := [x]) rowCall encCall rfl (.tmp 35) (.tmp 37) rfl w1.heap.size rfl ((hmd.out.alloc _).alloc _) rfl rfl (rd_at encCall _ (x) #[.int .i64 x.client, .int .i64 x.number, .int .i64 x.op.kind, .int .i64 x.op.slot, .string x.op.value, .int .i64 x.beg, .int .i64 x.fin, .int .i64 x.res.code, .int .i64 x.res.slot, .string x.res.value] rfl 45 (by simp [World.setCell]) (Nat.lt_succ_self _)) (by have := HOL.out; simp only [List.length_singleton]; omega) (by have := HOL.out; unfold maxLen; simp only [List.length_singleton]; omega) (by simp; omega) ?_); intro v7 w7 hm7 hg7 hat7; have HM7 := Lib.hid hm7; go_loud (have hg7b := Below.grown ((hbr.out.alloc hzb _).alloc (by simp; omega) _) hg7 (by simp; have h55 := hzb; omega) (fun q e => (hz q e).1)); have HG7 := Lib.hid hg7b; obtain ⟨A7, c7, rfl, hc7⟩ := hm7.form; clear hm7 hg7 hat7 hc7 hg7b)
              go_roundw
              case rel => exact ⟨k + 1, out ++ [x], A7, c7, by omega, by go_num, by rw [List.length_append]; rfl, hnx.out, HM7.out, HG7.out⟩
              case measure => simp [intOf]; omega
          · have hb2 : decide (t ≤ x.beg) = true := decide_eq_true (by omega)
            have hnx : Hid (out = cutL t (l.take (k + 1))) := by
              show _ = _
              rw [HCS.out, if_neg hb, List.append_nil]; exact ho.out
            clear HCS hb
            go_wp2_with fail
            go_roundw
            case rel => exact ⟨k + 1, out, A5, c5, by omega, by go_num, rfl, hnx.out, hmd.out.alloc _, hbr.out.alloc hzb _⟩
            case measure => simp [intOf]; omega
        · have g2 : decide ((k:Int) < (l.length : Int)) = false := decide_eq_false (by omega)
          have g3 : decide (k < l.length) = false := decide_eq_false h1
          have hfin : Hid (out = cutL t l) := by show _ = _; rw [ho.out, List.take_of_length_le (by omega)]
          go_wp2_with fail
          rw [HT0.out]
          obtain rfl := hfin.out
          refine ⟨A5, c5, ?_, ?_, HB1.out.trans (hbr.out.mono HB1.out.size)⟩
          · rw [HAN.out]; rfl
          · rw [HAN.out]; exact hmd.out.base' HB1.out.size
  · have HAN : Hid (cutAns t l = ([], 180)) := by show _ = _; unfold cutAns; rw [hck, if_pos (by decide)]
    rw [hck]
    clear hck
    dsimp only
    go_wp2_with fail
    rw [HT0.out]
    refine ⟨none, 0, ?_, ?_, HB1.out⟩
    · rw [HAN.out]; rfl
    · rw [HAN.out]; exact Made.nil _ _ _

end Go.Proofs.Ytmfidhlhcochoaa
