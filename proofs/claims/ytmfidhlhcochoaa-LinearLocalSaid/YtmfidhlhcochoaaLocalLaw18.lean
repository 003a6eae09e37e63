/- LinearLocal answers true. Conditions: sizes within the form's own reach. -/
import Derived.Test.YtmfidhlhcochoaaSlot18
import Derived.Test.YtmfidhlhcochoaaWorst18
import Derived.Test.YtmfidhlhcochoaaChecks18
import Derived.Test.YtmfidhlhcochoaaWorks18
namespace Go.Proofs.Ytmfidhlhcochoaa
open Go.RowKit
set_option linter.unusedVariables false
set_option linter.unusedSimpArgs false

def PlainPost (l : List Call) (w : World) (e : Ending) (w' : World) : Prop :=
  ∃ out A' c', e = .returned (.slice A' out.length c') ∧ Made Call.cells 10 45 w.heap.size w' (.slice A' out.length c') out ∧ Below w.heap.size w w' ∧ out.length ≤ 8 ∧ (∀ x ∈ out, x ∈ l ∧ isPlain x = true)
set_option maxRecDepth 100000 in
set_option maxHeartbeats 4000000 in
theorem plainOps_prog (A : Option Addr) (c n : Nat) (l : List Call) (hn : n = l.length) (w : World) (hl : (l.length + 1) * 96 ≤ 140737488355328) (ha : Rd Call.cells 10 w w.heap.size A l) :
    Calls Try.prog 19 #[.slice A n c] w (PlainPost l w) := by
  subst hn
  obtain ⟨T0, hT0⟩ : ∃ T0 : Ending → World → Prop, T0 = PlainPost l w := ⟨_, rfl⟩
  rw [← hT0]
  have HT0 := Lib.hid hT0
  have HA := Lib.hid ha
  clear ha hT0
  go_enter Try.func19, Try.ntmps19
  go_wp2_with fail
  go_loopw [4, 3] (fun i v wr => ∃ k : Nat, ∃ out A5 c5, k ≤ l.length ∧ i = .int .i64 k ∧ v = .slice A5 out.length c5 ∧ Hid (out.length ≤ 8) ∧ Hid (∀ x ∈ out, x ∈ l ∧ isPlain x = true) ∧ Hid (Made Call.cells 10 45 w.heap.size wr (.slice A5 out.length c5) out) ∧ Hid (Below w.heap.size w wr)) (fun i _ _ => l.length - (intOf i).toNat)
  case atStart => exact ⟨0, [], none, 0, by omega, rfl, rfl, Nat.zero_le _, fun x h => by simp at h, Made.nil _ _ _, Below.refl _ _⟩
  case round =>
    obtain ⟨k, out, A5, c5, hk, rfl, rfl, ho8, hin, hmd, hbr⟩ := hrel
    have hzb : w.heap.size ≤ wr.heap.size := hbr.out.size
    have hz := hmd.out.lt
    by_cases h1 : k < l.length
    · have g1 : (k:Int) < (l.length : Int) := by omega
      have i1 : (0:Int) ≤ (k:Int) := by omega
      by_cases h8 : out.length < 8
      · have g8 : decide ((out.length : Int) < 8) = true := decide_eq_true (by omega)
        have g8n : decide (out.length < 8) = true := decide_eq_true h8
        obtain ⟨ad, hA, hal, hca⟩ := (HA.out.below hbr.out).at_ h1
        have HXL : Hid (l[k] ∈ l) := List.getElem_mem h1
        obtain ⟨c0, c1, c2, c3, c4, c5', c6, c7, c8, c9⟩ := hca.call
        subst hA
        clear hca
        generalize l[k] = x at *
        by_cases hp : isPlain x = true
        · have hin2 : Hid (∀ y ∈ out ++ [x], y ∈ l ∧ isPlain y = true) := fun y hy => by
            rcases List.mem_append.1 hy with h | h
            · exact hin.out y h
            · simp only [List.mem_singleton] at h; subst h; exact ⟨HXL.out, hp⟩
          have hkk : x.op.kind = 1 ∨ x.op.kind = 3 := by unfold isPlain at hp; simpa using hp
          clear hp
          rcases hkk with k1 | k3
          · have k12 : decide (x.op.kind = 1) = true := decide_eq_true k1
            have k13 : (x.op.kind == 1) = true := by simpa using k1
            clear k1
            go_wp2_with (at_builtin; go_loud (refine wpList_app (v := .slice A5 out.length c5) (xs := out) (ys := [x]) rowCall encCall rfl (.tmp 32) (.tmp 37) rfl w.heap.size rfl (hmd.out.alloc _) rfl rfl (rd_one encCall _ x #[.int .i64 x.client, .int .i64 x.number, .int .i64 x.op.kind, .int .i64 x.op.slot, .string x.op.value, .int .i64 x.beg, .int .i64 x.fin, .int .i64 x.res.code, .int .i64 x.res.slot, .string x.res.value] rfl 45) (by simp only [List.length_singleton]; omega) (by unfold maxLen; simp only [List.length_singleton]; omega) (by simp; omega) ?_); intro v7 w7 hm7 hg7 hat7; have HM7 := Lib.hid hm7; have hg7b := Below.grown (hbr.out.alloc hzb _) hg7 (by simp; omega) (fun q e => (hz q e).1); have HG7 := Lib.hid hg7b; obtain ⟨A7, c7, rfl, hc7⟩ := hm7.form; clear hm7 hg7 hat7 hc7 hg7b)
            go_roundw
            case rel => exact ⟨k + 1, out ++ [x], A7, c7, by omega, by go_num, by rw [List.length_append]; rfl, by show _ ≤ _; simp; omega, hin2.out, HM7.out, HG7.out⟩
            case measure => simp [intOf]; omega
          · have k12 : decide (x.op.kind = 1) = false := decide_eq_false (by omega)
            have k13 : (x.op.kind == 1) = false := by simp; omega
            have k32 : decide (x.op.kind = 3) = true := decide_eq_true k3
            have k33 : (x.op.kind == 3) = true := by simpa using k3
            clear k3
            go_wp2_with (at_builtin; go_loud (refine wpList_app (v := .slice A5 out.length c5) (xs := out) (ys := [x]) rowCall encCall rfl (.tmp 32) (.tmp 37) rfl w.heap.size rfl (hmd.out.alloc _) rfl rfl (rd_one encCall _ x #[.int .i64 x.client, .int .i64 x.number, .int .i64 x.op.kind, .int .i64 x.op.slot, .string x.op.value, .int .i64 x.beg, .int .i64 x.fin, .int .i64 x.res.code, .int .i64 x.res.slot, .string x.res.value] rfl 45) (by simp only [List.length_singleton]; omega) (by unfold maxLen; simp only [List.length_singleton]; omega) (by simp; omega) ?_); intro v7 w7 hm7 hg7 hat7; have HM7 := Lib.hid hm7; have hg7b := Below.grown (hbr.out.alloc hzb _) hg7 (by simp; omega) (fun q e => (hz q e).1); have HG7 := Lib.hid hg7b; obtain ⟨A7, c7, rfl, hc7⟩ := hm7.form; clear hm7 hg7 hat7 hc7 hg7b)
            go_roundw
            case rel => exact ⟨k + 1, out ++ [x], A7, c7, by omega, by go_num, by rw [List.length_append]; rfl, by show _ ≤ _; simp; omega, hin2.out, HM7.out, HG7.out⟩
            case measure => simp [intOf]; omega
        · have hkk : ¬ x.op.kind = 1 ∧ ¬ x.op.kind = 3 := by unfold isPlain at hp; simpa using hp
          obtain ⟨k1, k3⟩ := hkk
          have k12 : decide (x.op.kind = 1) = false := decide_eq_false k1
          have k13 : (x.op.kind == 1) = false := by simpa using k1
          have k32 : decide (x.op.kind = 3) = false := decide_eq_false k3
          have k33 : (x.op.kind == 3) = false := by simpa using k3
          clear hp k1 k3
          go_wp2_with fail
          go_roundw
          case rel => exact ⟨k + 1, out, A5, c5, by omega, by go_num, rfl, ho8.out, hin.out, hmd.out, hbr.out⟩
          case measure => simp [intOf]; omega
      · have g8 : decide ((out.length : Int) < 8) = false := decide_eq_false (by omega)
        have g8n : decide (out.length < 8) = false := decide_eq_false h8
        go_wp2_with fail
        rw [HT0.out]
        exact ⟨out, A5, c5, rfl, hmd.out, hbr.out, ho8.out, hin.out⟩
    · have g2 : decide ((k:Int) < (l.length : Int)) = false := decide_eq_false (by omega)
      have g3 : decide (k < l.length) = false := decide_eq_false h1
      go_wp2_with fail
      rw [HT0.out]
      exact ⟨out, A5, c5, rfl, hmd.out, hbr.out, ho8.out, hin.out⟩

def allSlots (l : List Call) (k : Nat) : Bool := (l.take k).all fun x => decide (best (slotL l x.op.slot) ≠ none)
theorem allSlots_succ {l : List Call} {k : Nat} (h : k < l.length) : allSlots l (k + 1) = (allSlots l k && decide (best (slotL l l[k].op.slot) ≠ none)) := by
  unfold allSlots
  rw [List.take_succ_eq_append_getElem h, List.all_append]
  simp
/-- Locality, as the law asks it. -/
theorem local_is {l : List Call} (hg : GoodL l) (hp : ∀ x ∈ l, isPlain x = true) : decide (best l ≠ none) = allSlots l l.length := by
  unfold allSlots
  rw [List.take_length, Bool.eq_iff_iff, List.all_eq_true]
  simp only [decide_eq_true_eq]
  rw [best_expl hg]
  constructor
  · intro h x hx
    exact (best_expl (hg.filter _)).2 (h.slot hg hp _)
  · intro h
    exact Expl.join hg hp fun x hx => (best_expl (hg.filter _)).1 (h x hx)

set_option maxRecDepth 100000 in
set_option maxHeartbeats 8000000 in
theorem local18_calls (A : Option Addr) (c n : Nat) (l : List Call) (hn : n = l.length) (w : World) (hl : (l.length + 1) * 96 ≤ 140737488355328) (hv : ∀ x ∈ l, x.op.value.size ≤ 9223372036854775807) (ha : Rd Call.cells 10 w w.heap.size A l) :
    Calls Try.prog 5 #[.slice A n c] w fun e w' => e = .returned (.bool true) ∧ Below w.heap.size w w' := by
  subst hn
  have HA := Lib.hid ha
  have HV := Lib.hid hv
  clear ha hv
  go_enter Try.func5, Try.ntmps5
  go_wp2_with fail
  refine (plainOps_prog A c l.length l rfl w hl HA.out).mono ?_
  rintro e w1 ⟨m, A1, c1, rfl, hm1, hb1, hm8, hmp⟩
  have HB1 := Lib.hid hb1
  have hr1 := Made.rd' encCall.len hm1
  have HR1 := Lib.hid hr1
  have HVM : Hid (∀ x ∈ m, x.op.value.size ≤ 9223372036854775807) := fun x hx => HV.out x (hmp x hx).1
  have HMP : Hid (∀ x ∈ m, isPlain x = true) := fun x hx => (hmp x hx).2
  clear hb1 hm1 hr1 hmp
  dsimp only
  go_wp2_with fail
  refine (search_prog A1 c1 m.length m rfl w1 (by omega) HVM.out HR1.out).mono ?_
  rintro e w2 ⟨v2, rfl, hm2, hb2⟩
  have HB2 := Lib.hid (HB1.out.trans (hb2.mono HB1.out.size))
  have hr2 := (HR1.out.below hb2).more hb2.size
  have HR2 := Lib.hid hr2
  clear hm2 hb2 hr2
  by_cases hz : (searchL m).2.2 = 0
  · obtain ⟨hck, _, hok⟩ := search_ok hz
    have HGD : Hid (GoodL m) := checkL_zero hck
    have HLC := Lib.hid (local_is HGD.out HMP.out)
    rw [hz, hok]
    clear hz hck hok
    obtain ⟨ok, hok⟩ : ∃ ok, ok = decide (best m ≠ none) := ⟨_, rfl⟩
    rw [← hok] at HLC ⊢
    clear hok
    dsimp only
    go_wp2_with fail
    go_loopw [7, 6] (fun i v wr => ∃ k : Nat, ∃ b, k ≤ m.length ∧ i = .int .i64 k ∧ v = .bool b ∧ Hid (b = allSlots m k) ∧ Hid (Below w2.heap.size w2 wr)) (fun i _ _ => m.length - (intOf i).toNat)
    case atStart => exact ⟨0, true, by omega, rfl, rfl, rfl, Below.refl _ _⟩
    case round =>
      obtain ⟨k, b, hk, rfl, rfl, hbv, hbr⟩ := hrel
      by_cases h1 : k < m.length
      · obtain ⟨ad, hA, hal, hca⟩ := (HR2.out.below hbr.out).at_ h1
        have g1 : (k:Int) < (m.length : Int) := by omega
        have i1 : (0:Int) ≤ (k:Int) := by omega
        have hsl := good_slot (HGD.out.good (List.getElem_mem h1)) (HMP.out _ (List.getElem_mem h1))
        have hrr := (HR2.out.below hbr.out).more hbr.out.size
        have HRR := Lib.hid hrr
        have HAS := Lib.hid (allSlots_succ h1)
        obtain ⟨c0, c1, c2, c3, c4, c5', c6, c7, c8, c9⟩ := hca.call
        cases hA
        clear hca hrr
        generalize m[k] = x at *
        have HAN : Hid (slotAns x.op.slot m = (slotL m x.op.slot, 0)) := by show _ = _; unfold slotAns; rw [if_neg (by rw [checkL_of HGD.out]; decide), if_neg (by omega)]
        clear hsl
        go_wp2_with fail
        refine (slot_prog (some ad) _ m.length m rfl x.op.slot wr (by omega) HVM.out HRR.out).mono ?_
        rintro e w3 ⟨A3, c3', rfl, hm3, hb3⟩
        rw [HAN.out] at hm3 ⊢
        dsimp only at hm3 ⊢
        have HB3 := Lib.hid (hbr.out.trans (hb3.mono hbr.out.size))
        have hr3 := Made.rd' encCall.len hm3
        have HR3 := Lib.hid hr3
        have hsl3 : (slotL m x.op.slot).length ≤ 8 := Nat.le_trans (slotL_len _ _) hm8
        have HSS := Lib.hid (search_sub (l := m) (HGD.out.filter (fun y => isPlain y && decide (y.op.slot = x.op.slot))) hsl3)
        have HVS : Hid (∀ y ∈ slotL m x.op.slot, y.op.value.size ≤ 9223372036854775807) := fun y hy => HVM.out y (mem_slot.1 hy).1
        have HSL3 := Lib.hid hsl3
        clear hm3 hb3 hr3 hsl3
        go_wp2_with fail
        refine (search_prog A3 c3' _ (slotL m x.op.slot) rfl w3 (by have := HSL3.out; omega) HVS.out HR3.out).mono ?_
        rintro e w4 ⟨v4, rfl, hm4, hb4⟩
        have HB4 := Lib.hid (HB3.out.trans (hb4.mono HB3.out.size))
        have hs1 : (searchL (slotL m x.op.slot)).2.2 = 0 := HSS.out.1
        have hs2 : (searchL (slotL m x.op.slot)).2.1 = decide (best (slotL m x.op.slot) ≠ none) := HSS.out.2
        rw [hs1, hs2]
        clear hm4 hb4 hs1 hs2
        obtain ⟨gd, hgd⟩ : ∃ gd, gd = decide (best (slotL m x.op.slot) ≠ none) := ⟨_, rfl⟩
        rw [← hgd] at HAS ⊢
        clear hgd
        have hnx : Hid ((b && gd) = allSlots m (k + 1)) := by show _ = _; rw [HAS.out, hbv.out]
        clear HAS hbv
        dsimp only
        cases b
        · cases gd
          · go_wp2_with fail
            go_roundw
            case rel => exact ⟨k + 1, false, by omega, by go_num, rfl, hnx.out, HB4.out⟩
            case measure => simp [intOf]; omega
          · go_wp2_with fail
            go_roundw
            case rel => exact ⟨k + 1, false, by omega, by go_num, rfl, hnx.out, HB4.out⟩
            case measure => simp [intOf]; omega
        · cases gd
          · go_wp2_with fail
            go_roundw
            case rel => exact ⟨k + 1, false, by omega, by go_num, rfl, hnx.out, HB4.out⟩
            case measure => simp [intOf]; omega
          · go_wp2_with fail
            go_roundw
            case rel => exact ⟨k + 1, true, by omega, by go_num, rfl, hnx.out, HB4.out⟩
            case measure => simp [intOf]; omega
      · have g2 : decide ((k:Int) < (m.length : Int)) = false := decide_eq_false (by omega)
        have g3 : decide (k < m.length) = false := decide_eq_false h1
        have hfin := hbv.out
        rw [show k = m.length by omega, ← HLC.out] at hfin
        subst hfin
        have hpe : ∀ p q : Bool, (p == q) = decide (p = q) := fun p q => by cases p <;> cases q <;> rfl
        have HB5 := Lib.hid (HB2.out.trans (hbr.out.mono HB2.out.size))
        clear hbv hbr
        go_wp2_with fail
        refine (works18 _).mono ?_
        rintro e w6 ⟨rfl, hb6⟩
        have HB6 := Lib.hid (HB5.out.trans (hb6.mono HB5.out.size))
        clear hb6
        dsimp only
        go_wp2_with fail
        go_ret
        exact ⟨rfl, HB6.out⟩
  · have hck : checkL m ≠ 0 ∧ (searchL m).2.2 = checkL m := by
      by_cases h : checkL m = 0
      · exact absurd (search_sub (l := m) (checkL_zero h) hm8).1 hz
      · exact ⟨h, by unfold searchL; rw [if_pos h]⟩
    obtain ⟨hc0, hce⟩ := hck
    rw [hce]
    have hc2 : checkL m = 180 := by rcases checkL_two m with h | h; exact absurd h hc0; exact h
    have HC2 := Lib.hid hc2
    rw [hc2]
    clear hz hc0 hce hc2
    dsimp only
    go_wp2_with fail
    refine (works18 _).mono ?_
    rintro e w6 ⟨rfl, hb6⟩
    have HB6 := Lib.hid (HB2.out.trans (hb6.mono HB2.out.size))
    have hr6 := (HR2.out.below hb6).more hb6.size
    have HR6 := Lib.hid hr6
    clear hb6 hr6
    dsimp only
    go_wp2_with fail
    refine (linCheck A1 c1 m.length m rfl w6 (by omega) HVM.out HR6.out).mono ?_
    rintro e w7 ⟨rfl, hb7⟩
    have HB7 := Lib.hid (HB6.out.trans (hb7.mono HB6.out.size))
    rw [HC2.out]
    clear hb7
    dsimp only
    go_wp2_with fail
    go_ret
    exact ⟨rfl, HB7.out⟩
theorem local18_law (W : World) (A : Option Addr) (c n : Nat) (xs : List Call) (hn : n = xs.length) (_ : n ≤ c) (hrd : Rd Call.cells 10 W W.heap.size A xs) (hwf : ∀ o ∈ xs, o.wf) (hsz : xs.length * 96 ≤ 140737488351232) :
    Calls Try.prog 5 #[.slice A n c] W fun e w' => e = .returned (.bool true) ∧ Below W.heap.size W w' :=
  local18_calls A c n xs hn W (by omega) (fun o ho => (hwf o ho).op.value) hrd
end Go.Proofs.Ytmfidhlhcochoaa
