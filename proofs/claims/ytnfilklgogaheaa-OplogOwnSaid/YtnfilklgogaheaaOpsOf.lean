/- oplog.Replay; the reference's Ops and Replay of layer 6. Conditions: sizes within Go's own limits. -/
import Derived.Test.YtnfilklgogaheaaReplay
import Derived.Test.YtnfilklgogaheaaReplayRef
import Derived.Test.YtnfilklgogaheaaOpen3
namespace Go.Proofs.Ytnfilklgogaheaa
open Go.RowKit
set_option linter.unusedVariables false
set_option linter.unusedSimpArgs false

/-- The operations of entries. -/
def opsOf (xs : List Entry) : List Op := xs.map (·.op)
theorem opsOf_length (xs : List Entry) : (opsOf xs).length = xs.length := by simp [opsOf]
theorem opsOf_take_succ {xs : List Entry} {k : Nat} (h : k < xs.length) : opsOf (xs.take (k + 1)) = opsOf (xs.take k) ++ [xs[k].op] := by
  rw [List.take_succ_eq_append_getElem h]; simp only [opsOf, List.map_append, List.map_cons, List.map_nil]

set_option maxRecDepth 100000 in
set_option maxHeartbeats 2000000 in
theorem ops_ref (A : Option Addr) (c n : Nat) (xs : List Entry) (m : Nat) (hn : n = xs.length) (hm : m ≤ xs.length) (w : World) (hl : (xs.length + 1) * 48 ≤ 140737488355328) (ha : Rd Entry.cells 5 w w.heap.size A xs) :
    Calls Try.prog 51 #[.slice A n c, .int .i64 m] w fun e w' => ∃ v, e = .returned v ∧ Made Op.cells 3 30 w.heap.size w' v (opsOf (xs.take m)) ∧ Below w.heap.size w w' := by
  subst hn
  have HA := Lib.hid ha
  clear ha
  go_enter Try.func51, Try.ntmps51
  go_wp2_with fail
  go_loopg [5, 6] m (fun g o i wr => ∃ (k : Nat) (A1 : Option Addr) (c1 : Nat), g + k = m ∧ i = .int .i64 k ∧ o = .slice A1 k c1 ∧ Hid (Made Op.cells 3 30 w.heap.size wr (.slice A1 k c1) (opsOf (xs.take k))) ∧ Hid (Below w.heap.size w wr))
  case atStart => exact ⟨0, none, 0, by omega, rfl, rfl, Made.nil _ _ _, Below.refl _ _⟩
  case round =>
    obtain ⟨k, A1, c1, hgk, rfl, rfl, hmd, hbr⟩ := hrel
    by_cases h1 : k < m
    · have hkx : k < xs.length := by omega
      obtain ⟨ad, hAd, _, hca⟩ := (HA.out.below hbr.out).at_ hkx
      subst hAd
      have g1 : (k:Int) < (m : Int) := by omega
      have g2 : (k:Int) < (xs.length : Int) := by omega
      obtain ⟨e0, e1, e2, e3, e4⟩ := hca.five
      have hst := Lib.hid (opsOf_take_succ hkx)
      clear hca e0 e1
      generalize xs[k] = x at *
      have hop : Op.cells x.op = [.int .i64 x.op.kind, .int .i64 x.op.slot, .string x.op.value] := rfl
      have hkl : (opsOf (xs.take k)).length = k := by rw [opsOf_length]; simp; omega
      have hsz := hbr.out.size
      have hmd1 := Lib.hid (hmd.out.alloc (.cells #[.int .i64 x.op.kind, .int .i64 x.op.slot, .string x.op.value] 30))
      have hrd1 := Lib.hid (rd_one encOp wr x.op #[.int .i64 x.op.kind, .int .i64 x.op.slot, .string x.op.value] rfl 30)
      have HKL := Lib.hid hkl
      clear hop hkl
      go_wp2_with (at_builtin; go_loud (refine wpList_app (v := .slice A1 k c1) (xs := opsOf (xs.take k)) (ys := [x.op]) rowOp encOp rfl (.tmp 12) (.tmp 18) rfl w.heap.size rfl hmd1.out rfl rfl hrd1.out (by rw [HKL.out]; simp only [List.length_singleton]; omega) (by rw [HKL.out]; unfold maxLen; simp only [List.length_singleton]; omega) (by simp; omega) ?_); intro v5 w5 hm5 hg5 hat5; rw [← hst.out] at hm5; have HM5 := Lib.hid hm5; have HG5 := Lib.hid hg5; clear hm5 hg5 hat5)
      go_roundg (m - (k + 1))
      case rel =>
        have hm5 := HM5.out
        obtain ⟨A5, c5, rfl, hc5⟩ := hm5.form
        have hb5 : Below w.heap.size w w5 := (hbr.out.alloc hsz _).grown HG5.out (by simp; omega) (fun q e => (hmd.out.lt q e).1)
        have hlk : (opsOf (xs.take (k + 1))).length = k + 1 := by rw [opsOf_length]; simp; omega
        rw [hlk] at hm5 ⊢
        exact ⟨k + 1, A5, c5, by omega, by go_num, rfl, hm5, hb5⟩
      case measure => omega
    · have g1 : decide (k < m) = false := by simp; omega
      have g2 : decide ((k : Int) < (m : Int)) = false := by simp; omega
      obtain rfl : k = m := by omega
      clear HA
      go_wp2_with fail
      go_ret
      exact ⟨_, rfl, hmd.out, hbr.out⟩

/-- What a replay of the first m answers. -/
def ReplayPost (w : World) (os : List Op) (e : Ending) (w' : World) : Prop :=
  ∃ A1 c1 A2 c2, e = .returned (.tuple #[.slice A1 (playC [] os).length c1, .slice A2 (playR [] os).length c2, .int .i64 0]) ∧ Rd Cell.cells 2 w' w'.heap.size A1 (playC [] os) ∧ Made Res.cells 3 58 w.heap.size w' (.slice A2 (playR [] os).length c2) (playR [] os) ∧ Below w.heap.size w w'

set_option maxRecDepth 100000 in
set_option maxHeartbeats 2000000 in
theorem replay6_ref (A : Option Addr) (c n : Nat) (xs : List Entry) (m : Nat) (hn : n = xs.length) (hm : m ≤ xs.length) (w : World) (hl : (xs.length + 1) * 48 ≤ 140737488355328) (hv : ∀ x ∈ xs, x.op.value.size ≤ 9223372036854775807) (ha : Rd Entry.cells 5 w w.heap.size A xs) :
    Calls Try.prog 19 #[.slice A n c, .int .i64 m] w (ReplayPost w (opsOf (xs.take m))) := by
  subst hn
  have HO := Lib.hid (ops_ref A c xs.length xs m rfl hm w hl ha)
  have HLN : Hid ((opsOf (xs.take m)).length * 32 ≤ 140737488355328) := by show _ ≤ _; rw [opsOf_length]; simp; omega
  have HVO : Hid (∀ o ∈ opsOf (xs.take m), o.value.size ≤ 9223372036854775807) := fun o ho => by
    obtain ⟨x, hx, rfl⟩ := List.mem_map.1 ho
    exact hv x (List.mem_of_mem_take hx)
  have g1 : decide ((m:Int) < 0) = false := by simp
  have g2 : decide ((xs.length : Int) < (m : Int)) = false := by simp; omega
  have g3 : decide (xs.length < m) = false := by simp; omega
  clear ha hv
  generalize opsOf (xs.take m) = os at *
  go_enter Try.func19, Try.ntmps19
  go_wp2_with fail
  refine HO.out.mono ?_
  rintro e w1 ⟨v1, rfl, hm1, hb1⟩
  obtain ⟨A1, c1, rfl, _⟩ := hm1.form
  have HB1 := Lib.hid hb1
  have HRP := Lib.hid (replay_ref A1 c1 os.length os rfl w1 HLN.out HVO.out (hm1.rd' encOp.len))
  clear hm1 hb1 HO
  dsimp only
  go_wp2_with fail
  refine HRP.out.mono ?_
  rintro e w2 ⟨A2, c2, v2, rfl, hr2, hm2, hb2⟩
  obtain ⟨A3, c3, rfl, _⟩ := hm2.form
  have HB2 := Lib.hid (HB1.out.trans (hb2.mono HB1.out.size))
  have HR2 := Lib.hid hr2
  have HM2 := Lib.hid (hm2.base' HB1.out.size)
  clear hr2 hm2 hb2 HRP HB1
  dsimp only
  go_wp2_with fail
  go_ret3
  exact ⟨A2, c2, A3, c3, rfl, HR2.out, HM2.out, HB2.out⟩

set_option maxRecDepth 100000 in
set_option maxHeartbeats 2000000 in
theorem replay6_refBad (A : Option Addr) (c n : Nat) (xs : List Entry) (m : Int) (hn : n = xs.length) (hm : ¬ (0 ≤ m ∧ m ≤ xs.length)) (w : World) :
    Calls Try.prog 19 #[.slice A n c, .int .i64 m] w fun e w' => e = .returned (.tuple #[.slice none 0 0, .slice none 0 0, .int .i64 61]) ∧ w' = w := by
  subst hn
  by_cases h0 : m < 0
  · go_enter Try.func19, Try.ntmps19
    go_wp2_with fail
    go_ret3
    exact ⟨rfl, rfl⟩
  · have h1 : decide (m < 0) = false := decide_eq_false h0
    have h2 : (xs.length : Int) < m := by omega
    clear hm h0
    go_enter Try.func19, Try.ntmps19
    go_wp2_with fail
    go_ret3
    exact ⟨rfl, rfl⟩
set_option maxRecDepth 100000 in
set_option maxHeartbeats 2000000 in
theorem replay6_progBad (A : Option Addr) (c n : Nat) (xs : List Entry) (m : Int) (hn : n = xs.length) (hm : ¬ (0 ≤ m ∧ m ≤ xs.length)) (w : World) :
    Calls Try.prog 17 #[.slice A n c, .int .i64 m] w fun e w' => e = .returned (.tuple #[.slice none 0 0, .slice none 0 0, .int .i64 61]) ∧ w' = w := by
  subst hn
  by_cases h0 : m < 0
  · go_enter Try.func17, Try.ntmps17
    go_wp2_with fail
    go_ret3
    exact ⟨rfl, rfl⟩
  · have h1 : decide (m < 0) = false := decide_eq_false h0
    have h2 : (xs.length : Int) < m := by omega
    clear hm h0
    go_enter Try.func17, Try.ntmps17
    go_wp2_with fail
    go_ret3
    exact ⟨rfl, rfl⟩

/-- What the program's replay answers: its own memory. -/
def ReplayPost2 (w : World) (os : List Op) (e : Ending) (w' : World) : Prop :=
  ∃ A1 c1 A2 c2, e = .returned (.tuple #[.slice A1 (playC [] os).length c1, .slice A2 (playR [] os).length c2, .int .i64 0]) ∧ Made Cell.cells 2 56 w.heap.size w' (.slice A1 (playC [] os).length c1) (playC [] os) ∧ Made Res.cells 3 58 w.heap.size w' (.slice A2 (playR [] os).length c2) (playR [] os) ∧ Below w.heap.size w w'

set_option maxRecDepth 100000 in
set_option maxHeartbeats 4000000 in
theorem replay6_prog (A : Option Addr) (c n : Nat) (xs : List Entry) (m : Nat) (hn : n = xs.length) (hm : m ≤ xs.length) (hc : n ≤ c) (w : World) (hl : (xs.length + 1) * 48 ≤ 140737488355328) (hv : ∀ x ∈ xs, x.op.value.size ≤ 9223372036854775807) (ha : Rd Entry.cells 5 w w.heap.size A xs) :
    Calls Try.prog 17 #[.slice A n c, .int .i64 m] w (ReplayPost2 w (opsOf (xs.take m))) := by
  subst hn
  have HA := Lib.hid ha
  have HVO : Hid (∀ o ∈ opsOf (xs.take m), o.value.size ≤ 9223372036854775807) := fun o ho => by
    obtain ⟨x, hx, rfl⟩ := List.mem_map.1 ho
    exact hv x (List.mem_of_mem_take hx)
  have HLN : Hid ((opsOf (xs.take m)).length * 32 ≤ 140737488355328) := by show _ ≤ _; rw [opsOf_length]; simp; omega
  have g1 : decide ((m:Int) < 0) = false := by simp
  have g2 : decide ((xs.length : Int) < (m : Int)) = false := by simp; omega
  have g3 : decide (xs.length < m) = false := by simp; omega
  have g4 : m ≤ c := by omega
  clear ha hv
  go_enter Try.func17, Try.ntmps17
  go_wp2_with fail
  clear g1 g2 g3
  go_loopg [7, 9, 24] m (fun g o y i wr => ∃ (k : Nat) (A1 : Option Addr) (c1 : Nat), g + k = m ∧ i = .int .i64 k ∧ o = .slice A1 k c1 ∧ Hid (Made Op.cells 3 30 w.heap.size wr (.slice A1 k c1) (opsOf (xs.take k))) ∧ Hid (Below w.heap.size w wr))
  case atStart => exact ⟨0, none, 0, by omega, rfl, rfl, Made.nil _ _ _, Below.refl _ _⟩
  case round =>
    obtain ⟨k, A1, c1, hgk, rfl, rfl, hmd, hbr⟩ := hrel
    by_cases h1 : k < m
    · have hkx : k < xs.length := by omega
      obtain ⟨ad, hAd, _, hca⟩ := (HA.out.below hbr.out).at_ hkx
      subst hAd
      have g1 : (k:Int) < (m : Int) := by omega
      obtain ⟨e0, e1, e2, e3, e4⟩ := hca.five
      have hst := Lib.hid (opsOf_take_succ hkx)
      clear hca
      generalize xs[k] = x at *
      have hkl : (opsOf (xs.take k)).length = k := by rw [opsOf_length]; simp; omega
      have hsz := hbr.out.size
      obtain ⟨w2, hw2⟩ : ∃ w2, w2 = wr.alloc (.cells #[.int .i64 x.client, .int .i64 x.number, .int .i64 x.op.kind, .int .i64 x.op.slot, .string x.op.value] 32) := ⟨_, rfl⟩
      have hb2 : Below wr.heap.size wr w2 := by rw [hw2]; exact (Below.refl _ _).alloc (Nat.le_refl _) _
      have hs2 : w2.heap.size = wr.heap.size + 1 := by rw [hw2]; simp
      have hmd1 := Lib.hid ((hmd.out.below hb2 fun q e => (hmd.out.lt q e).2).alloc (.cells #[.int .i64 x.op.kind, .int .i64 x.op.slot, .string x.op.value] 30))
      have hrd1 := rd_one encOp w2 x.op #[.int .i64 x.op.kind, .int .i64 x.op.slot, .string x.op.value] rfl 30
      rw [hs2] at hrd1
      replace hrd1 := Lib.hid hrd1
      have HB2 := Lib.hid (hbr.out.trans (hb2.mono hsz))
      have HW2 := Lib.hid hw2
      have HS2 := Lib.hid hs2
      have HKL := Lib.hid hkl
      clear hkl hw2 hb2 hs2
      go_wp2_with (at_builtin; go_loud (rw [← HW2.out]; refine wpList_app (v := .slice A1 k c1) (xs := opsOf (xs.take k)) (ys := [x.op]) rowOp encOp rfl (.tmp 28) (.tmp 31) rfl w.heap.size rfl hmd1.out rfl rfl hrd1.out (by rw [HKL.out]; simp only [List.length_singleton]; omega) (by rw [HKL.out]; unfold maxLen; simp only [List.length_singleton]; omega) (by have := HS2.out; simp; omega) ?_); intro v5 w5 hm5 hg5 hat5; rw [← hst.out] at hm5; have HM5 := Lib.hid hm5; have HG5 := Lib.hid hg5; clear hm5 hg5 hat5)
      go_roundg (m - (k + 1))
      case rel =>
        have hm5 := HM5.out
        obtain ⟨A5, c5, rfl, hc5⟩ := hm5.form
        have hb5 : Below w.heap.size w w5 := (HB2.out.alloc HB2.out.size _).grown HG5.out (by have := HB2.out.size; simp; omega) (fun q e => (hmd.out.lt q e).1)
        have hlk : (opsOf (xs.take (k + 1))).length = k + 1 := by rw [opsOf_length]; simp; omega
        rw [hlk] at hm5 ⊢
        exact ⟨k + 1, A5, c5, by omega, by go_num, rfl, hm5, hb5⟩
      case measure => omega
    · have g1 : decide (k < m) = false := by simp; omega
      have g2 : decide ((k : Int) < (m : Int)) = false := by simp; omega
      obtain rfl : k = m := by omega
      have hlk : k = (opsOf (xs.take k)).length := by rw [opsOf_length]; simp; omega
      have HRP := Lib.hid (replay_prog A1 c1 k (opsOf (xs.take k)) hlk wr HLN.out HVO.out (hmd.out.rd' encOp.len))
      clear hlk HA hmd HLN HVO
      generalize opsOf (xs.take k) = os at *
      go_wp2_with fail
      refine HRP.out.mono ?_
      rintro e w2 ⟨v1, v2, rfl, hm1, hm2, hb2⟩
      obtain ⟨A2, c2, rfl, _⟩ := hm1.form
      obtain ⟨A3, c3, rfl, _⟩ := hm2.form
      have HB2 := Lib.hid (hbr.out.trans (hb2.mono hbr.out.size))
      have HM1 := Lib.hid (hm1.base' hbr.out.size)
      have HM2 := Lib.hid (hm2.base' hbr.out.size)
      clear hm1 hm2 hb2 HRP hbr
      dsimp only
      go_wp2_with fail
      go_ret3
      exact ⟨A2, c2, A3, c3, rfl, HM1.out, HM2.out, HB2.out⟩
end Go.Proofs.Ytnfilklgogaheaa
