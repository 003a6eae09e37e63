/- The reference's Replay and CopyCells. Conditions: sizes within Go's own limits. -/
import Derived.Test.YtnfilklgogaheaaDoRef
namespace Go.Proofs.Ytnfilklgogaheaa
open Go.RowKit
set_option linter.unusedVariables false
set_option linter.unusedSimpArgs false

theorem Rd.keepAt {α : Type} {enc : α → List Value} {k : Nat} {w w' : World} {B B' : Nat} {A : Option Addr} {xs : List α} (h : Rd enc k w B A xs) (hB : B ≤ B') (hk : ∀ ad, A = some ad → ad.block < B → w'.heap[ad.block]? = w.heap[ad.block]?) : Rd enc k w' B' A xs := fun i x hx => by
  obtain ⟨ad, e, hb, ha⟩ := h i x hx
  refine ⟨ad, e, by omega, ha.keep fun q hq => ?_⟩
  have h1 := hk ad e hb
  unfold World.cell?
  rw [hq, block_add, h1]

set_option maxRecDepth 100000 in
set_option maxHeartbeats 4000000 in
theorem replay_ref (A : Option Addr) (c n : Nat) (os : List Op) (hn : n = os.length) (w : World) (hl : os.length * 32 ≤ 140737488355328) (hv : ∀ o ∈ os, o.value.size ≤ 9223372036854775807) (ha : Rd Op.cells 3 w w.heap.size A os) :
    Calls Try.prog 50 #[.slice A n c] w fun e w' => ∃ A1 c1 v2, e = .returned (.tuple #[.slice A1 (playC [] os).length c1, v2]) ∧ Rd Cell.cells 2 w' w'.heap.size A1 (playC [] os) ∧ Made Res.cells 3 58 w.heap.size w' v2 (playR [] os) ∧ Below w.heap.size w w' := by
  subst hn
  have HA := Lib.hid ha
  have HV := Lib.hid hv
  clear ha hv
  go_enter Try.func50, Try.ntmps50
  go_wp2_with fail
  go_loopg [4, 5, 6] os.length (fun g cl o i wr => ∃ (k : Nat) (A1 A2 : Option Addr) (c1 c2 n1 : Nat), g + k = os.length ∧ i = .int .i64 k ∧ cl = .slice A1 n1 c1 ∧ o = .slice A2 k c2 ∧ Hid (n1 = (playC [] (os.take k)).length) ∧ Hid (Rd Cell.cells 2 wr wr.heap.size A1 (playC [] (os.take k))) ∧ Hid (Made Res.cells 3 58 w.heap.size wr (.slice A2 k c2) (playR [] (os.take k))) ∧ Hid (∀ ad, A1 = some ad → ad.block < wr.heap.size ∧ (Value.slice A2 k c2).ownBlock ≠ some ad.block) ∧ Below w.heap.size w wr)
  case atStart => exact ⟨0, none, none, 0, 0, 0, by omega, rfl, rfl, rfl, (by show _ = _; simp [playC]), Rd.nil, Made.nil _ _ _, (fun ad h => by cases h), Below.refl _ _⟩
  case round =>
    obtain ⟨k, A1, A2, c1, c2, n1, hgk, rfl, rfl, rfl, hn1, hrd, hmd, hown, hbr⟩ := hrel
    by_cases h1 : k < os.length
    · obtain ⟨ad, rfl, _, hca⟩ := (HA.out.below hbr).at_ h1
      have g1 : (k:Int) < (os.length : Int) := by omega
      obtain ⟨o0, o1, o2⟩ := hca.three
      have hvk := HV.out os[k] (by simp)
      have hst := Lib.hid (playC_take_succ [] os k h1)
      have hsr := Lib.hid (playR_take_succ [] os k h1)
      have hri : Hid (Rising (playC [] (os.take k))) := playC_rising Rising.nil
      clear hca
      generalize os[k] = o at *
      generalize hP : playC [] (os.take k) = cs at *
      clear hP
      go_wp2_with fail
      refine (do_ref A1 c1 n1 cs o hn1.out hvk wr hrd.out hri.out).mono ?_
      rintro e w3 ⟨A3, c3, rfl, hrd3, hA3, hb3⟩
      have hszr := hbr.size
      have hmd3 : Made Res.cells 3 58 w.heap.size w3 (.slice A2 k c2) (playR [] (os.take k)) := hmd.out.below hb3 fun q hq => (hmd.out.lt q hq).2
      have hown3 : ∀ ad, A3 = some ad → ad.block < w3.heap.size ∧ (Value.slice A2 k c2).ownBlock ≠ some ad.block := fun ad e => by
        have h7 := hb3.size
        rcases hA3 with hA3 | hA3
        · have h8 := hown.out ad (hA3 ▸ e)
          exact ⟨by omega, h8.2⟩
        · refine ⟨(hA3 ad e).2, fun h => ?_⟩
          have h5 := (hmd.out.lt _ h).2
          have h6 := (hA3 ad e).1
          omega
      have hbw3 : Below w.heap.size w w3 := hbr.trans (hb3.mono hbr.size)
      rw [← hst.out] at hrd3 ⊢
      generalize would cs o = r at *
      have hrl : (playR [] (os.take k)).length = k := by rw [playR_length]; simp; omega
      obtain ⟨w4, hw4⟩ : ∃ w4, w4 = w3.alloc (.cells #[.int .i64 r.code, .int .i64 r.slot, .string r.value] 58) := ⟨_, rfl⟩
      have hb34 : Below w3.heap.size w3 w4 := by rw [hw4]; exact (Below.refl _ _).alloc (Nat.le_refl _) _
      have hs4 : w4.heap.size = w3.heap.size + 1 := by rw [hw4]; simp
      have i4 : w4.heap[w3.heap.size]? = some (.cells #[.int .i64 r.code, .int .i64 r.slot, .string r.value] 58 (0, 0)) := by rw [hw4]; exact heap_alloc_new _ _
      have hmd4 := Lib.hid ((hmd3.below hb34 fun q hq => (hmd3.lt q hq).2).alloc (.cells #[.int .i64 r.code, .int .i64 r.slot, .string r.value] 58))
      have hrd4 := rd_one encRes w4 r #[.int .i64 r.code, .int .i64 r.slot, .string r.value] rfl 58
      rw [hs4] at hrd4
      replace hrd4 := Lib.hid hrd4
      have hc4 := Lib.hid (hrd3.below hb34)
      have HB3 := Lib.hid hbw3
      have HB34 := Lib.hid hb34
      have HO3 := Lib.hid hown3
      have HMD3 := Lib.hid hmd3
      have e0 : w4.cell? ⟨w3.heap.size, 0, none⟩ = some (.int .i64 r.code) := cell_of_row w4 _ 0 _ _ _ i4
      have e1 : w4.cell? ⟨w3.heap.size, 1, none⟩ = some (.int .i64 r.slot) := cell_of_row w4 _ 1 _ _ _ i4
      have e2 : w4.cell? ⟨w3.heap.size, 2, none⟩ = some (.string r.value) := cell_of_row w4 _ 2 _ _ _ i4
      have HS4 := Lib.hid hs4
      have HW4 := Lib.hid hw4
      obtain ⟨n3, hn3⟩ : ∃ n3, n3 = (playC [] (os.take (k + 1))).length := ⟨_, rfl⟩
      rw [← hn3]
      have HN3 := Lib.hid hn3
      clear hmd3 hrd3 hb3 hbw3 hb34 hown3 o0 o1 o2 hA3 hw4 i4 hs4 hn3
      dsimp only
      go_wp2_with (at_builtin; go_loud (rw [← HW4.out]; refine wpList_app (v := .slice A2 k c2) (xs := playR [] (os.take k)) (ys := [r]) rowRes encRes rfl (.tmp 25) (.tmp 27) rfl w.heap.size rfl hmd4.out rfl rfl hrd4.out (by simp only [List.length_singleton]; omega) (by unfold maxLen; simp only [List.length_singleton]; omega) (by simp; have := HS4.out; have := HB3.out.size; omega) ?_); intro v5 w5 hm5 hg5 hat5)
      go_roundg (os.length - (k + 1))
      case rel =>
        obtain ⟨A5, c5, rfl, hc5⟩ := hm5.form
        have hs4 := HS4.out
        have hs3 := HB3.out.size
        have hlk : (playR [] (os.take k) ++ [r]).length = k + 1 := by simp [hrl]
        rw [hlk] at hm5 ⊢
        rw [← hsr.out] at hm5
        have hb5 : Below w.heap.size w w5 := ((HB3.out.trans (HB34.out.mono hs3)).alloc (by omega) _).grown hg5 (by simp; omega) (fun q e => (hmd.out.lt q e).1)
        have hsz5 : w4.heap.size + 1 ≤ w5.heap.size := by have := hg5.size; simpa using this
        refine ⟨k + 1, A3, A5, c3, c5, n3, by omega, by go_num, rfl, rfl, HN3.out, ?_, hm5, ?_, hb5⟩
        · refine hc4.out.keepAt (by omega) fun ad e hb => ?_
          rw [hg5.block ad.block (by simp; omega) (fun h => (HO3.out ad e).2 h.symm)]
          exact Below.heap_alloc _ _ _ (by omega)
        · intro ad e
          have h6 := HO3.out ad e
          refine ⟨by omega, fun h => ?_⟩
          rcases hat5 with h5 | h5
          · exact h6.2 (by rw [← h5]; rw [hlk]; exact h)
          · rw [hlk, h] at h5
            injection h5 with h5
            simp at h5
            omega
      case measure => omega
    · have g1 : decide (k < os.length) = false := by simp; omega
      have g2 : decide ((k : Int) < (os.length : Int)) = false := by simp; omega
      rw [show os.take k = os from List.take_of_length_le (by omega)] at hmd hrd hn1
      clear HA HV
      go_wp2_with fail
      go_ret2
      have hn1' := hn1.out
      subst hn1'
      exact ⟨A1, c1, _, rfl, hrd.out, hmd.out, hbr⟩
end Go.Proofs.Ytnfilklgogaheaa
