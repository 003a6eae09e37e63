/- The reference's ledger: put, Get. Conditions: sizes within Go's own limits. -/
import Derived.Test.YtmfidhlhcochoaaCells2
import Derived.Test.YtmfidhlhcochoaaOpen3
import Derived.Test.YtmfidhlhcochoaaOpCheck
import Derived.Deep.QuietTactic
import Derived.BigQuiet
import Derived.Deep.LoopGhost
namespace Go.Proofs.Ytmfidhlhcochoaa
open Go.RowKit
set_option linter.unusedVariables false
set_option linter.unusedSimpArgs false

def PutInv (cs : List Cell) (c : Cell) (k : Nat) (bd : Bool) (xs : List Cell) : Prop := putC cs c = xs ++ (if bd then cs.drop k else putC (cs.drop k) c) ∧ xs.length = k + (if bd then 1 else 0)
theorem PutInv.insert {cs : List Cell} {c : Cell} {k : Nat} {xs : List Cell} (h : PutInv cs c k false xs) (hk : k < cs.length) (hc : c.slot < cs[k].slot) : PutInv cs c (k + 1) true (xs ++ [c] ++ [cs[k]]) := by
  obtain ⟨h1, h2⟩ := h
  refine ⟨?_, by simp at h2 ⊢; omega⟩
  rw [h1]
  simp only [Bool.false_eq_true, if_false, if_true]
  rw [List.drop_eq_getElem_cons hk, putC, if_pos hc]
  simp
theorem PutInv.pass {cs : List Cell} {c : Cell} {k : Nat} {xs : List Cell} (h : PutInv cs c k false xs) (hk : k < cs.length) (hc : ¬ c.slot < cs[k].slot) : PutInv cs c (k + 1) false (xs ++ [cs[k]]) := by
  obtain ⟨h1, h2⟩ := h
  refine ⟨?_, by simp at h2 ⊢; omega⟩
  rw [h1]
  simp only [Bool.false_eq_true, if_false]
  rw [List.drop_eq_getElem_cons hk, putC, if_neg hc]
  simp
theorem PutInv.more {cs : List Cell} {c : Cell} {k : Nat} {xs : List Cell} (h : PutInv cs c k true xs) (hk : k < cs.length) : PutInv cs c (k + 1) true (xs ++ [cs[k]]) := by
  obtain ⟨h1, h2⟩ := h
  refine ⟨?_, by simp at h2 ⊢; omega⟩
  rw [h1]
  simp only [if_true]
  rw [List.drop_eq_getElem_cons hk]
  simp
theorem PutInv.last {cs : List Cell} {c : Cell} {k : Nat} {xs : List Cell} (h : PutInv cs c k false xs) (hk : cs.length ≤ k) : xs ++ [c] = putC cs c := by
  rw [h.1]
  simp only [Bool.false_eq_true, if_false]
  rw [List.drop_eq_nil_of_le hk]
  rfl
theorem PutInv.end {cs : List Cell} {c : Cell} {k : Nat} {xs : List Cell} (h : PutInv cs c k true xs) (hk : cs.length ≤ k) : xs = putC cs c := by
  rw [h.1]
  simp only [if_true]
  rw [List.drop_eq_nil_of_le hk]
  simp

theorem getC_head (d : Cell) (ds : List Cell) (k : Int) : getC (d :: ds) k = if d.slot = k then some d.value else getC ds k := by
  unfold getC
  rw [List.find?_cons]
  by_cases h : d.slot = k
  · have h' : (d.slot == k) = true := by simpa using h
    rw [h', if_pos h]; rfl
  · have h' : (d.slot == k) = false := by simpa using h
    rw [h', if_neg h]

set_option maxRecDepth 100000 in
set_option maxHeartbeats 2000000 in
theorem get_ref (A : Option Addr) (c n : Nat) (cs : List Cell) (k : Int) (hn : n = cs.length) (w : World) (hl : cs.length ≤ 9223372036854775806) (ha : Rd Cell.cells 2 w w.heap.size A cs) :
    Calls Try.prog 48 #[.slice A n c, .int .i64 k] w fun e w' => e = .returned (.tuple #[.string ((getC cs k).getD emp), .bool (getC cs k).isSome]) ∧ w' = w := by
  subst hn
  obtain ⟨r, hr⟩ : ∃ r, r = getC cs k := ⟨_, rfl⟩
  have HR := Lib.hid hr
  rw [← hr]
  clear hr
  have HA := Lib.hid ha
  clear ha
  go_enter Try.func48, Try.ntmps48
  go_wp2_with fail
  go_loopw [6] (fun i wr => ∃ j : Nat, j ≤ cs.length ∧ i = .int .i64 j ∧ Hid (getC cs k = getC (cs.drop j) k) ∧ w = wr) (fun i _ => cs.length - (intOf i).toNat)
  case atStart => exact ⟨0, by omega, rfl, by show _ = _; rw [List.drop_zero], rfl⟩
  case round =>
    obtain ⟨j, hj, rfl, hg, hwr⟩ := hrel
    subst hwr
    by_cases hj1 : j < cs.length
    · obtain ⟨ad, hA, _, hca⟩ := HA.out.at_ hj1
      subst hA
      obtain ⟨c0, c1⟩ := hca.two
      have g1 : (j:Int) < (cs.length : Int) := by omega
      have hd := Lib.hid (List.drop_eq_getElem_cons hj1)
      clear hca
      by_cases h1 : cs[j].slot = k
      · have e : r = some cs[j].value := by rw [HR.out, hg.out, hd.out, getC_head, if_pos h1]
        have h1' : (cs[j].slot == k) = true := by simpa using h1
        clear HR hg hd
        generalize cs[j] = y at *
        subst e
        go_wp2_with fail
        go_ret2
        exact ⟨rfl, rfl⟩
      · have h1' : (cs[j].slot == k) = false := by simpa using h1
        have hg' : Hid (getC cs k = getC (cs.drop (j + 1)) k) := by
          show _ = _
          rw [hg.out, hd.out, getC_head, if_neg h1]
        clear HR hg hd
        generalize cs[j] = y at *
        go_wp2_with fail
        go_roundw
        case rel => exact ⟨j + 1, by omega, by go_num, hg', by first | rfl | trivial⟩
        case measure => simp [intOf]; omega
    · have g1 : decide ((j:Int) < (cs.length : Int)) = false := by simp; omega
      have e : r = none := by rw [HR.out, hg.out, List.drop_eq_nil_of_le (by omega)]; rfl
      subst e
      clear HR hg HA
      go_wp2_with fail
      go_ret2
      exact ⟨rfl, rfl⟩

set_option maxRecDepth 100000 in
set_option maxHeartbeats 4000000 in
theorem put_ref (A : Option Addr) (c0 n : Nat) (cs : List Cell) (c : Cell) (hn : n = cs.length) (w : World) (hl : (cs.length + 2) * 24 ≤ 140737488355328) (ha : Rd Cell.cells 2 w w.heap.size A cs) :
    Calls Try.prog 49 #[.slice A n c0, .agg #[.int .i64 c.slot, .string c.value]] w fun e w' => ∃ v, e = .returned v ∧ Made Cell.cells 2 107 w.heap.size w' v (putC cs c) ∧ Below w.heap.size w w' := by
  subst hn
  obtain ⟨W0, hW0⟩ : ∃ W0, W0 = w.alloc (.cells #[.int .i64 c.slot, .string c.value] 107) := ⟨_, rfl⟩
  have hb0 : Below w.heap.size w W0 := by rw [hW0]; exact (Below.refl _ _).alloc (Nat.le_refl _) _
  have hs0 : W0.heap.size = w.heap.size + 1 := by rw [hW0]; simp
  have k0 : W0.heap[w.heap.size]? = some (.cells #[.int .i64 c.slot, .string c.value] 107 (0, 0)) := by rw [hW0]; exact heap_alloc_new _ _
  have HA := Lib.hid ((ha.below hb0).more (by omega : w.heap.size ≤ w.heap.size + 1))
  have HK := Lib.hid k0
  clear ha k0
  go_enter Try.func49, Try.ntmps49
  go_wp2_with fail
  rw [← hW0]
  clear hW0
  go_loopg [5, 6, 7] cs.length (fun g o d i wr => ∃ (k : Nat) (A1 : Option Addr) (c1 : Nat) (xs : List Cell) (bd : Bool), g + k = cs.length ∧ i = .int .i64 k ∧ d = .bool bd ∧ o = .slice A1 xs.length c1 ∧ Hid (Made Cell.cells 2 107 (w.heap.size + 1) wr (.slice A1 xs.length c1) xs) ∧ Hid (PutInv cs c k bd xs) ∧ Below (w.heap.size + 1) W0 wr)
  case atStart => exact ⟨0, none, 0, [], false, by omega, rfl, rfl, rfl, Made.nil _ _ _, ⟨by simp, rfl⟩, Below.refl _ _⟩
  case round =>
    obtain ⟨k, A1, c1, xs, bd, hgk, rfl, rfl, rfl, hmd, hpi, hbr⟩ := hrel
    have hsz := hbr.size
    have kb := (hbr.block w.heap.size (by omega)).trans HK.out
    have b0 : wr.cell? ⟨w.heap.size, 0, none⟩ = some (.int .i64 c.slot) := cell_of_row _ _ 0 _ _ _ kb
    have b1 : wr.cell? ⟨w.heap.size, 1, none⟩ = some (.string c.value) := cell_of_row _ _ 1 _ _ _ kb
    have hxl : xs.length ≤ k + 1 := by have := hpi.out.2; cases bd <;> simp at this <;> omega
    clear kb
    by_cases hk1 : k < cs.length
    · obtain ⟨ad, hA, had, hca⟩ := (HA.out.below hbr).at_ hk1
      subst hA
      obtain ⟨d0, d1⟩ := hca.two
      have g1 : (k:Int) < (cs.length : Int) := by omega
      have hlad : (ad.add (k * 2)).block < w.heap.size + 1 := by rw [block_add]; exact had
      clear hca
      cases bd with
      | true =>
        have hmore := Lib.hid (hpi.out.more hk1)
        clear hpi
        generalize cs[k] = y at *
        go_wp2_with fail
        go_quiet (fail)
        go_wp2_with (at_builtin; go_loud (refine wpList_app (v := .slice A1 xs.length c1) (xs := xs) (ys := [y]) rowCell encCell rfl (.tmp 30) (.tmp 35) rfl (w.heap.size + 1) rfl (by exact (hmd.out.drewN _).alloc _) rfl rfl (by exact rd_one encCell (wr.drewN _) y #[.int .i64 y.slot, .string y.value] rfl 107) (by simp only [List.length_singleton]; omega) (by unfold maxLen; simp only [List.length_singleton]; omega) (by show w.heap.size + 1 ≤ (wr.alloc _).heap.size; simp; omega) ?_); intro v5 w5 hm5 hg5 hat5)
        go_roundg (cs.length - (k + 1))
        case rel =>
          obtain ⟨A5, c5, rfl, hc5⟩ := hm5.form
          exact ⟨k + 1, A5, c5, xs ++ [y], true, by omega, by go_num, rfl, rfl, hm5, hmore.out, ((below_drewN hbr _).alloc (by show w.heap.size + 1 ≤ wr.heap.size; omega) _).grown hg5 (by show w.heap.size + 1 ≤ (wr.alloc _).heap.size; simp; omega) (fun q e => (hmd.out.lt q e).1)⟩
        case measure => omega
      | false =>
        by_cases hc : c.slot < cs[k].slot
        · have hins0 := hpi.out.insert hk1 hc
          obtain ⟨zs, hzs⟩ : ∃ zs, zs = xs ++ [c] := ⟨_, rfl⟩
          rw [← hzs] at hins0
          have hins := Lib.hid hins0
          have HZS := Lib.hid hzs
          have HL5 := Lib.hid (show zs.length = xs.length + 1 by rw [hzs]; simp)
          clear hpi hins0 hzs
          generalize cs[k] = y at *
          go_wp2_with fail
          go_quiet (fail)
          go_wp2_with (first
            | (at_builtin; refine wpList_app (v := .slice A1 xs.length c1) (xs := xs) (ys := [c]) rowCell encCell rfl (.tmp 26) (.tmp 28) rfl (w.heap.size + 1) rfl (by exact (hmd.out.drewN _).alloc _) rfl rfl (by exact rd_one encCell (wr.drewN _) c #[.int .i64 c.slot, .string c.value] rfl 107) (by simp only [List.length_singleton]; omega) (by unfold maxLen; simp only [List.length_singleton]; omega) (by show w.heap.size + 1 ≤ (wr.alloc _).heap.size; simp; omega) ?_
               intro v5 w5 hm5 hg5 hat5
               rw [← HZS.out] at hm5
               obtain ⟨A5, c5, hv5, hc5⟩ := hm5.form
               subst hv5
               have hb5 : Below (w.heap.size + 1) W0 w5 := ((below_drewN hbr _).alloc (by show w.heap.size + 1 ≤ wr.heap.size; omega) _).grown hg5 (by show w.heap.size + 1 ≤ (wr.alloc _).heap.size; simp; omega) (fun q e => (hmd.out.lt q e).1)
               have hb35 : Below (w.heap.size + 1) wr w5 := ((below_drewN (Below.refl _ wr) _).alloc (by show w.heap.size + 1 ≤ wr.heap.size; omega) _).grown hg5 (by show w.heap.size + 1 ≤ (wr.alloc _).heap.size; simp; omega) (fun q e => (hmd.out.lt q e).1)
               have x0 : w5.cell? (ad.add (k * 2)) = some (.int .i64 y.slot) := (hb35.cell (p := ad.add (k * 2)) hlad).trans d0
               have x1 : w5.cell? ⟨(ad.add (k * 2)).block, (ad.add (k * 2)).off + 1, none⟩ = some (.string y.value) := (hb35.cell (p := ⟨(ad.add (k * 2)).block, (ad.add (k * 2)).off + 1, none⟩) hlad).trans d1
               have hs5 := hb5.size
               have HM5 := Lib.hid hm5
               have HG5 := Lib.hid hg5
               clear hm5 hg5 hb35)
            | (at_builtin; refine wpList_app (v := .slice A5 zs.length c5) (xs := zs) (ys := [y]) rowCell encCell rfl (.tmp 30) (.tmp 35) rfl (w.heap.size + 1) rfl (by exact HM5.out.alloc _) rfl rfl (by exact rd_one encCell w5 y #[.int .i64 y.slot, .string y.value] rfl 107) (by have := HL5.out; simp only [List.length_singleton]; omega) (by have := HL5.out; unfold maxLen; simp only [List.length_singleton]; omega) (by simp; omega) ?_
               intro v6 w6 hm6 hg6 hat6))
          go_roundg (cs.length - (k + 1))
          case rel =>
            obtain ⟨A6, c6, rfl, hc6⟩ := hm6.form
            exact ⟨k + 1, A6, c6, zs ++ [y], true, by omega, by go_num, rfl, rfl, hm6, hins.out, (hb5.alloc (by omega) _).grown hg6 (by simp; omega) (fun q e => (HM5.out.lt q e).1)⟩
          case measure => omega
        · have hpass := Lib.hid (hpi.out.pass hk1 hc)
          have hc' : decide (c.slot < cs[k].slot) = false := decide_eq_false hc
          clear hpi
          generalize cs[k] = y at *
          go_wp2_with fail
          go_quiet (fail)
          go_wp2_with (at_builtin; go_loud (refine wpList_app (v := .slice A1 xs.length c1) (xs := xs) (ys := [y]) rowCell encCell rfl (.tmp 30) (.tmp 35) rfl (w.heap.size + 1) rfl (by exact (hmd.out.drewN _).alloc _) rfl rfl (by exact rd_one encCell (wr.drewN _) y #[.int .i64 y.slot, .string y.value] rfl 107) (by simp only [List.length_singleton]; omega) (by unfold maxLen; simp only [List.length_singleton]; omega) (by show w.heap.size + 1 ≤ (wr.alloc _).heap.size; simp; omega) ?_); intro v5 w5 hm5 hg5 hat5)
          go_roundg (cs.length - (k + 1))
          case rel =>
            obtain ⟨A5, c5, rfl, hc5⟩ := hm5.form
            exact ⟨k + 1, A5, c5, xs ++ [y], false, by omega, by go_num, rfl, rfl, hm5, hpass.out, ((below_drewN hbr _).alloc (by show w.heap.size + 1 ≤ wr.heap.size; omega) _).grown hg5 (by show w.heap.size + 1 ≤ (wr.alloc _).heap.size; simp; omega) (fun q e => (hmd.out.lt q e).1)⟩
          case measure => omega
    · have g1 : decide ((k:Int) < (cs.length : Int)) = false := by simp; omega
      cases bd with
      | true =>
        have hend := hpi.out.end (by omega)
        have HE := Lib.hid hend
        clear hend HA
        go_wp2_with fail
        go_ret
        refine ⟨_, rfl, ?_, hb0.trans (hbr.mono (by omega))⟩
        rw [← HE.out]
        exact hmd.out.base' (by omega)
      | false =>
        have hlast := Lib.hid (hpi.out.last (by omega))
        have hmd1 := Lib.hid (hmd.out.alloc (.cells #[.int .i64 c.slot, .string c.value] 107))
        have hrd1 := Lib.hid (rd_one encCell wr c #[.int .i64 c.slot, .string c.value] rfl 107)
        clear HA
        go_wp2_with (at_builtin; go_loud (refine wpList_app (v := .slice A1 xs.length c1) (xs := xs) (ys := [c]) rowCell encCell rfl (.tmp 39) (.tmp 41) rfl (w.heap.size + 1) rfl hmd1.out rfl rfl hrd1.out (by simp only [List.length_singleton]; omega) (by unfold maxLen; simp only [List.length_singleton]; omega) (by simp; omega) ?_); intro v5 w5 hm5 hg5 hat5)
        go_ret
        refine ⟨_, rfl, ?_, ?_⟩
        · rw [← hlast.out]
          exact hm5.base' (by omega)
        · exact hb0.trans (((hbr.alloc (by omega) _).grown hg5 (by simp; omega) (fun q e => (hmd.out.lt q e).1)).mono (by omega))
end Go.Proofs.Ytmfidhlhcochoaa
