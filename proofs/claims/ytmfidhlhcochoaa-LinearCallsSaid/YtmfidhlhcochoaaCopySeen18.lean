/- amnesiaplain.CopySeen: rows that read the same lists in own memory. Conditions: Go lengths. -/
import Derived.Test.YtmfidhlhcochoaaSeen18
namespace Go.Proofs.Ytmfidhlhcochoaa
open Go.RowKit
set_option linter.unusedVariables false
set_option linter.unusedSimpArgs false

theorem mine_app {base base' : Nat} {w w' : World} {v : Value} {out : List DSeen} {x : DSeen} (hm : Made DSeen.cells 19 124 base' w v out) (hi : ∀ y ∈ out, MineD base w y) (hx : MineD base w x) (o : Obj) (hg : (w.alloc o).grownBy w' v.ownBlock) : ∀ y ∈ out ++ [x], MineD base w' y := fun y hy => by
  have h0 : MineD base w y := by
    rcases List.mem_append.1 hy with hy | hy
    · exact hi y hy
    · rw [List.mem_singleton.1 hy]; exact hx
  exact (h0.alloc o).grown (hm.alloc o) hg

set_option maxRecDepth 100000 in
set_option maxHeartbeats 8000000 in
theorem copySeen (A : Option Addr) (c n : Nat) (rows : List DSeen) (hn : n = rows.length) (w : World) (hl : (rows.length + 1) * 200 ≤ 140737488355328) (hle : ∀ x ∈ rows, x.log.length * 48 ≤ 140737488355328) (hlb : ∀ x ∈ rows, x.bytes.length ≤ 140737488355328)
    (ha : Rd DSeen.cells 19 w w.heap.size A rows) (hd : ∀ x ∈ rows, NestD w w.heap.size x) :
    Calls Try.prog 26 #[.slice A n c] w fun e w' => ∃ A' c' out, e = .returned (.slice A' n c') ∧ n = out.length ∧ out.map DSeen.plain = rows.map DSeen.plain ∧ Made DSeen.cells 19 124 w.heap.size w' (.slice A' n c') out ∧ (∀ x ∈ out, MineD w.heap.size w' x) ∧ Below w.heap.size w w' := by
  subst hn
  have HA := Lib.hid ha
  have HD := Lib.hid hd
  have HLE := Lib.hid hle
  have HLB := Lib.hid hlb
  clear ha hd hle hlb
  go_enter Try.func26, Try.ntmps26
  go_wp2_with fail
  go_loopw [3, 4] (fun v i wr => ∃ k : Nat, ∃ out A5 c5, k ≤ rows.length ∧ i = .int .i64 k ∧ v = .slice A5 k c5 ∧ Hid (k = out.length) ∧ Hid (out.map DSeen.plain = (rows.take k).map DSeen.plain) ∧ Hid (Made DSeen.cells 19 124 w.heap.size wr (.slice A5 k c5) out) ∧ Hid (∀ x ∈ out, MineD w.heap.size wr x) ∧ Hid (Below w.heap.size w wr)) (fun _ i _ => rows.length - (intOf i).toNat)
  case atStart => exact ⟨0, [], none, 0, by omega, rfl, rfl, rfl, rfl, Made.nil _ _ _, (fun x hx => by simp at hx), Below.refl _ _⟩
  case round =>
    obtain ⟨k, out, A5, c5, hk, rfl, rfl, hol, hpl, hmd, hmi, hbr⟩ := hrel
    obtain ⟨wo, hwo⟩ : ∃ wo, wo = wr := ⟨_, rfl⟩
    subst hwo
    by_cases h1 : k < rows.length
    · obtain ⟨ad, hA, hal, hca⟩ := (HA.out.below hbr.out).at_ h1
      have hnd := (HD.out _ (List.getElem_mem h1)).below hbr.out
      have h48 := HLE.out _ (List.getElem_mem h1)
      have hbt := HLB.out _ (List.getElem_mem h1)
      have hpx : Hid (∀ y : DSeen, y.plain = rows[k].plain → (out ++ [y]).map DSeen.plain = (rows.take (k + 1)).map DSeen.plain) := fun y hy => by
        rw [List.take_succ_eq_append_getElem h1, List.map_append, List.map_append, hpl.out]
        simp [hy]
      have g1 : (k:Int) < (rows.length : Int) := by omega
      have i1 : (0:Int) ≤ (k:Int) := by omega
      have HCA := Lib.hid hca
      have HND := Lib.hid hnd
      cases hA
      clear hca hnd
      generalize rows[k] = x at *
      go_upto_region 6 with (first | (with_reducible refine at_load ?_; go_loud (refine wpList_load_at rfl 124 (.tmp 14) rfl rfl x.s.cells _ HCA.out Try.underlying124 rfl (by kernel_rfl) ?_)) | (with_reducible refine at_store ?_; go_loud (refine wpList_fresh rfl 124 (.tmp 5) (.tmp 15) rfl _ #[.int .i64 x.s.kind, .int .i64 x.s.event, .int .i64 x.s.node, .int .i64 x.s.view, .int .i64 x.s.place, .int .u64 x.s.hi, .int .u64 x.s.lo, .int .i64 x.s.ent.client, .int .i64 x.s.ent.number, .int .i64 x.s.ent.op.kind, .int .i64 x.s.ent.op.slot, .string x.s.ent.op.value, .int .i64 x.s.res.code, .int .i64 x.s.res.slot, .string x.s.res.value, .slice x.s.lA x.s.ln x.s.lc, .int .i64 x.s.frm, .int .i64 x.s.to, .slice x.s.bA x.s.bn x.s.bc] 124 rfl rfl rfl (by kernel_rfl) (one_of encSeen x.s rfl) ?_)))
      obtain ⟨W1, hW1⟩ : ∃ W1, W1 = wo.alloc (.cells #[.int .i64 x.s.kind, .int .i64 x.s.event, .int .i64 x.s.node, .int .i64 x.s.view, .int .i64 x.s.place, .int .u64 x.s.hi, .int .u64 x.s.lo, .int .i64 x.s.ent.client, .int .i64 x.s.ent.number, .int .i64 x.s.ent.op.kind, .int .i64 x.s.ent.op.slot, .string x.s.ent.op.value, .int .i64 x.s.res.code, .int .i64 x.s.res.slot, .string x.s.res.value, .slice x.s.lA x.s.ln x.s.lc, .int .i64 x.s.frm, .int .i64 x.s.to, .slice x.s.bA x.s.bn x.s.bc] 124) := ⟨_, rfl⟩
      have hr1 : W1.heap[wo.heap.size]? = some (.cells #[.int .i64 x.s.kind, .int .i64 x.s.event, .int .i64 x.s.node, .int .i64 x.s.view, .int .i64 x.s.place, .int .u64 x.s.hi, .int .u64 x.s.lo, .int .i64 x.s.ent.client, .int .i64 x.s.ent.number, .int .i64 x.s.ent.op.kind, .int .i64 x.s.ent.op.slot, .string x.s.ent.op.value, .int .i64 x.s.res.code, .int .i64 x.s.res.slot, .string x.s.res.value, .slice x.s.lA x.s.ln x.s.lc, .int .i64 x.s.frm, .int .i64 x.s.to, .slice x.s.bA x.s.bn x.s.bc] 124 (0, 0)) := by rw [hW1]; exact heap_alloc_new _ _
      have hz1 : W1.heap.size = wo.heap.size + 1 := by rw [hW1]; simp
      have hb1 : Below wo.heap.size wo W1 := by rw [hW1]; exact (Below.refl _ _).alloc (Nat.le_refl _) _
      have hsw := hbr.out.size
      have r15 : W1.cell? ⟨wo.heap.size, 15, none⟩ = some (.slice x.s.lA x.s.ln x.s.lc) := cell_of_row _ _ 15 _ _ _ hr1
      have HB1 := Lib.hid hb1
      have HR1 := Lib.hid hr1
      have HZ1 := Lib.hid hz1
      rw [← hW1]
      clear hW1 hb1 hr1 hz1
      go_wp2_with fail
      refine (copyEntries x.s.lA x.s.lc x.s.ln x.log HND.out.ln W1 h48 (((HND.out.log.more hsw).below HB1.out).more (by have := HZ1.out; omega))).mono ?_
      rintro e w2 ⟨A1, c1, rfl, hm2, hb2⟩
      have hr2 : w2.heap[wo.heap.size]? = some (.cells #[.int .i64 x.s.kind, .int .i64 x.s.event, .int .i64 x.s.node, .int .i64 x.s.view, .int .i64 x.s.place, .int .u64 x.s.hi, .int .u64 x.s.lo, .int .i64 x.s.ent.client, .int .i64 x.s.ent.number, .int .i64 x.s.ent.op.kind, .int .i64 x.s.ent.op.slot, .string x.s.ent.op.value, .int .i64 x.s.res.code, .int .i64 x.s.res.slot, .string x.s.res.value, .slice x.s.lA x.s.ln x.s.lc, .int .i64 x.s.frm, .int .i64 x.s.to, .slice x.s.bA x.s.bn x.s.bc] 124 (0, 0)) := (hb2.block _ (by have := HZ1.out; omega)).trans HR1.out
      have HB2 := Lib.hid (HB1.out.trans (hb2.mono (by have := HZ1.out; omega)))
      have HZ2 : Hid (wo.heap.size + 1 ≤ w2.heap.size) := Lib.hid (by have := hb2.size; have := HZ1.out; omega)
      have HM2 := Lib.hid hm2
      have s15 : w2.cell? ⟨wo.heap.size, 15, none⟩ = some (.slice x.s.lA x.s.ln x.s.lc) := cell_of_row _ _ 15 _ _ _ hr2
      have f15 := frozen_of_row w2 wo.heap.size 15 _ _ hr2
      have HR2 := Lib.hid hr2
      clear hm2 hb2 hr2 r15 HB1 HR1
      dsimp only
      go_upto_region 7 with fail
      obtain ⟨W3, hW3⟩ : ∃ W3, W3 = w2.setCell ⟨wo.heap.size, 15, none⟩ (.slice A1 x.s.ln c1) := ⟨_, rfl⟩
      rw [← hW3]
      have hr3 : W3.heap[wo.heap.size]? = some (.cells #[.int .i64 x.s.kind, .int .i64 x.s.event, .int .i64 x.s.node, .int .i64 x.s.view, .int .i64 x.s.place, .int .u64 x.s.hi, .int .u64 x.s.lo, .int .i64 x.s.ent.client, .int .i64 x.s.ent.number, .int .i64 x.s.ent.op.kind, .int .i64 x.s.ent.op.slot, .string x.s.ent.op.value, .int .i64 x.s.res.code, .int .i64 x.s.res.slot, .string x.s.res.value, .slice A1 x.s.ln c1, .int .i64 x.s.frm, .int .i64 x.s.to, .slice x.s.bA x.s.bn x.s.bc] 124 (0, 0)) := by rw [hW3]; exact heap_setCell_same _ _ _ _ _ _ HR2.out
      have HB3 : Hid (Below wo.heap.size wo W3) := Lib.hid (by rw [hW3]; exact HB2.out.setCell (Nat.le_refl _) _)
      have HZ3 : Hid (wo.heap.size + 1 ≤ W3.heap.size) := Lib.hid (by rw [hW3]; simpa using HZ2.out)
      have HM3 : Hid (Made Entry.cells 5 119 W1.heap.size W3 (.slice A1 x.s.ln c1) x.log) := Lib.hid (HM2.out.same fun b hb => by
        rw [hW3]
        exact heap_setCell_other _ _ _ _ (by have := (HM2.out.lt b hb).1; have := HZ1.out; simp only; omega))
      have r16 : W3.cell? ⟨wo.heap.size, 16, none⟩ = some (.int .i64 x.s.frm) := cell_of_row _ _ 16 _ _ _ hr3
      have r17 : W3.cell? ⟨wo.heap.size, 17, none⟩ = some (.int .i64 x.s.to) := cell_of_row _ _ 17 _ _ _ hr3
      have r18 : W3.cell? ⟨wo.heap.size, 18, none⟩ = some (.slice x.s.bA x.s.bn x.s.bc) := cell_of_row _ _ 18 _ _ _ hr3
      have HR3 := Lib.hid hr3
      clear hW3 hr3 s15 f15 HB2 HZ2 HM2 HR2
      go_wp2_with fail
      refine (copyPacket x.s.frm x.s.to x.s.bA x.s.bc x.s.bn x.bytes HND.out.bn W3 hbt (((HND.out.bytes.more hsw).below HB3.out).more (by have := HZ3.out; omega))).mono ?_
      rintro e w4 ⟨A2, c2, rfl, hm4, hb4⟩
      have hr4 : w4.heap[wo.heap.size]? = some (.cells #[.int .i64 x.s.kind, .int .i64 x.s.event, .int .i64 x.s.node, .int .i64 x.s.view, .int .i64 x.s.place, .int .u64 x.s.hi, .int .u64 x.s.lo, .int .i64 x.s.ent.client, .int .i64 x.s.ent.number, .int .i64 x.s.ent.op.kind, .int .i64 x.s.ent.op.slot, .string x.s.ent.op.value, .int .i64 x.s.res.code, .int .i64 x.s.res.slot, .string x.s.res.value, .slice A1 x.s.ln c1, .int .i64 x.s.frm, .int .i64 x.s.to, .slice x.s.bA x.s.bn x.s.bc] 124 (0, 0)) := (hb4.block _ (by have := HZ3.out; omega)).trans HR3.out
      have HB4 := Lib.hid (HB3.out.trans (hb4.mono (by have := HZ3.out; omega)))
      have HZ4 : Hid (wo.heap.size + 1 ≤ w4.heap.size) := Lib.hid (by have := hb4.size; have := HZ3.out; omega)
      have HM4 := Lib.hid hm4
      have HL4 : Hid (Made Entry.cells 5 119 W1.heap.size w4 (.slice A1 x.s.ln c1) x.log) := Lib.hid (HM3.out.below hb4 fun b e => (HM3.out.lt b e).2)
      have s16 : w4.cell? ⟨wo.heap.size, 16, none⟩ = some (.int .i64 x.s.frm) := cell_of_row _ _ 16 _ _ _ hr4
      have s17 : w4.cell? ⟨wo.heap.size, 17, none⟩ = some (.int .i64 x.s.to) := cell_of_row _ _ 17 _ _ _ hr4
      have s18 : w4.cell? ⟨wo.heap.size, 18, none⟩ = some (.slice x.s.bA x.s.bn x.s.bc) := cell_of_row _ _ 18 _ _ _ hr4
      have f16 := frozen_of_row w4 wo.heap.size 16 _ _ hr4
      have f17 := frozen_of_row w4 wo.heap.size 17 _ _ hr4
      have f18 := frozen_of_row w4 wo.heap.size 18 _ _ hr4
      have HR4 := Lib.hid hr4
      clear hm4 hb4 hr4 r16 r17 r18 HB3 HM3 HR3
      dsimp only
      go_upto_region 8 with fail
      obtain ⟨W5, hW5⟩ : ∃ W5, W5 = ((w4.setCell ⟨wo.heap.size, 16, none⟩ (.int .i64 x.s.frm)).setCell ⟨wo.heap.size, 17, none⟩ (.int .i64 x.s.to)).setCell ⟨wo.heap.size, 18, none⟩ (.slice A2 x.s.bn c2) := ⟨_, rfl⟩
      rw [← hW5]
      have hr5 : W5.heap[wo.heap.size]? = some (.cells #[.int .i64 x.s.kind, .int .i64 x.s.event, .int .i64 x.s.node, .int .i64 x.s.view, .int .i64 x.s.place, .int .u64 x.s.hi, .int .u64 x.s.lo, .int .i64 x.s.ent.client, .int .i64 x.s.ent.number, .int .i64 x.s.ent.op.kind, .int .i64 x.s.ent.op.slot, .string x.s.ent.op.value, .int .i64 x.s.res.code, .int .i64 x.s.res.slot, .string x.s.res.value, .slice A1 x.s.ln c1, .int .i64 x.s.frm, .int .i64 x.s.to, .slice A2 x.s.bn c2] 124 (0, 0)) := by rw [hW5]; exact heap_setCell_same _ _ _ _ _ _ (heap_setCell_same _ _ _ _ _ _ (heap_setCell_same _ _ _ _ _ _ HR4.out))
      have HB5 : Hid (Below wo.heap.size wo W5) := Lib.hid (by rw [hW5]; exact ((HB4.out.setCell (Nat.le_refl _) _).setCell (Nat.le_refl _) _).setCell (Nat.le_refl _) _)
      have HZ5 : Hid (wo.heap.size + 1 ≤ W5.heap.size) := Lib.hid (by rw [hW5]; simpa using HZ4.out)
      have hsame : ∀ b, wo.heap.size + 1 ≤ b → W5.heap[b]? = w4.heap[b]? := fun b hb => by
        have h1 : b ≠ wo.heap.size := by omega
        rw [hW5, heap_setCell_other _ _ _ _ h1, heap_setCell_other _ _ _ _ h1, heap_setCell_other _ _ _ _ h1]
      have HX5 : Hid (MineD w.heap.size W5 (x.moved A1 c1 A2 c2)) := Lib.hid
        ⟨(HL4.out.same fun b hb => hsame b (by have := (HL4.out.lt b hb).1; have := HZ1.out; omega)).base' (by have := HZ1.out; omega),
         (HM4.out.same fun b hb => hsame b (by have := (HM4.out.lt b hb).1; have := HZ3.out; omega)).base' (by have := HZ3.out; omega)⟩
      have HAT5 := Lib.hid (at_row18 hr5)
      have HMD5 := Lib.hid (hmd.out.below HB5.out fun b e => (hmd.out.lt b e).2)
      have HMI5 : Hid (∀ y ∈ out, MineD w.heap.size W5 y) := Lib.hid fun y hy => (hmi.out y hy).below HB5.out
      have HBR5 := Lib.hid (hbr.out.trans (HB5.out.mono hsw))
      have HSW := Lib.hid hsw
      have HOL := Lib.hid hol.out
      clear hW5 hr5 hsame s16 s17 s18 f16 f17 f18 HB4 HM4 HL4 HR4 HB5
      go_wp2_with (first | (with_reducible refine at_load ?_; go_loud (refine wpList_load_at rfl 124 (.tmp 5) rfl rfl _ _ HAT5.out Try.underlying124 rfl (by kernel_rfl) ?_)) | (at_builtin; go_loud (refine wpList_app (v := .slice A5 k c5) (xs := out) (ys := [x.moved A1 c1 A2 c2]) rowSeenD encD rfl (.tmp 24) (.tmp 26) rfl w.heap.size rfl (HMD5.out.alloc _) rfl rfl (rd_at encD _ (x.moved A1 c1 A2 c2) #[.int .i64 x.s.kind, .int .i64 x.s.event, .int .i64 x.s.node, .int .i64 x.s.view, .int .i64 x.s.place, .int .u64 x.s.hi, .int .u64 x.s.lo, .int .i64 x.s.ent.client, .int .i64 x.s.ent.number, .int .i64 x.s.ent.op.kind, .int .i64 x.s.ent.op.slot, .string x.s.ent.op.value, .int .i64 x.s.res.code, .int .i64 x.s.res.slot, .string x.s.res.value, .slice A1 x.s.ln c1, .int .i64 x.s.frm, .int .i64 x.s.to, .slice A2 x.s.bn c2] rfl 124 (by simp) (Nat.lt_succ_self _)) (by have := HOL.out; simp only [List.length_singleton]; omega) (by have := HOL.out; unfold maxLen; simp only [List.length_singleton]; omega) (by simp; have := HZ5.out; have := HSW.out; omega) ?_); go_loud (intro v7 w7 hm7 hg7 hat7); go_loud (obtain ⟨A7, c7, rfl, hc7⟩ := hm7.form); go_loud (have hb7 := Below.grown (HBR5.out.alloc HBR5.out.size _) hg7 (by simp; have := HZ5.out; have := HSW.out; omega) (fun q e => (HMD5.out.lt q e).1)); go_loud (have hmi7 := mine_app HMD5.out HMI5.out HX5.out _ hg7); go_loud (have hln7 : (out ++ [x.moved A1 c1 A2 c2]).length = k + 1 := by have := HOL.out; simp; omega); go_loud (rw [hln7] at hm7 hc7); go_loud (rw [hln7]); go_loud (have HM7 := Lib.hid hm7; have HB7 := Lib.hid hb7; have HMI7 := Lib.hid hmi7; have HLN7 := Lib.hid hln7; clear hm7 hb7 hmi7 hln7 hg7 hat7 hc7)))
      go_roundw
      case rel => exact ⟨k + 1, out ++ [x.moved A1 c1 A2 c2], A7, c7, by omega, by go_num, rfl, HLN7.out.symm, hpx.out _ (plain_moved _ _ _ _ _), HM7.out, HMI7.out, HB7.out⟩
      case measure => simp [intOf]; omega
    · have g2 : decide ((k:Int) < (rows.length : Int)) = false := decide_eq_false (by omega)
      have hkk : Hid (k = rows.length) := Lib.hid (by omega)
      go_wp2_with fail
      go_ret
      have hkk := hkk.out
      subst hkk
      exact ⟨A5, c5, out, rfl, hol.out, by rw [hpl.out, List.take_length], hmd.out, hmi.out, hbr.out⟩
end Go.Proofs.Ytmfidhlhcochoaa
