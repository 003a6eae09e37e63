/- amnesiaplain.SameSeen, of rows that read the same lists. Conditions: Go lengths. -/
import Derived.Test.YtmfidhlhcochoaaSeen18
namespace Go.Proofs.Ytmfidhlhcochoaa
open Go.RowKit
set_option linter.unusedVariables false
set_option linter.unusedSimpArgs false

theorem equalIn_draw (d : Nat) (w : World) (a b : Int) : (Op.equalIn (d + 2) 117 (.agg #[.int .u64 a, .int .u64 b]) (.agg #[.int .u64 a, .int .u64 b])).run Try.prog w = .ok true w := by
  rw [show true = (a == a && b == b) by simp]
  refine eqA_of Try.underlying117 (by kernel_rfl) ?_
  refine eqf_cons (by rfl) (by go_simp; rfl) (by go_simp; rfl) (by go_simp) ?_
  exact eqf_last (by rfl) (by go_simp; rfl) (by go_simp; rfl) (by go_simp)
theorem guard_draw : Try.prog.eqGuardType Try.prog.depth 117 = false := by kernel_rfl
theorem neq_draw (a b : Int) (w : World) : (binOp .neq 117 (.agg #[.int .u64 a, .int .u64 b]) (.agg #[.int .u64 a, .int .u64 b])).run Try.prog w = .ok (.bool false) w := by
  rw [run_neq_struct, equalIn_draw 9998]; rfl
theorem plain_eq {x y : DSeen} (h : y.plain = x.plain) : ∃ A1 c1 A2 c2, y = x.moved A1 c1 A2 c2 := by
  obtain ⟨⟨_, _, _, _, _, _, _, _, _, _, _, _, _, _, _, _, _⟩, _, _⟩ := x
  obtain ⟨⟨_, _, _, _, _, _, _, _, _, lA, _, lc, _, _, bA, _, bc⟩, _, _⟩ := y
  simp only [DSeen.plain, DSeen.mk.injEq, Seen.mk.injEq] at h
  refine ⟨lA, lc, bA, bc, ?_⟩
  simp only [DSeen.moved, DSeen.mk.injEq, Seen.mk.injEq]
  simp_all

set_option maxRecDepth 100000 in
set_option maxHeartbeats 8000000 in
theorem sameSeen (A B : Option Addr) (c d n : Nat) (xs ys : List DSeen) (hn : n = xs.length) (hp : ys.map DSeen.plain = xs.map DSeen.plain) (w : World) (hl : (xs.length + 1) * 200 ≤ 140737488355328) (hle : ∀ x ∈ xs, x.log.length * 48 ≤ 140737488355328)
    (ha : Rd DSeen.cells 19 w w.heap.size A xs) (hb : Rd DSeen.cells 19 w w.heap.size B ys) (hda : ∀ x ∈ xs, NestD w w.heap.size x) (hdb : ∀ x ∈ ys, NestD w w.heap.size x) :
    Calls Try.prog 29 #[.slice A n c, .slice B n d] w fun e w' => e = .returned (.bool true) ∧ Below w.heap.size w w' := by
  subst hn
  have hyl : ys.length = xs.length := by have := congrArg List.length hp; simpa using this
  have HYL := Lib.hid hyl
  have HA := Lib.hid ha
  have HB := Lib.hid hb
  have HDA := Lib.hid hda
  have HDB := Lib.hid hdb
  have HLE := Lib.hid hle
  have HP := Lib.hid hp
  clear ha hb hda hdb hle hp hyl
  go_enter Try.func29, Try.ntmps29
  go_wp2_with fail
  go_loopw [5] (fun i wr => ∃ k : Nat, k ≤ xs.length ∧ i = .int .i64 k ∧ Hid (Below w.heap.size w wr)) (fun i _ => xs.length - (intOf i).toNat)
  case atStart => exact ⟨0, by omega, rfl, Below.refl _ _⟩
  case round =>
    obtain ⟨k, hk, rfl, hbr⟩ := hrel
    obtain ⟨wo, hwo⟩ : ∃ wo, wo = wr := ⟨_, rfl⟩
    subst hwo
    by_cases h1 : k < xs.length
    · have h2 : k < ys.length := by have := HYL.out; omega
      obtain ⟨ad, hA, hal, hca⟩ := (HA.out.below hbr.out).at_ h1
      obtain ⟨bd, hB, hbl, hcb⟩ := (HB.out.below hbr.out).at_ h2
      have hnda := (HDA.out _ (List.getElem_mem h1)).below hbr.out
      have hndb := (HDB.out _ (List.getElem_mem h2)).below hbr.out
      have h48 := HLE.out _ (List.getElem_mem h1)
      have hxy : ys[k].plain = xs[k].plain := by
        have h := congrArg (fun l => l[k]?) HP.out
        simpa [List.getElem?_eq_getElem, h1, h2] using h
      obtain ⟨A1, c1, A2, c2, hy⟩ := plain_eq hxy
      rw [hy] at hcb hndb
      have g1 : (k:Int) < (xs.length : Int) := by omega
      have i1 : (0:Int) ≤ (k:Int) := by omega
      have g2 : (k:Int) < (ys.length : Int) := by omega
      have HCA := Lib.hid hca
      have HCB := Lib.hid hcb
      have HNA := Lib.hid hnda
      have HNB := Lib.hid hndb
      cases hA
      cases hB
      clear hca hcb hnda hndb hxy hy g2
      generalize xs[k] = x at *
      go_upto_region 7 with (first | (with_reducible refine at_load ?_; go_loud (refine wpList_load_at rfl 124 (.tmp 21) rfl rfl x.s.cells _ HCA.out Try.underlying124 rfl (by kernel_rfl) ?_)) | (with_reducible refine at_store ?_; go_loud (refine wpList_fresh rfl 124 (.tmp 6) (.tmp 22) rfl _ #[.int .i64 x.s.kind, .int .i64 x.s.event, .int .i64 x.s.node, .int .i64 x.s.view, .int .i64 x.s.place, .int .u64 x.s.hi, .int .u64 x.s.lo, .int .i64 x.s.ent.client, .int .i64 x.s.ent.number, .int .i64 x.s.ent.op.kind, .int .i64 x.s.ent.op.slot, .string x.s.ent.op.value, .int .i64 x.s.res.code, .int .i64 x.s.res.slot, .string x.s.res.value, .slice x.s.lA x.s.ln x.s.lc, .int .i64 x.s.frm, .int .i64 x.s.to, .slice x.s.bA x.s.bn x.s.bc] 124 rfl rfl rfl (by kernel_rfl) (one_of encSeen x.s rfl) ?_)))
      obtain ⟨W1, hW1⟩ : ∃ W1, W1 = wo.alloc (.cells #[.int .i64 x.s.kind, .int .i64 x.s.event, .int .i64 x.s.node, .int .i64 x.s.view, .int .i64 x.s.place, .int .u64 x.s.hi, .int .u64 x.s.lo, .int .i64 x.s.ent.client, .int .i64 x.s.ent.number, .int .i64 x.s.ent.op.kind, .int .i64 x.s.ent.op.slot, .string x.s.ent.op.value, .int .i64 x.s.res.code, .int .i64 x.s.res.slot, .string x.s.res.value, .slice x.s.lA x.s.ln x.s.lc, .int .i64 x.s.frm, .int .i64 x.s.to, .slice x.s.bA x.s.bn x.s.bc] 124) := ⟨_, rfl⟩
      have hr0 : W1.heap[wo.heap.size]? = some (.cells #[.int .i64 x.s.kind, .int .i64 x.s.event, .int .i64 x.s.node, .int .i64 x.s.view, .int .i64 x.s.place, .int .u64 x.s.hi, .int .u64 x.s.lo, .int .i64 x.s.ent.client, .int .i64 x.s.ent.number, .int .i64 x.s.ent.op.kind, .int .i64 x.s.ent.op.slot, .string x.s.ent.op.value, .int .i64 x.s.res.code, .int .i64 x.s.res.slot, .string x.s.res.value, .slice x.s.lA x.s.ln x.s.lc, .int .i64 x.s.frm, .int .i64 x.s.to, .slice x.s.bA x.s.bn x.s.bc] 124 (0, 0)) := by rw [hW1]; exact heap_alloc_new _ _
      have hz1 : W1.heap.size = wo.heap.size + 1 := by rw [hW1]; simp
      have hb1 : Below wo.heap.size wo W1 := by rw [hW1]; exact (Below.refl _ _).alloc (Nat.le_refl _) _
      have hsw := hbr.out.size
      have HB1 := Lib.hid hb1
      have HR0 := Lib.hid hr0
      have HZ1 := Lib.hid hz1
      have hcb1 : At W1 (bd.add (k * 19)) (x.moved A1 c1 A2 c2).cells := fun j u hu => by
        rw [hb1.cell (by rw [block_add, block_add]; omega)]
        exact HCB.out j u hu
      have HCB1 := Lib.hid hcb1
      rw [← hW1]
      clear hW1 hb1 hr0 hz1 hcb1
      go_upto_region 8 with (first | (with_reducible refine at_load ?_; go_loud (refine wpList_load_at rfl 124 (.tmp 25) rfl rfl (x.moved A1 c1 A2 c2).cells _ HCB1.out Try.underlying124 rfl (by kernel_rfl) ?_)) | (with_reducible refine at_store ?_; go_loud (refine wpList_fresh rfl 124 (.tmp 7) (.tmp 26) rfl _ #[.int .i64 x.s.kind, .int .i64 x.s.event, .int .i64 x.s.node, .int .i64 x.s.view, .int .i64 x.s.place, .int .u64 x.s.hi, .int .u64 x.s.lo, .int .i64 x.s.ent.client, .int .i64 x.s.ent.number, .int .i64 x.s.ent.op.kind, .int .i64 x.s.ent.op.slot, .string x.s.ent.op.value, .int .i64 x.s.res.code, .int .i64 x.s.res.slot, .string x.s.res.value, .slice A1 x.s.ln c1, .int .i64 x.s.frm, .int .i64 x.s.to, .slice A2 x.s.bn c2] 124 rfl rfl rfl (by kernel_rfl) (one_of encSeen (x.moved A1 c1 A2 c2).s rfl) ?_)))
      obtain ⟨W2, hW2⟩ : ∃ W2, W2 = W1.alloc (.cells #[.int .i64 x.s.kind, .int .i64 x.s.event, .int .i64 x.s.node, .int .i64 x.s.view, .int .i64 x.s.place, .int .u64 x.s.hi, .int .u64 x.s.lo, .int .i64 x.s.ent.client, .int .i64 x.s.ent.number, .int .i64 x.s.ent.op.kind, .int .i64 x.s.ent.op.slot, .string x.s.ent.op.value, .int .i64 x.s.res.code, .int .i64 x.s.res.slot, .string x.s.res.value, .slice A1 x.s.ln c1, .int .i64 x.s.frm, .int .i64 x.s.to, .slice A2 x.s.bn c2] 124) := ⟨_, rfl⟩
      have hr2 : W2.heap[W1.heap.size]? = some (.cells #[.int .i64 x.s.kind, .int .i64 x.s.event, .int .i64 x.s.node, .int .i64 x.s.view, .int .i64 x.s.place, .int .u64 x.s.hi, .int .u64 x.s.lo, .int .i64 x.s.ent.client, .int .i64 x.s.ent.number, .int .i64 x.s.ent.op.kind, .int .i64 x.s.ent.op.slot, .string x.s.ent.op.value, .int .i64 x.s.res.code, .int .i64 x.s.res.slot, .string x.s.res.value, .slice A1 x.s.ln c1, .int .i64 x.s.frm, .int .i64 x.s.to, .slice A2 x.s.bn c2] 124 (0, 0)) := by rw [hW2]; exact heap_alloc_new _ _
      rw [HZ1.out] at hr2
      have hz2 : W2.heap.size = wo.heap.size + 2 := by rw [hW2]; simp; have := HZ1.out; omega
      have hb2 : Below W1.heap.size W1 W2 := by rw [hW2]; exact (Below.refl _ _).alloc (Nat.le_refl _) _
      have hr1 : W2.heap[wo.heap.size]? = some (.cells #[.int .i64 x.s.kind, .int .i64 x.s.event, .int .i64 x.s.node, .int .i64 x.s.view, .int .i64 x.s.place, .int .u64 x.s.hi, .int .u64 x.s.lo, .int .i64 x.s.ent.client, .int .i64 x.s.ent.number, .int .i64 x.s.ent.op.kind, .int .i64 x.s.ent.op.slot, .string x.s.ent.op.value, .int .i64 x.s.res.code, .int .i64 x.s.res.slot, .string x.s.res.value, .slice x.s.lA x.s.ln x.s.lc, .int .i64 x.s.frm, .int .i64 x.s.to, .slice x.s.bA x.s.bn x.s.bc] 124 (0, 0)) := (hb2.block _ (by have := HZ1.out; omega)).trans HR0.out
      have HB2 := Lib.hid (HB1.out.trans (hb2.mono (by have := HZ1.out; omega)))
      have a0 : W2.cell? ⟨wo.heap.size, 0, none⟩ = some (.int .i64 x.s.kind) := cell_of_row _ _ 0 _ _ _ hr1
      have a1 : W2.cell? ⟨wo.heap.size, 1, none⟩ = some (.int .i64 x.s.event) := cell_of_row _ _ 1 _ _ _ hr1
      have a2 : W2.cell? ⟨wo.heap.size, 2, none⟩ = some (.int .i64 x.s.node) := cell_of_row _ _ 2 _ _ _ hr1
      have a3 : W2.cell? ⟨wo.heap.size, 3, none⟩ = some (.int .i64 x.s.view) := cell_of_row _ _ 3 _ _ _ hr1
      have a4 : W2.cell? ⟨wo.heap.size, 4, none⟩ = some (.int .i64 x.s.place) := cell_of_row _ _ 4 _ _ _ hr1
      have a5 : W2.cell? ⟨wo.heap.size, 5, none⟩ = some (.int .u64 x.s.hi) := cell_of_row _ _ 5 _ _ _ hr1
      have a6 : W2.cell? ⟨wo.heap.size, 6, none⟩ = some (.int .u64 x.s.lo) := cell_of_row _ _ 6 _ _ _ hr1
      have a7 : W2.cell? ⟨wo.heap.size, 7, none⟩ = some (.int .i64 x.s.ent.client) := cell_of_row _ _ 7 _ _ _ hr1
      have a8 : W2.cell? ⟨wo.heap.size, 8, none⟩ = some (.int .i64 x.s.ent.number) := cell_of_row _ _ 8 _ _ _ hr1
      have a9 : W2.cell? ⟨wo.heap.size, 9, none⟩ = some (.int .i64 x.s.ent.op.kind) := cell_of_row _ _ 9 _ _ _ hr1
      have a10 : W2.cell? ⟨wo.heap.size, 10, none⟩ = some (.int .i64 x.s.ent.op.slot) := cell_of_row _ _ 10 _ _ _ hr1
      have a11 : W2.cell? ⟨wo.heap.size, 11, none⟩ = some (.string x.s.ent.op.value) := cell_of_row _ _ 11 _ _ _ hr1
      have a12 : W2.cell? ⟨wo.heap.size, 12, none⟩ = some (.int .i64 x.s.res.code) := cell_of_row _ _ 12 _ _ _ hr1
      have a13 : W2.cell? ⟨wo.heap.size, 13, none⟩ = some (.int .i64 x.s.res.slot) := cell_of_row _ _ 13 _ _ _ hr1
      have a14 : W2.cell? ⟨wo.heap.size, 14, none⟩ = some (.string x.s.res.value) := cell_of_row _ _ 14 _ _ _ hr1
      have a15 : W2.cell? ⟨wo.heap.size, 15, none⟩ = some (.slice x.s.lA x.s.ln x.s.lc) := cell_of_row _ _ 15 _ _ _ hr1
      have a16 : W2.cell? ⟨wo.heap.size, 16, none⟩ = some (.int .i64 x.s.frm) := cell_of_row _ _ 16 _ _ _ hr1
      have a17 : W2.cell? ⟨wo.heap.size, 17, none⟩ = some (.int .i64 x.s.to) := cell_of_row _ _ 17 _ _ _ hr1
      have a18 : W2.cell? ⟨wo.heap.size, 18, none⟩ = some (.slice x.s.bA x.s.bn x.s.bc) := cell_of_row _ _ 18 _ _ _ hr1
      have b0 : W2.cell? ⟨wo.heap.size + 1, 0, none⟩ = some (.int .i64 x.s.kind) := cell_of_row _ _ 0 _ _ _ hr2
      have b1 : W2.cell? ⟨wo.heap.size + 1, 1, none⟩ = some (.int .i64 x.s.event) := cell_of_row _ _ 1 _ _ _ hr2
      have b2 : W2.cell? ⟨wo.heap.size + 1, 2, none⟩ = some (.int .i64 x.s.node) := cell_of_row _ _ 2 _ _ _ hr2
      have b3 : W2.cell? ⟨wo.heap.size + 1, 3, none⟩ = some (.int .i64 x.s.view) := cell_of_row _ _ 3 _ _ _ hr2
      have b4 : W2.cell? ⟨wo.heap.size + 1, 4, none⟩ = some (.int .i64 x.s.place) := cell_of_row _ _ 4 _ _ _ hr2
      have b5 : W2.cell? ⟨wo.heap.size + 1, 5, none⟩ = some (.int .u64 x.s.hi) := cell_of_row _ _ 5 _ _ _ hr2
      have b6 : W2.cell? ⟨wo.heap.size + 1, 6, none⟩ = some (.int .u64 x.s.lo) := cell_of_row _ _ 6 _ _ _ hr2
      have b7 : W2.cell? ⟨wo.heap.size + 1, 7, none⟩ = some (.int .i64 x.s.ent.client) := cell_of_row _ _ 7 _ _ _ hr2
      have b8 : W2.cell? ⟨wo.heap.size + 1, 8, none⟩ = some (.int .i64 x.s.ent.number) := cell_of_row _ _ 8 _ _ _ hr2
      have b9 : W2.cell? ⟨wo.heap.size + 1, 9, none⟩ = some (.int .i64 x.s.ent.op.kind) := cell_of_row _ _ 9 _ _ _ hr2
      have b10 : W2.cell? ⟨wo.heap.size + 1, 10, none⟩ = some (.int .i64 x.s.ent.op.slot) := cell_of_row _ _ 10 _ _ _ hr2
      have b11 : W2.cell? ⟨wo.heap.size + 1, 11, none⟩ = some (.string x.s.ent.op.value) := cell_of_row _ _ 11 _ _ _ hr2
      have b12 : W2.cell? ⟨wo.heap.size + 1, 12, none⟩ = some (.int .i64 x.s.res.code) := cell_of_row _ _ 12 _ _ _ hr2
      have b13 : W2.cell? ⟨wo.heap.size + 1, 13, none⟩ = some (.int .i64 x.s.res.slot) := cell_of_row _ _ 13 _ _ _ hr2
      have b14 : W2.cell? ⟨wo.heap.size + 1, 14, none⟩ = some (.string x.s.res.value) := cell_of_row _ _ 14 _ _ _ hr2
      have b15 : W2.cell? ⟨wo.heap.size + 1, 15, none⟩ = some (.slice A1 x.s.ln c1) := cell_of_row _ _ 15 _ _ _ hr2
      have b16 : W2.cell? ⟨wo.heap.size + 1, 16, none⟩ = some (.int .i64 x.s.frm) := cell_of_row _ _ 16 _ _ _ hr2
      have b17 : W2.cell? ⟨wo.heap.size + 1, 17, none⟩ = some (.int .i64 x.s.to) := cell_of_row _ _ 17 _ _ _ hr2
      have b18 : W2.cell? ⟨wo.heap.size + 1, 18, none⟩ = some (.slice A2 x.s.bn c2) := cell_of_row _ _ 18 _ _ _ hr2
      have HNA2 := Lib.hid (((HNA.out.more hsw).below HB2.out).more (by omega : wo.heap.size ≤ W2.heap.size))
      have HNB2 := Lib.hid (((HNB.out.more hsw).below HB2.out).more (by omega : wo.heap.size ≤ W2.heap.size))
      have HBR2 := Lib.hid (hbr.out.trans (HB2.out.mono hsw))
      rw [← hW2, HZ1.out]
      have hne := neq_entry x.s.ent x.s.ent
      have hnr := neq_res x.s.res x.s.res
      have hnd := neq_draw x.s.hi x.s.lo
      simp only [decide_true, Bool.not_true] at hne hnr
      have gge := guard_entry
      have ggr := guard_res
      have ggd := guard_draw
      clear hW2 hb2 hr1 hr2 hz2 hsw HCA HCB HCB1 HB1 HR0 HZ1 HB2
      go_wp2_with fail
      have hal2 := HNA2.out.log
      refine (sameTrue x.s.lA A1 x.s.lc c1 x.s.ln x.log HNA2.out.ln W2 (by omega) HNA2.out.log HNB2.out.log).mono ?_
      rintro e w3 ⟨rfl, q, rfl⟩
      clear hal2 gge ggr ggd hne hnr hnd
      dsimp only
      go_wp2_with fail
      refine (sameBytes x.s.bA A2 x.s.bc c2 x.s.bn x.bytes HNA2.out.bn (W2.drewN q) ((HNA2.out.bytes.drewN q).more (by simp)) ((HNB2.out.bytes.drewN q).more (by simp))).mono ?_
      rintro e w4 ⟨rfl, rfl⟩
      dsimp only
      go_wp2_with fail
      go_roundw
      case rel => exact ⟨k + 1, by omega, by go_num, below_drewN HBR2.out _⟩
      case measure => simp [intOf]; omega
    · have g2 : decide ((k:Int) < (xs.length : Int)) = false := decide_eq_false (by omega)
      go_wp2_with fail
      go_ret
      exact ⟨rfl, hbr.out⟩
end Go.Proofs.Ytmfidhlhcochoaa
