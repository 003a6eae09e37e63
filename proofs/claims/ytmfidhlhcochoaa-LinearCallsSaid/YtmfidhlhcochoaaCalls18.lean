/- linear.Calls answers callsL. Conditions: Go lengths. -/
import Derived.Test.YtmfidhlhcochoaaCallsPlain
import Derived.Test.YtmfidhlhcochoaaAppX
import Derived.Test.YtmfidhlhcochoaaLocal18
namespace Go.Proofs.Ytmfidhlhcochoaa
open Go.RowKit
set_option linter.unusedVariables false
set_option linter.unusedSimpArgs false

theorem rowSeen : RowT Try.prog 68 124 19 200 := RowT.of (z := .agg #[.int .i64 0, .int .i64 0, .int .i64 0, .int .i64 0, .int .i64 0, .int .u64 0, .int .u64 0, .int .i64 0, .int .i64 0, .int .i64 0, .int .i64 0, .string ⟨#[]⟩, .int .i64 0, .int .i64 0, .string ⟨#[]⟩, .slice none 0 0, .int .i64 0, .int .i64 0, .slice none 0 0]) Try.underlying68 (by kernel_rfl) rfl (by omega)
def CallsPost (rows : List Seen) (w : World) (e : Ending) (w' : World) : Prop :=
  ∃ A' c', e = .returned (.tuple #[.slice A' (callsL rows).1.length c', .int .i64 (callsL rows).2]) ∧ Rd Call.cells 10 w' w'.heap.size A' (callsL rows).1 ∧ Below w.heap.size w w'
theorem callsW_six {i : Nat} {l : List Call} {r : Seen} {rs : List Seen} (h1 : r.kind ≠ 1) (h6 : r.kind = 6) : callsW i l (r :: rs) = match placeC l (r.ent.client, r.ent.number) with
      | none => ([], 160)
      | some k => if 0 ≤ (l[k]?.map (·.fin)).getD 0 then ([], 160) else callsW (i + 1) (l.modify k fun x => { x with fin := i, res := r.res }) rs := by
  simp only [callsW]; rw [if_neg h1, if_pos h6]; rfl
theorem modify_set {l : List Call} {k : Nat} (h : k < l.length) (f : Call → Call) : l.modify k f = l.set k (f l[k]) := by
  refine List.ext_getElem (by simp) fun i h1 h2 => ?_
  rw [List.getElem_modify, List.getElem_set]
  by_cases e : k = i
  · subst e; simp
  · simp [e]

set_option maxRecDepth 100000 in
set_option maxHeartbeats 8000000 in
theorem calls_prog (A : Option Addr) (c n : Nat) (rows : List Seen) (hn : n = rows.length) (w : World) (hl : (rows.length + 1) * 96 ≤ 140737488355328) (hv : ∀ x ∈ rows, x.ent.op.value.size ≤ 9223372036854775807) (ha : Rd Seen.cells 19 w w.heap.size A rows) :
    Calls Try.prog 27 #[.slice A n c] w (CallsPost rows w) := by
  subst hn
  obtain ⟨T0, hT0⟩ : ∃ T0 : Ending → World → Prop, T0 = CallsPost rows w := ⟨_, rfl⟩
  rw [← hT0]
  have HT0 := Lib.hid hT0
  have HA := Lib.hid ha
  have HV := Lib.hid hv
  clear ha hv hT0
  have hmm := @run_makeMap Try.prog
  have hm0 : MapK ekReq evInt (w.alloc (.map #[] 0)) w.heap.size ([] : List ((Int × Int) × Int)) := MapK.new w
  have hb0 : Below w.heap.size w (w.alloc (.map #[] 0)) := (Below.refl _ _).alloc (Nat.le_refl _) _
  have HM0 := Lib.hid hm0
  have HB0 := Lib.hid hb0
  clear hm0 hb0
  go_enter Try.func27, Try.ntmps27
  go_wp2_with fail
  go_loopw [13, 5] (fun i v wr => ∃ k : Nat, ∃ out ps A5 c5, k ≤ rows.length ∧ i = .int .i64 k ∧ v = .slice A5 out.length c5 ∧ Hid (callsL rows = callsW k out (rows.drop k)) ∧ Hid (HaveP ps out) ∧ Hid (out.length ≤ k) ∧ Hid (MapK ekReq evInt wr w.heap.size ps) ∧ Hid (Made Call.cells 10 45 (w.heap.size + 1) wr (.slice A5 out.length c5) out) ∧ Hid (Below w.heap.size w wr)) (fun i _ _ => rows.length - (intOf i).toNat)
  case atStart => exact ⟨0, [], [], none, 0, by omega, rfl, rfl, rfl, HaveP.nil, Nat.le_refl _, HM0.out, Made.nil _ _ _, HB0.out⟩
  case round =>
    obtain ⟨k, out, ps, A5, c5, hk, rfl, rfl, hcw, hhv, hol, hmk, hmd, hbr⟩ := hrel
    obtain ⟨wo, hwo⟩ : ∃ wo, wo = wr := ⟨_, rfl⟩
    subst hwo
    by_cases h1 : k < rows.length
    · obtain ⟨ad, hA, hal, hca⟩ := (HA.out.below hbr.out).at_ h1
      have g1 : (k:Int) < (rows.length : Int) := by omega
      have i1 : (0:Int) ≤ (k:Int) := by omega
      have hcw2 := hcw.out
      rw [List.drop_eq_getElem_cons h1] at hcw2
      have HCW := Lib.hid hcw2
      have hvx := HV.out _ (List.getElem_mem h1)
      have HCA := Lib.hid hca
      cases hA
      clear hca hcw hcw2
      generalize rows[k] = x at *
      go_upto_region 6 with (first | (with_reducible refine at_load ?_; go_loud (refine wpList_load_at rfl 124 (.tmp 16) rfl rfl x.cells _ HCA.out Try.underlying124 rfl (by kernel_rfl) ?_)) | (with_reducible refine at_store ?_; go_loud (refine wpList_fresh rfl 124 (.tmp 7) (.tmp 17) rfl _ #[.int .i64 x.kind, .int .i64 x.event, .int .i64 x.node, .int .i64 x.view, .int .i64 x.place, .int .u64 x.hi, .int .u64 x.lo, .int .i64 x.ent.client, .int .i64 x.ent.number, .int .i64 x.ent.op.kind, .int .i64 x.ent.op.slot, .string x.ent.op.value, .int .i64 x.res.code, .int .i64 x.res.slot, .string x.res.value, .slice x.lA x.ln x.lc, .int .i64 x.frm, .int .i64 x.to, .slice x.bA x.bn x.bc] 124 rfl rfl rfl (by kernel_rfl) (one_of encSeen x rfl) ?_)))
      -- the copy of the row, and its request
      obtain ⟨W1, hW1⟩ : ∃ W1, W1 = wo.alloc (.cells #[.int .i64 x.kind, .int .i64 x.event, .int .i64 x.node, .int .i64 x.view, .int .i64 x.place, .int .u64 x.hi, .int .u64 x.lo, .int .i64 x.ent.client, .int .i64 x.ent.number, .int .i64 x.ent.op.kind, .int .i64 x.ent.op.slot, .string x.ent.op.value, .int .i64 x.res.code, .int .i64 x.res.slot, .string x.res.value, .slice x.lA x.ln x.lc, .int .i64 x.frm, .int .i64 x.to, .slice x.bA x.bn x.bc] 124) := ⟨_, rfl⟩
      have hr1 : W1.heap[wo.heap.size]? = some (.cells #[.int .i64 x.kind, .int .i64 x.event, .int .i64 x.node, .int .i64 x.view, .int .i64 x.place, .int .u64 x.hi, .int .u64 x.lo, .int .i64 x.ent.client, .int .i64 x.ent.number, .int .i64 x.ent.op.kind, .int .i64 x.ent.op.slot, .string x.ent.op.value, .int .i64 x.res.code, .int .i64 x.res.slot, .string x.res.value, .slice x.lA x.ln x.lc, .int .i64 x.frm, .int .i64 x.to, .slice x.bA x.bn x.bc] 124 (0, 0)) := by rw [hW1]; exact heap_alloc_new _ _
      have hz1 : W1.heap.size = wo.heap.size + 1 := by rw [hW1]; simp
      have hb1 : Below wo.heap.size wo W1 := by rw [hW1]; exact (Below.refl _ _).alloc (Nat.le_refl _) _
      have r7 : W1.cell? ⟨wo.heap.size, 7, none⟩ = some (.int .i64 x.ent.client) := cell_of_row _ _ 7 _ _ _ hr1
      have r8 : W1.cell? ⟨wo.heap.size, 8, none⟩ = some (.int .i64 x.ent.number) := cell_of_row _ _ 8 _ _ _ hr1
      rw [← hW1]
      clear hW1
      go_upto_region 7 with fail
      obtain ⟨W2, hW2⟩ : ∃ W2, W2 = W1.alloc (.cells #[.int .i64 x.ent.client, .int .i64 x.ent.number] 110) := ⟨_, rfl⟩
      have hr2 : W2.heap[W1.heap.size]? = some (.cells #[.int .i64 x.ent.client, .int .i64 x.ent.number] 110 (0, 0)) := by rw [hW2]; exact heap_alloc_new _ _
      rw [hz1] at hr2
      have hz2 : W2.heap.size = W1.heap.size + 1 := by rw [hW2]; simp
      have hb2 : Below W1.heap.size W1 W2 := by rw [hW2]; exact (Below.refl _ _).alloc (Nat.le_refl _) _
      have hr12 : W2.heap[wo.heap.size]? = some (.cells #[.int .i64 x.kind, .int .i64 x.event, .int .i64 x.node, .int .i64 x.view, .int .i64 x.place, .int .u64 x.hi, .int .u64 x.lo, .int .i64 x.ent.client, .int .i64 x.ent.number, .int .i64 x.ent.op.kind, .int .i64 x.ent.op.slot, .string x.ent.op.value, .int .i64 x.res.code, .int .i64 x.res.slot, .string x.res.value, .slice x.lA x.ln x.lc, .int .i64 x.frm, .int .i64 x.to, .slice x.bA x.bn x.bc] 124 (0, 0)) := (hb2.block _ (by omega)).trans hr1
      have hb12 : Below wo.heap.size wo W2 := hb1.trans (hb2.mono (by omega))
      have hmw : w.heap.size < wo.heap.size := hmk.out.lt
      have HB2 := Lib.hid (hbr.out.trans (hb12.mono hbr.out.size))
      have HMK := Lib.hid (hmk.out.same (hb12.block _ hmw) : MapK ekReq evInt W2 w.heap.size ps)
      have HMD := Lib.hid (hmd.out.below hb12 (fun b e => (hmd.out.lt b e).2))
      have HR2 := Lib.hid hr2
      have HR12 := Lib.hid hr12
      have q0 : W2.cell? ⟨wo.heap.size, 0, none⟩ = some (.int .i64 x.kind) := cell_of_row _ _ 0 _ _ _ hr12
      have q9 : W2.cell? ⟨wo.heap.size, 9, none⟩ = some (.int .i64 x.ent.op.kind) := cell_of_row _ _ 9 _ _ _ hr12
      have q10 : W2.cell? ⟨wo.heap.size, 10, none⟩ = some (.int .i64 x.ent.op.slot) := cell_of_row _ _ 10 _ _ _ hr12
      have q11 : W2.cell? ⟨wo.heap.size, 11, none⟩ = some (.string x.ent.op.value) := cell_of_row _ _ 11 _ _ _ hr12
      have p0 : W2.cell? ⟨wo.heap.size + 1, 0, none⟩ = some (.int .i64 x.ent.client) := cell_of_row _ _ 0 _ _ _ hr2
      have p1 : W2.cell? ⟨wo.heap.size + 1, 1, none⟩ = some (.int .i64 x.ent.number) := cell_of_row _ _ 1 _ _ _ hr2
      have HLT : Hid (wo.heap.size < W2.heap.size ∧ wo.heap.size + 1 < W2.heap.size) := ⟨by omega, by omega⟩
      rw [← hW2]
      clear hW2 hr2 hr12 hb2 hb12 hb1 hr1 r7 r8 hmk hmd hz1 hz2
      by_cases h1k : x.kind = 1
      · have k11 : decide (x.kind = 1) = true := decide_eq_true h1k
        have k12 : (x.kind == 1) = true := by simpa using h1k
        have hcc : callsL rows = if mayC x.ent.client x.ent.number x.ent.op = false then ([], 180) else if (placeC out (x.ent.client, x.ent.number)).isSome = true then ([], 160) else callsW (k + 1) (out ++ [newC x.ent k]) (rows.drop (k + 1)) := by rw [HCW.out]; simp only [callsW]; rw [if_pos h1k]
        have HCC := Lib.hid hcc
        clear h1k hcc
        go_wp2_with fail
        refine (may_prog x.ent.client x.ent.number x.ent.op hvx W2).mono ?_
        rintro e w3 ⟨rfl, hb3⟩
        have HB3 := Lib.hid (HB2.out.trans (hb3.mono HB2.out.size))
        have hr3 := (hb3.block _ HLT.out.2).trans HR2.out
        have hr13 := (hb3.block _ HLT.out.1).trans HR12.out
        have HMK3 := Lib.hid (HMK.out.same (hb3.block _ HMK.out.lt))
        have HMD3 := Lib.hid (HMD.out.below hb3 (fun b e => (HMD.out.lt b e).2))
        have u0 : w3.cell? ⟨wo.heap.size + 1, 0, none⟩ = some (.int .i64 x.ent.client) := cell_of_row _ _ 0 _ _ _ hr3
        have u1 : w3.cell? ⟨wo.heap.size + 1, 1, none⟩ = some (.int .i64 x.ent.number) := cell_of_row _ _ 1 _ _ _ hr3
        have u9 : w3.cell? ⟨wo.heap.size, 9, none⟩ = some (.int .i64 x.ent.op.kind) := cell_of_row _ _ 9 _ _ _ hr13
        have u10 : w3.cell? ⟨wo.heap.size, 10, none⟩ = some (.int .i64 x.ent.op.slot) := cell_of_row _ _ 10 _ _ _ hr13
        have u11 : w3.cell? ⟨wo.heap.size, 11, none⟩ = some (.string x.ent.op.value) := cell_of_row _ _ 11 _ _ _ hr13
        have hlk := HMK3.out.lookup keyReq Try.underlying108 (zeroI w3) (x.ent.client, x.ent.number)
        have HR3 := Lib.hid hr3
        have HLT3 : Hid (wo.heap.size + 1 < w3.heap.size) := Nat.lt_of_lt_of_le HLT.out.2 hb3.size
        clear hb3 hr3 hr13 p0 p1 q0 q9 q10 q11
        cases hmay : mayC x.ent.client x.ent.number x.ent.op
        · have hend : callsL rows = ([], 180) := by rw [HCC.out, hmay]; rfl
          have HEND := Lib.hid hend
          clear hmay hend hlk
          dsimp only
          go_wp2_with fail
          rw [HT0.out]
          refine ⟨none, 0, ?_, ?_, HB3.out⟩
          · rw [HEND.out]; rfl
          · rw [HEND.out]; exact Rd.nil
        · have hcc := HCC.out
          rw [hmay, if_neg (by simp)] at hcc
          have HC2 := Lib.hid hcc
          clear hmay hcc
          cases hlo : lookK ps (x.ent.client, x.ent.number) with
          | some v =>
            rw [hlo] at hlk
            simp only [Option.map_some, Option.getD_some, evInt, ekReq] at hlk
            obtain ⟨j, hj, hpl, hvj⟩ := hhv.out.place_some hlo
            have hv1 : decide (0 < v) = true := decide_eq_true (by omega)
            have hend : callsL rows = ([], 160) := by rw [HC2.out, hpl]; rfl
            have HEND := Lib.hid hend
            clear hlo hpl hvj hend
            dsimp only
            go_wp2_with fail
            rw [HT0.out]
            refine ⟨none, 0, ?_, ?_, HB3.out⟩
            · rw [HEND.out]; rfl
            · rw [HEND.out]; exact Rd.nil
          | none =>
            rw [hlo] at hlk
            simp only [Option.map_none, Option.getD_none, ekReq] at hlk
            have hnx : callsL rows = callsW (k + 1) (out ++ [newC x.ent k]) (rows.drop (k + 1)) := by rw [HC2.out, hhv.out.place_none hlo]; rfl
            have HNX := Lib.hid hnx
            have HHV2 := Lib.hid (hhv.out.snoc (x := newC x.ent k) hlo)
            have hwl : IntKind.i64.wrap ((out.length : Int) + 1) = (out.length : Int) + 1 := IntWalk.i64_in _ (by have := hol.out; omega)
            have HOLK := Lib.hid hol.out
            have hz3 : Hid (w.heap.size + 1 ≤ w3.heap.size) := by show _ ≤ _; have := HMK3.out.lt; omega
            clear hlo hnx
            dsimp only
            go_upto_region 14 with (at_builtin; go_loud (refine wpList_app (v := .slice A5 out.length c5) (xs := out) (ys := [newC x.ent k]) rowCall encCall rfl (.tmp 42) (.tmp 52) rfl (w.heap.size + 1) rfl (HMD3.out.alloc _) rfl rfl (rd_at encCall _ (newC x.ent k) #[.int .i64 x.ent.client, .int .i64 x.ent.number, .int .i64 x.ent.op.kind, .int .i64 x.ent.op.slot, .string x.ent.op.value, .int .i64 (k : Nat), .int .i64 (-1), .int .i64 0, .int .i64 0, .string ⟨#[]⟩] rfl 45 (by simp) (Nat.lt_succ_self _)) (by have := HOLK.out; simp only [List.length_singleton]; omega) (by have := HOLK.out; unfold maxLen; simp only [List.length_singleton]; omega) (by simp; have := hz3.out; omega) ?_); go_loud (intro v7 w7 hm7 hg7 hat7); go_loud (obtain ⟨A7, c7, rfl, hc7⟩ := hm7.form); go_loud (have hg7b := Below.grown (HB3.out.alloc HB3.out.size _) hg7 (by simp; have := HB3.out.size; omega) (fun q e => by have := (HMD3.out.lt q e).1; omega)); go_loud (have hmk7 : MapK ekReq evInt w7 w.heap.size ps := HMK3.out.same ((hg7.block _ (by simp; have := HMK3.out.lt; omega) (fun e => by have := (HMD3.out.lt _ e.symm).1; omega)).trans (heap_alloc_old _ _ HMK3.out.lt))); go_loud (have hr7 := (hg7.block (wo.heap.size + 1) (by simp; have := HLT3.out; omega) (fun e => by obtain ⟨cs, q⟩ := HMD3.out.cell_block e.symm; rw [HR3.out] at q; cases q)).trans ((heap_alloc_old _ _ HLT3.out).trans HR3.out)); go_loud (have hln7 : (out ++ [newC x.ent k]).length = out.length + 1 := by simp); go_loud (rw [hln7]); go_loud (have HM7 := Lib.hid hm7; have HB7 := Lib.hid hg7b; have HMK7 := Lib.hid hmk7; have HR7 := Lib.hid hr7); go_loud (clear hm7 hg7 hat7 hc7 hg7b hmk7 hr7 hln7))
            have t0 : w7.cell? ⟨wo.heap.size + 1, 0, none⟩ = some (.int .i64 x.ent.client) := cell_of_row _ _ 0 _ _ _ HR7.out
            have t1 : w7.cell? ⟨wo.heap.size + 1, 1, none⟩ = some (.int .i64 x.ent.number) := cell_of_row _ _ 1 _ _ _ HR7.out
            clear u0 u1 u9 u10 u11 hlk
            go_wp2_with (at_mapUpdate; go_loud (refine wpList_updateK (ev := evInt) HMK7.out keyReq rfl _ _ _ rfl Try.underlying108 rfl (x.ent.client, x.ent.number) rfl ((out.length : Int) + 1) rfl ?_); go_loud (intro w8 hm8 hg8 hs8); go_loud (have HM8 := Lib.hid hm8; have hb8 := HB7.out.grown hg8 HB7.out.size (fun b e => by cases e; exact Nat.le_refl _)); go_loud (have hmd8 := HM7.out.same (fun b e => hg8.block b (HM7.out.lt b e).2 (fun q => by have := (HM7.out.lt b e).1; injection q with q; omega))); go_loud (have HB8 := Lib.hid hb8; have HMD8 := Lib.hid hmd8; clear hm8 hg8 hb8 hmd8))
            go_roundw
            case rel => exact ⟨k + 1, out ++ [newC x.ent k], _, A7, c7, by omega, by go_num, by rw [List.length_append]; rfl, HNX.out, HHV2.out, by show _ ≤ _; have := hol.out; simp; omega, HM8.out, HMD8.out, HB8.out⟩
            case measure => simp [intOf]; omega
      · have k11 : decide (x.kind = 1) = false := decide_eq_false h1k
        have k12 : (x.kind == 1) = false := by simpa using h1k
        by_cases h6k : x.kind = 6
        · have k61 : decide (x.kind = 6) = true := decide_eq_true h6k
          have k62 : (x.kind == 6) = true := by simpa using h6k
          have hcc := HCW.out.trans (callsW_six h1k h6k)
          have HCC := Lib.hid hcc
          have hlk := HMK.out.lookup keyReq Try.underlying108 (zeroI W2) (x.ent.client, x.ent.number)
          clear h1k h6k hcc
          cases hlo : lookK ps (x.ent.client, x.ent.number) with
          | none =>
            rw [hlo] at hlk
            simp only [Option.map_none, Option.getD_none, ekReq] at hlk
            have hend : callsL rows = ([], 160) := by rw [HCC.out, hhv.out.place_none hlo]
            have HEND := Lib.hid hend
            clear hlo hend
            go_wp2_with fail
            rw [HT0.out]
            refine ⟨none, 0, ?_, ?_, HB2.out⟩
            · rw [HEND.out]; rfl
            · rw [HEND.out]; exact Rd.nil
          | some v =>
            rw [hlo] at hlk
            simp only [Option.map_some, Option.getD_some, evInt, ekReq] at hlk
            obtain ⟨j, hj, hpl, hvj⟩ := hhv.out.place_some hlo
            have hcc := HCC.out
            rw [hpl] at hcc
            simp only [List.getElem?_eq_getElem hj, Option.map_some, Option.getD_some] at hcc
            have HC2 := Lib.hid hcc
            have hv0 : (v == 0) = false := by simp; omega
            have hv1 : decide (v = 0) = false := decide_eq_false (by omega)
            have hvw : IntKind.i64.wrap (v - 1) = (j:Int) := by rw [IntWalk.i64_in _ (by have := hol.out; omega)]; omega
            have gj : (j:Int) < (out.length : Int) := by omega
            have ij : (0:Int) ≤ (j:Int) := by omega
            -- the row of calls: its block
            have hm := HMD.out
            obtain ⟨gx, hgx⟩ : ∃ gx, A5 = some ⟨gx, 0, none⟩ := by
              rcases hm.2 with ⟨hv, hn⟩ | ⟨g, cap, cur, hv, _⟩
              · omega
              · injection hv with q1 q2 q3; exact ⟨g, q1⟩
            subst hgx
            obtain ⟨cs, hcs⟩ := hm.cell_block (b := gx) rfl
            obtain ⟨bd, hBd, _, hcb⟩ := (Made.rd' encCall.len hm).at_ hj
            cases hBd
            have hce : ∀ i u, (out[j]).cells[i]? = some u → W2.cell? ⟨gx, j * 10 + i, none⟩ = some u := fun i u hu => by
              refine Eq.trans ?_ (hcb i u hu)
              congr 1
              unfold Addr.add
              repeat' split
              all_goals simp_all
              all_goals omega
            have hfz : ∀ i, W2.frozen? ⟨gx, i, none⟩ = false := fun i => frozen_of_row _ _ _ _ _ hcs
            have hgw : w.heap.size ≤ gx := by have := (hm.lt gx rfl).1; omega
            have hgne : gx ≠ wo.heap.size := fun e => by subst e; rw [HR12.out] at hcs; cases hcs
            have hgne2 : gx ≠ w.heap.size := by have := (hm.lt gx rfl).1; omega
            obtain ⟨y, hy⟩ : ∃ y, y = out[j] := ⟨_, rfl⟩
            rw [← hy] at hce HC2
            have y6 : W2.cell? ⟨gx, j * 10 + 6, none⟩ = some (.int .i64 y.fin) := hce 6 _ rfl
            by_cases hf : 0 ≤ y.fin
            · have hf2 : decide (0 ≤ y.fin) = true := decide_eq_true hf
              have hend : callsL rows = ([], 160) := by rw [HC2.out, if_pos hf]
              have HEND := Lib.hid hend
              clear hlo hpl hvj hend hm hcs hcb hce hfz hy hcc
              go_wp2_with fail
              rw [HT0.out]
              refine ⟨none, 0, ?_, ?_, HB2.out⟩
              · rw [HEND.out]; rfl
              · rw [HEND.out]; exact Rd.nil
            · have hf2 : decide (0 ≤ y.fin) = false := decide_eq_false hf
              have hnx : callsL rows = callsW (k + 1) (out.modify j fun x' => { x' with fin := k, res := x.res }) (rows.drop (k + 1)) := by rw [HC2.out, if_neg hf]
              rw [modify_set hj, ← hy] at hnx
              have HNX := Lib.hid hnx
              have hh2 := hhv.out.turn j (fun x' => { x' with fin := (k : Nat), res := x.res }) (fun _ => rfl)
              rw [modify_set hj, ← hy] at hh2
              have HHV2 := Lib.hid hh2
              clear hlo hpl hvj hcc hnx hh2
              have hkl : j < out.length := hj
              obtain ⟨u7, hu7⟩ : ∃ u, W2.cell? ⟨gx, j * 10 + 7, none⟩ = some u := ⟨_, hce 7 _ rfl⟩
              obtain ⟨u8, hu8⟩ : ∃ u, W2.cell? ⟨gx, j * 10 + 8, none⟩ = some u := ⟨_, hce 8 _ rfl⟩
              obtain ⟨u9, hu9⟩ : ∃ u, W2.cell? ⟨gx, j * 10 + 9, none⟩ = some u := ⟨_, hce 9 _ rfl⟩
              have q12 : W2.cell? ⟨wo.heap.size, 12, none⟩ = some (.int .i64 x.res.code) := cell_of_row _ _ 12 _ _ _ HR12.out
              have q13 : W2.cell? ⟨wo.heap.size, 13, none⟩ = some (.int .i64 x.res.slot) := cell_of_row _ _ 13 _ _ _ HR12.out
              have q14 : W2.cell? ⟨wo.heap.size, 14, none⟩ = some (.string x.res.value) := cell_of_row _ _ 14 _ _ _ HR12.out
              have HU6 := Lib.hid y6
              have HU7 := Lib.hid hu7
              have HU8 := Lib.hid hu8
              have HU9 := Lib.hid hu9
              have HFZ := Lib.hid hfz
              have HMM := Lib.hid hm
              have HYY := Lib.hid hy
              clear hcs hcb hce hfz hm hy hu7 hu8 hu9
              go_upto_region 19 with fail
              have hm3 := HMM.out
              have hmk3 := HMK.out
              have hb3 := HB2.out
              have hc3 : ∀ a, W2.cell? a = W2.cell? a := fun _ => rfl
              have hf3 := HFZ.out
              have p1' := Made.cellPut encCall hm3 (i := j) (j := 6) hkl (by omega) { y with fin := (k : Nat) } (u := .int .i64 (k : Nat)) (by rw [← HYY.out]; rfl)
              have p2' := Made.cellPut encCall p1' (i := j) (j := 7) (by simpa using hkl) (by omega) { y with fin := (k : Nat), res := ⟨x.res.code, y.res.slot, y.res.value⟩ } (u := .int .i64 x.res.code) (by rw [List.getElem_set_self]; rfl)
              have p3' := Made.cellPut encCall p2' (i := j) (j := 8) (by simpa using hkl) (by omega) { y with fin := (k : Nat), res := ⟨x.res.code, x.res.slot, y.res.value⟩ } (u := .int .i64 x.res.slot) (by rw [List.getElem_set_self]; rfl)
              have p4' := Made.cellPut encCall p3' (i := j) (j := 9) (by simpa using hkl) (by omega) { y with fin := (k : Nat), res := x.res } (u := .string x.res.value) (by rw [List.getElem_set_self]; rfl)
              rw [List.set_set, List.set_set, List.set_set] at p4'
              have P4 := Lib.hid p4'
              have bnew := (((hb3.setCell (p := ⟨gx, j * 10 + 6, none⟩) hgw (.int .i64 (k : Nat))).setCell (p := ⟨gx, j * 10 + 7, none⟩) hgw (.int .i64 x.res.code)).setCell (p := ⟨gx, j * 10 + 8, none⟩) hgw (.int .i64 x.res.slot)).setCell (p := ⟨gx, j * 10 + 9, none⟩) hgw (.string x.res.value)
              have BNEW := Lib.hid bnew
              have hne3 : w.heap.size ≠ gx := fun e => hgne2 e.symm
              have mnew : MapK ekReq evInt ((((W2.setCell ⟨gx, j * 10 + 6, none⟩ (.int .i64 (k : Nat))).setCell ⟨gx, j * 10 + 7, none⟩ (.int .i64 x.res.code)).setCell ⟨gx, j * 10 + 8, none⟩ (.int .i64 x.res.slot)).setCell ⟨gx, j * 10 + 9, none⟩ (.string x.res.value)) w.heap.size ps := hmk3.same (by rw [Below.heap_setCell _ _ _ _ hne3, Below.heap_setCell _ _ _ _ hne3, Below.heap_setCell _ _ _ _ hne3, Below.heap_setCell _ _ _ _ hne3])
              have MNEW := Lib.hid mnew
              have hu6 := (hc3 _).trans HU6.out
              have hu7 := (hc3 _).trans HU7.out
              have hu8 := (hc3 _).trans HU8.out
              have hu9 := (hc3 _).trans HU9.out
              have f6 := hf3 (j * 10 + 6)
              have f7 := hf3 (j * 10 + 7)
              have f8 := hf3 (j * 10 + 8)
              have f9 := hf3 (j * 10 + 9)
              have o1 : ∀ (V : World) (i i2 : Nat) (v : Value), i ≠ i2 → (V.setCell ⟨gx, j * 10 + i, none⟩ v).cell? ⟨gx, j * 10 + i2, none⟩ = V.cell? ⟨gx, j * 10 + i2, none⟩ := fun V i i2 v hij => World.cell?_setCell_other _ _ _ _ (fun q => hij (by have := congrArg Addr.off q; simp at this; omega))
              have e7 := (o1 W2 6 7 (.int .i64 (k : Nat)) (by omega)).trans hu7
              have e8b := (o1 W2 6 8 (.int .i64 (k : Nat)) (by omega)).trans hu8
              have e8 := (o1 _ 7 8 (.int .i64 x.res.code) (by omega)).trans e8b
              have e9b := (o1 W2 6 9 (.int .i64 (k : Nat)) (by omega)).trans hu9
              have e9c := (o1 _ 7 9 (.int .i64 x.res.code) (by omega)).trans e9b
              have e9 := (o1 _ 8 9 (.int .i64 x.res.slot) (by omega)).trans e9c
              have HSX : Hid (∀ W : World, (∀ a : Addr, a.block = wo.heap.size → W.cell? a = W2.cell? a) → W.cell? ⟨wo.heap.size, 12, none⟩ = some (.int .i64 x.res.code) ∧ W.cell? ⟨wo.heap.size, 13, none⟩ = some (.int .i64 x.res.slot) ∧ W.cell? ⟨wo.heap.size, 14, none⟩ = some (.string x.res.value)) := fun W hW => ⟨(hW _ rfl).trans q12, (hW _ rfl).trans q13, (hW _ rfl).trans q14⟩
              have hso : ∀ (V : World) (i : Nat) (v : Value) (a : Addr), a.block = wo.heap.size → (V.setCell ⟨gx, i, none⟩ v).cell? a = V.cell? a := fun V i v a ha => World.cell?_setCell_other _ _ _ _ (fun q => hgne (by rw [← ha, ← congrArg Addr.block q]))
              have hs1 : (W2.setCell ⟨gx, j * 10 + 6, none⟩ (.int .i64 (k : Nat))).cell? ⟨wo.heap.size, 12, none⟩ = some (.int .i64 x.res.code) ∧ (W2.setCell ⟨gx, j * 10 + 6, none⟩ (.int .i64 (k : Nat))).cell? ⟨wo.heap.size, 13, none⟩ = some (.int .i64 x.res.slot) ∧ (W2.setCell ⟨gx, j * 10 + 6, none⟩ (.int .i64 (k : Nat))).cell? ⟨wo.heap.size, 14, none⟩ = some (.string x.res.value) := HSX.out _ (fun a ha => hso _ _ _ a ha)
              have hs4 : ((((W2.setCell ⟨gx, j * 10 + 6, none⟩ (.int .i64 (k : Nat))).setCell ⟨gx, j * 10 + 7, none⟩ (.int .i64 x.res.code)).setCell ⟨gx, j * 10 + 8, none⟩ (.int .i64 x.res.slot)).setCell ⟨gx, j * 10 + 9, none⟩ (.string x.res.value)).cell? ⟨wo.heap.size, 12, none⟩ = some (.int .i64 x.res.code) ∧ ((((W2.setCell ⟨gx, j * 10 + 6, none⟩ (.int .i64 (k : Nat))).setCell ⟨gx, j * 10 + 7, none⟩ (.int .i64 x.res.code)).setCell ⟨gx, j * 10 + 8, none⟩ (.int .i64 x.res.slot)).setCell ⟨gx, j * 10 + 9, none⟩ (.string x.res.value)).cell? ⟨wo.heap.size, 13, none⟩ = some (.int .i64 x.res.slot) ∧ ((((W2.setCell ⟨gx, j * 10 + 6, none⟩ (.int .i64 (k : Nat))).setCell ⟨gx, j * 10 + 7, none⟩ (.int .i64 x.res.code)).setCell ⟨gx, j * 10 + 8, none⟩ (.int .i64 x.res.slot)).setCell ⟨gx, j * 10 + 9, none⟩ (.string x.res.value)).cell? ⟨wo.heap.size, 14, none⟩ = some (.string x.res.value) := HSX.out _ (fun a ha => (hso _ _ _ a ha).trans ((hso _ _ _ a ha).trans ((hso _ _ _ a ha).trans (hso _ _ _ a ha))))
              have HS1 := Lib.hid hs1
              have HS4 := Lib.hid hs4
              clear p1' p2' p3' p4' hm3 hmk3 hb3 bnew mnew o1 hc3 hf3 hso y6 hs1 hs4
              go_region_held3 (fun W => W.cell? ⟨wo.heap.size, 12, none⟩ = some (.int .i64 x.res.code) ∧ W.cell? ⟨wo.heap.size, 13, none⟩ = some (.int .i64 x.res.slot) ∧ W.cell? ⟨wo.heap.size, 14, none⟩ = some (.string x.res.value))
                (first
                  | with_reducible exact HS1.out
                  | with_reducible exact HS4.out
                  | go_keep)
                (fail)
              all_goals
                go_wp2_with fail
                go_roundw
                case rel => exact ⟨k + 1, out.set j { y with fin := (k : Nat), res := x.res }, ps, some ⟨gx, 0, none⟩, c5, by omega, by go_num, by rw [List.length_set], HNX.out, HHV2.out, by show _ ≤ _; rw [List.length_set]; have := hol.out; omega, MNEW.out.same rfl, by rw [List.length_set]; exact P4.out.same fun _ _ => rfl, below_drewL BNEW.out⟩
                case measure => simp [intOf]; omega
        · have k61 : decide (x.kind = 6) = false := decide_eq_false h6k
          have k62 : (x.kind == 6) = false := by simpa using h6k
          have hnx : callsL rows = callsW (k + 1) out (rows.drop (k + 1)) := by rw [HCW.out]; simp only [callsW]; rw [if_neg h1k, if_neg h6k]
          have HNX := Lib.hid hnx
          clear h1k h6k hnx
          go_wp2_with fail
          go_roundw
          case rel => exact ⟨k + 1, out, ps, A5, c5, by omega, by go_num, rfl, HNX.out, hhv.out, by show _ ≤ _; have := hol.out; omega, HMK.out, HMD.out, HB2.out⟩
          case measure => simp [intOf]; omega
    · have g2 : decide ((k:Int) < (rows.length : Int)) = false := decide_eq_false (by omega)
      have g3 : decide (k < rows.length) = false := decide_eq_false h1
      have hfin := hcw.out
      rw [List.drop_eq_nil_of_le (by omega)] at hfin
      have hfin2 : callsL rows = (out, 0) := hfin
      have HFIN := Lib.hid hfin2
      clear hcw hfin hfin2
      go_wp2_with fail
      rw [HT0.out]
      refine ⟨A5, c5, ?_, ?_, hbr.out⟩
      · rw [HFIN.out]; rfl
      · rw [HFIN.out]; exact Made.rd' encCall.len hmd.out
end Go.Proofs.Ytmfidhlhcochoaa
