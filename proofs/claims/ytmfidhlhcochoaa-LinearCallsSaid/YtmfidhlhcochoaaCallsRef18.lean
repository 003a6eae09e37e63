/- The reference's place and Calls: they answer placeC, callsL. Conditions: Go lengths. -/
import Derived.Test.YtmfidhlhcochoaaCalls18
import Derived.Test.YtmfidhlhcochoaaRefCheck18
namespace Go.Proofs.Ytmfidhlhcochoaa
open Go.RowKit
set_option linter.unusedVariables false
set_option linter.unusedSimpArgs false

def placeI (l : List Call) (q : Int × Int) : Int := match placeC l q with | some j => (j : Int) | none => -1
theorem placeI_hit {l : List Call} {q : Int × Int} {k : Nat} (hk : k < l.length) (e : keyOf l[k] = q) (hn : ∀ j (h : j < l.length), j < k → keyOf l[j] ≠ q) : placeI l q = (k : Int) := by
  unfold placeI
  cases hf : placeC l q with
  | none =>
    unfold placeC at hf
    rw [List.find?_eq_none] at hf
    have := hf k (List.mem_range.2 hk)
    rw [List.getElem?_eq_getElem hk] at this
    simp [e] at this
  | some j =>
    obtain ⟨hj, he⟩ := placeC_is hf
    have h1 : ¬ j < k := fun h => hn j hj h he
    have h2 : ¬ k < j := fun h => by
      unfold placeC at hf
      rw [List.find?_range_eq_some] at hf
      have := hf.2.2 k h
      rw [List.getElem?_eq_getElem hk] at this
      simp [e] at this
    show (j : Int) = k
    omega
theorem placeI_miss {l : List Call} {q : Int × Int} (hn : ∀ j (h : j < l.length), keyOf l[j] ≠ q) : placeI l q = -1 := by
  unfold placeI
  rw [placeC_none hn]
set_option maxHeartbeats 1600000 in
theorem place_ref (A : Option Addr) (c n : Nat) (l : List Call) (hn : n = l.length) (cl nu : Int) (w : World) (hl : l.length ≤ 9223372036854775806) (ha : Rd Call.cells 10 w w.heap.size A l) :
    Calls Try.prog 65 #[.slice A n c, .int .i64 cl, .int .i64 nu] w fun e w' => e = .returned (.int .i64 (placeI l (cl, nu))) ∧ w' = w := by
  subst hn
  obtain ⟨r, hr⟩ : ∃ r, r = placeI l (cl, nu) := ⟨_, rfl⟩
  rw [← hr]
  have HA := Lib.hid ha
  have HR := Lib.hid hr
  clear ha hr
  go_enter Try.func65, Try.ntmps65
  go_wp2_with fail
  go_loopw [7] (fun i wr => ∃ k : Nat, k ≤ l.length ∧ i = .int .i64 k ∧ Hid (∀ j (h : j < l.length), j < k → keyOf l[j] ≠ (cl, nu)) ∧ wr = w) (fun i _ => l.length - (intOf i).toNat)
  case atStart => exact ⟨0, by omega, rfl, fun j _ h => absurd h (Nat.not_lt_zero j), rfl⟩
  case round =>
    obtain ⟨k, hk, rfl, hno, rfl⟩ := hrel
    by_cases h1 : k < l.length
    · obtain ⟨ad, hA, _, hca⟩ := HA.out.at_ h1
      have g1 : (k:Int) < (l.length : Int) := by omega
      have i2 : (0:Int) ≤ (k:Int) := by omega
      obtain ⟨c0, c1, c2, c3, c4, c5, c6, c7, c8, c9⟩ := hca.call
      have HHIT : Hid (keyOf l[k] = (cl, nu) → r = (k : Int)) := fun e => HR.out.trans (placeI_hit h1 e hno.out)
      have HNX : Hid (keyOf l[k] ≠ (cl, nu) → ∀ j (h : j < l.length), j < k + 1 → keyOf l[j] ≠ (cl, nu)) := fun e j hj hjk => by
        by_cases q : j = k
        · subst q; exact e
        · exact hno.out j hj (by omega)
      cases hA
      clear hca c2 c3 c4 c5 c6 c7 c8 c9 hno
      generalize l[k] = x at *
      by_cases e1 : x.client = cl
      · have e12 : decide (x.client = cl) = true := decide_eq_true e1
        have e13 : (x.client == cl) = true := by simpa using e1
        by_cases e2 : x.number = nu
        · have e22 : decide (x.number = nu) = true := decide_eq_true e2
          have e23 : (x.number == nu) = true := by simpa using e2
          have hr := HHIT.out (by unfold keyOf; rw [e1, e2])
          subst hr
          clear e1 e2 HHIT HNX
          go_wp2_with fail
          go_ret
          exact ⟨rfl, rfl⟩
        · have e22 : decide (x.number = nu) = false := decide_eq_false e2
          have e23 : (x.number == nu) = false := by simpa using e2
          have HN := Lib.hid (HNX.out (fun q => e2 (congrArg Prod.snd q)))
          clear e1 e2 HHIT HNX
          go_wp2_with fail
          go_roundw
          case rel => exact ⟨k + 1, by omega, by go_num, HN.out, (by first | rfl | trivial)⟩
          case measure => simp [intOf]; omega
      · have e12 : decide (x.client = cl) = false := decide_eq_false e1
        have e13 : (x.client == cl) = false := by simpa using e1
        have HN := Lib.hid (HNX.out (fun q => e1 (congrArg Prod.fst q)))
        clear e1 HHIT HNX
        go_wp2_with fail
        go_roundw
        case rel => exact ⟨k + 1, by omega, by go_num, HN.out, (by first | rfl | trivial)⟩
        case measure => simp [intOf]; omega
    · have g2 : decide ((k:Int) < (l.length : Int)) = false := decide_eq_false (by omega)
      have g3 : decide (k < l.length) = false := decide_eq_false h1
      have hr : r = -1 := HR.out.trans (placeI_miss fun j hj => hno.out j hj (by omega))
      subst hr
      clear hno
      go_wp2_with fail
      go_ret
      exact ⟨rfl, rfl⟩

set_option maxRecDepth 100000 in
set_option maxHeartbeats 8000000 in
theorem calls_ref (A : Option Addr) (c n : Nat) (rows : List Seen) (hn : n = rows.length) (w : World) (hl : (rows.length + 1) * 96 ≤ 140737488355328) (hv : ∀ x ∈ rows, x.ent.op.value.size ≤ 9223372036854775807) (ha : Rd Seen.cells 19 w w.heap.size A rows) :
    Calls Try.prog 28 #[.slice A n c] w (CallsPost rows w) := by
  subst hn
  obtain ⟨T0, hT0⟩ : ∃ T0 : Ending → World → Prop, T0 = CallsPost rows w := ⟨_, rfl⟩
  rw [← hT0]
  have HT0 := Lib.hid hT0
  have HA := Lib.hid ha
  have HV := Lib.hid hv
  clear ha hv hT0
  go_enter Try.func28, Try.ntmps28
  go_wp2_with fail
  go_loopw [5, 4] (fun i v wr => ∃ k : Nat, ∃ out A5 c5, k ≤ rows.length ∧ i = .int .i64 k ∧ v = .slice A5 out.length c5 ∧ Hid (callsL rows = callsW k out (rows.drop k)) ∧ Hid (Dist out) ∧ Hid (out.length ≤ k) ∧ Hid (Made Call.cells 10 45 w.heap.size wr (.slice A5 out.length c5) out) ∧ Hid (Below w.heap.size w wr)) (fun i _ _ => rows.length - (intOf i).toNat)
  case atStart => exact ⟨0, [], none, 0, by omega, rfl, rfl, rfl, fun i j hi => by simp at hi, Nat.le_refl _, Made.nil _ _ _, Below.refl _ _⟩
  case round =>
    obtain ⟨k, out, A5, c5, hk, rfl, rfl, hcw, hdi, hol, hmd, hbr⟩ := hrel
    obtain ⟨wo, hwo⟩ : ∃ wo, wo = wr := ⟨_, rfl⟩
    subst hwo
    by_cases h1 : k < rows.length
    · obtain ⟨ad, hA, hal, hca⟩ := (HA.out.below hbr.out).at_ h1
      have g1 : (k:Int) < (rows.length : Int) := by omega
      have i1 : (0:Int) ≤ (k:Int) := by omega
      have hcw2 := hcw.out
      rw [List.drop_eq_getElem_cons h1] at hcw2
      have HCW := Lib.hid hcw2
      have hvx := HV.out _ (List.getElem_mem h1)
      have hs := hca.seen
      cases hA
      clear hca hcw hcw2
      generalize rows[k] = x at *
      have hadb : (ad.add (k * 19)).block < w.heap.size := by rw [block_add]; exact hal
      have HSX : Hid (∀ W, Below w.heap.size wo W → SeenAt W (ad.add (k * 19)) x) := fun W hW => ⟨(hW.cell hadb).trans hs.c0, fun j u hu => (hW.cell (p := ⟨(ad.add (k * 19)).block, (ad.add (k * 19)).off + (j + 1), none⟩) hadb).trans (hs.c j u hu)⟩
      have s0 := hs.c0
      have s7 := hs.c 6 _ rfl
      have s8 := hs.c 7 _ rfl
      have s9 := hs.c 8 _ rfl
      have s10 := hs.c 9 _ rfl
      have s11 := hs.c 10 _ rfl
      simp only [Nat.reduceAdd] at s7 s8 s9 s10 s11
      clear hs
      have hzo := hbr.out.size
      go_upto_region 6 with fail
      obtain ⟨W1, hW1⟩ : ∃ W1, W1 = wo.alloc (.cells #[.int .i64 x.ent.client, .int .i64 x.ent.number, .int .i64 x.ent.op.kind, .int .i64 x.ent.op.slot, .string x.ent.op.value] 119) := ⟨_, rfl⟩
      have hr1 : W1.heap[wo.heap.size]? = some (.cells #[.int .i64 x.ent.client, .int .i64 x.ent.number, .int .i64 x.ent.op.kind, .int .i64 x.ent.op.slot, .string x.ent.op.value] 119 (0, 0)) := by rw [hW1]; exact heap_alloc_new _ _
      have hb1 : Below wo.heap.size wo W1 := by rw [hW1]; exact (Below.refl _ _).alloc (Nat.le_refl _) _
      have hlt1 : wo.heap.size < W1.heap.size := by rw [hW1]; simp
      have HB1 := Lib.hid (hbr.out.trans (hb1.mono hzo))
      have HB1o := Lib.hid hb1
      have HMD := Lib.hid (hmd.out.below hb1 (fun b e => (hmd.out.lt b e).2))
      have HR1 := Lib.hid hr1
      have HLT1 := Lib.hid hlt1
      have hs1 := HSX.out W1 (hb1.mono hzo)
      have v0 := hs1.c0
      have p0 : W1.cell? ⟨wo.heap.size, 0, none⟩ = some (.int .i64 x.ent.client) := cell_of_row _ _ 0 _ _ _ hr1
      have p1 : W1.cell? ⟨wo.heap.size, 1, none⟩ = some (.int .i64 x.ent.number) := cell_of_row _ _ 1 _ _ _ hr1
      have p2 : W1.cell? ⟨wo.heap.size, 2, none⟩ = some (.int .i64 x.ent.op.kind) := cell_of_row _ _ 2 _ _ _ hr1
      have p3 : W1.cell? ⟨wo.heap.size, 3, none⟩ = some (.int .i64 x.ent.op.slot) := cell_of_row _ _ 3 _ _ _ hr1
      have p4 : W1.cell? ⟨wo.heap.size, 4, none⟩ = some (.string x.ent.op.value) := cell_of_row _ _ 4 _ _ _ hr1
      rw [← hW1]
      clear hW1 hr1 hb1 hlt1 hs1 s0 s7 s8 s9 s10 s11
      by_cases h1k : x.kind = 1
      · have k11 : decide (x.kind = 1) = true := decide_eq_true h1k
        have k12 : (x.kind == 1) = true := by simpa using h1k
        have hcc : callsL rows = if mayC x.ent.client x.ent.number x.ent.op = false then ([], 180) else if (placeC out (x.ent.client, x.ent.number)).isSome = true then ([], 160) else callsW (k + 1) (out ++ [newC x.ent k]) (rows.drop (k + 1)) := by rw [HCW.out]; simp only [callsW]; rw [if_pos h1k]
        have HCC := Lib.hid hcc
        clear h1k hcc
        go_wp2_with fail
        refine (entry05_prog x.ent.client x.ent.number x.ent.op hvx W1).mono ?_
        rintro e w3 ⟨rfl, hb3⟩
        have HB3 := Lib.hid (HB1.out.trans (hb3.mono HB1.out.size))
        have hr3 := (hb3.block _ HLT1.out).trans HR1.out
        have HMD3 := Lib.hid (HMD.out.below hb3 (fun b e => (HMD.out.lt b e).2))
        have u0 : w3.cell? ⟨wo.heap.size, 0, none⟩ = some (.int .i64 x.ent.client) := cell_of_row _ _ 0 _ _ _ hr3
        have u1 : w3.cell? ⟨wo.heap.size, 1, none⟩ = some (.int .i64 x.ent.number) := cell_of_row _ _ 1 _ _ _ hr3
        have u2 : w3.cell? ⟨wo.heap.size, 2, none⟩ = some (.int .i64 x.ent.op.kind) := cell_of_row _ _ 2 _ _ _ hr3
        have u3 : w3.cell? ⟨wo.heap.size, 3, none⟩ = some (.int .i64 x.ent.op.slot) := cell_of_row _ _ 3 _ _ _ hr3
        have u4 : w3.cell? ⟨wo.heap.size, 4, none⟩ = some (.string x.ent.op.value) := cell_of_row _ _ 4 _ _ _ hr3
        have hme := entry05_may x.ent.client x.ent.number x.ent.op
        obtain ⟨en, hen⟩ : ∃ en, en = entry05 x.ent.client x.ent.number x.ent.op := ⟨_, rfl⟩
        rw [← hen] at hme ⊢
        clear hb3 hr3 p0 p1 p2 p3 p4 hen
        by_cases he0 : en = 0
        · subst he0
          have hcc := HCC.out
          rw [← hme, if_neg (by simp)] at hcc
          have HC2 := Lib.hid hcc
          clear hme hcc
          dsimp only
          go_wp2_with fail
          refine (place_ref A5 c5 out.length out rfl x.ent.client x.ent.number w3 (by have := hol.out; omega) (Made.rd' encCall.len HMD3.out)).mono ?_
          rintro e w4 ⟨rfl, rfl⟩
          obtain ⟨pl, hpl⟩ : ∃ pl, pl = placeI out (x.ent.client, x.ent.number) := ⟨_, rfl⟩
          rw [← hpl]
          unfold placeI at hpl
          cases hpc : placeC out (x.ent.client, x.ent.number) with
          | some j =>
            rw [hpc] at hpl
            have hp2 : decide (0 ≤ pl) = true := decide_eq_true (by rw [hpl]; show (0:Int) ≤ (j:Int); omega)
            have hend : callsL rows = ([], 160) := by rw [HC2.out, hpc]; rfl
            have HEND := Lib.hid hend
            clear hpl hpc hend
            dsimp only
            go_wp2_with fail
            rw [HT0.out]
            refine ⟨none, 0, ?_, ?_, HB3.out⟩
            · rw [HEND.out]; rfl
            · rw [HEND.out]; exact Rd.nil
          | none =>
            rw [hpc] at hpl
            have hp2 : decide (0 ≤ pl) = false := decide_eq_false (by rw [hpl]; show ¬ (0:Int) ≤ -1; omega)
            have hnx : callsL rows = callsW (k + 1) (out ++ [newC x.ent k]) (rows.drop (k + 1)) := by rw [HC2.out, hpc]; rfl
            have HNX := Lib.hid hnx
            have hnk : ∀ j (hj : j < out.length), keyOf out[j] ≠ keyOf (newC x.ent k) := fun j hj e => by
              have := placeC_some hdi.out hj e
              rw [show keyOf (newC x.ent k) = (x.ent.client, x.ent.number) from rfl, hpc] at this
              cases this
            have HD2 := Lib.hid (dist_snoc hdi.out hnk)
            have HOLK := Lib.hid hol.out
            have hz3 : Hid (w.heap.size ≤ w4.heap.size) := HB3.out.size
            clear hpl hpc hnx hnk
            dsimp only
            go_wp2_with (at_builtin; go_loud (refine wpList_app (v := .slice A5 out.length c5) (xs := out) (ys := [newC x.ent k]) rowCall encCall rfl (.tmp 36) (.tmp 45) rfl w.heap.size rfl (HMD3.out.alloc _) rfl rfl (rd_at encCall _ (newC x.ent k) #[.int .i64 x.ent.client, .int .i64 x.ent.number, .int .i64 x.ent.op.kind, .int .i64 x.ent.op.slot, .string x.ent.op.value, .int .i64 (k : Nat), .int .i64 (-1), .int .i64 0, .int .i64 0, .string ⟨#[]⟩] rfl 45 (by simp) (Nat.lt_succ_self _)) (by have := HOLK.out; simp only [List.length_singleton]; omega) (by have := HOLK.out; unfold maxLen; simp only [List.length_singleton]; omega) (by simp; have := hz3.out; omega) ?_); go_loud (intro v7 w7 hm7 hg7 hat7); go_loud (obtain ⟨A7, c7, rfl, hc7⟩ := hm7.form); go_loud (have hg7b := Below.grown (HB3.out.alloc HB3.out.size _) hg7 (by simp; have := HB3.out.size; omega) (fun q e => (HMD3.out.lt q e).1)); go_loud (have HM7 := Lib.hid hm7; have HB7 := Lib.hid hg7b); go_loud (clear hm7 hg7 hat7 hc7 hg7b))
            go_roundw
            case rel => exact ⟨k + 1, out ++ [newC x.ent k], A7, c7, by omega, by go_num, by rw [List.length_append]; rfl, HNX.out, HD2.out, by show _ ≤ _; have := hol.out; simp; omega, HM7.out, HB7.out⟩
            case measure => simp [intOf]; omega
        · have he1 : decide (en = 0) = false := decide_eq_false he0
          have he2 : (en == 0) = false := by simpa using he0
          have he3 : (en != 0) = true := by simpa using he0
          have hend : callsL rows = ([], 180) := by rw [HCC.out, ← hme, he1]; rfl
          have HEND := Lib.hid hend
          clear he0 hme hend
          dsimp only
          go_wp2_with fail
          rw [HT0.out]
          refine ⟨none, 0, ?_, ?_, HB3.out⟩
          · rw [HEND.out]; rfl
          · rw [HEND.out]; exact Rd.nil
      · have k11 : decide (x.kind = 1) = false := decide_eq_false h1k
        have k12 : (x.kind == 1) = false := by simpa using h1k
        by_cases h6k : x.kind = 6
        · have k61 : decide (x.kind = 6) = true := decide_eq_true h6k
          have k62 : (x.kind == 6) = true := by simpa using h6k
          have hcc := HCW.out.trans (callsW_six h1k h6k)
          have HCC := Lib.hid hcc
          clear h1k h6k hcc
          go_wp2_with fail
          refine (place_ref A5 c5 out.length out rfl x.ent.client x.ent.number W1 (by have := hol.out; omega) (Made.rd' encCall.len HMD.out)).mono ?_
          rintro e w4 ⟨rfl, rfl⟩
          obtain ⟨pl, hpl⟩ : ∃ pl, pl = placeI out (x.ent.client, x.ent.number) := ⟨_, rfl⟩
          rw [← hpl]
          unfold placeI at hpl
          cases hpc : placeC out (x.ent.client, x.ent.number) with
          | none =>
            rw [hpc] at hpl
            have hpl : pl = -1 := hpl
            subst hpl
            have hend : callsL rows = ([], 160) := by rw [HCC.out, hpc]
            have HEND := Lib.hid hend
            clear hpc hend
            dsimp only
            go_wp2_with fail
            rw [HT0.out]
            refine ⟨none, 0, ?_, ?_, HB1.out⟩
            · rw [HEND.out]; rfl
            · rw [HEND.out]; exact Rd.nil
          | some j =>
            rw [hpc] at hpl
            have hpl : pl = (j : Int) := hpl
            subst hpl
            obtain ⟨hj, _⟩ := placeC_is hpc
            have hcc := HCC.out
            rw [hpc] at hcc
            simp only [List.getElem?_eq_getElem hj, Option.map_some, Option.getD_some] at hcc
            have HC2 := Lib.hid hcc
            have hj0 : decide ((j:Int) < 0) = false := decide_eq_false (by omega)
            have gj : (j:Int) < (out.length : Int) := by omega
            have ij : (0:Int) ≤ (j:Int) := by omega
            have hm := HMD.out
            obtain ⟨gx, hgx⟩ : ∃ gx, A5 = some ⟨gx, 0, none⟩ := by
              rcases hm.2 with ⟨hv, hn⟩ | ⟨g, cap, cur, hv, _⟩
              · omega
              · injection hv with q1 q2 q3; exact ⟨g, q1⟩
            subst hgx
            obtain ⟨cs, hcs⟩ := hm.cell_block (b := gx) rfl
            obtain ⟨bd, hBd, _, hcb⟩ := (Made.rd' encCall.len hm).at_ hj
            cases hBd
            have hce : ∀ i u, (out[j]).cells[i]? = some u → w4.cell? ⟨gx, j * 10 + i, none⟩ = some u := fun i u hu => by
              refine Eq.trans ?_ (hcb i u hu)
              congr 1
              unfold Addr.add
              repeat' split
              all_goals simp_all
              all_goals omega
            have hfz : ∀ i, w4.frozen? ⟨gx, i, none⟩ = false := fun i => frozen_of_row _ _ _ _ _ hcs
            have hgw : w.heap.size ≤ gx := (hm.lt gx rfl).1
            have hgne : gx ≠ (ad.add (k * 19)).block := by omega
            obtain ⟨y, hy⟩ : ∃ y, y = out[j] := ⟨_, rfl⟩
            rw [← hy] at hce HC2
            have y6 : w4.cell? ⟨gx, j * 10 + 6, none⟩ = some (.int .i64 y.fin) := hce 6 _ rfl
            by_cases hf : 0 ≤ y.fin
            · have hf2 : decide (0 ≤ y.fin) = true := decide_eq_true hf
              have hend : callsL rows = ([], 160) := by rw [HC2.out, if_pos hf]
              have HEND := Lib.hid hend
              clear hpc hend hm hcs hcb hce hfz hy hcc
              dsimp only
              go_wp2_with fail
              rw [HT0.out]
              refine ⟨none, 0, ?_, ?_, HB1.out⟩
              · rw [HEND.out]; rfl
              · rw [HEND.out]; exact Rd.nil
            · have hf2 : decide (0 ≤ y.fin) = false := decide_eq_false hf
              have hnx : callsL rows = callsW (k + 1) (out.modify j fun x' => { x' with fin := k, res := x.res }) (rows.drop (k + 1)) := by rw [HC2.out, if_neg hf]
              rw [modify_set hj, ← hy] at hnx
              have HNX := Lib.hid hnx
              have hd2 := dist_turn hdi.out j (fun x' => { x' with fin := (k : Nat), res := x.res }) (fun _ => rfl)
              rw [modify_set hj, ← hy] at hd2
              have HD2 := Lib.hid hd2
              obtain ⟨u7, hu7⟩ : ∃ u, w4.cell? ⟨gx, j * 10 + 7, none⟩ = some u := ⟨_, hce 7 _ rfl⟩
              obtain ⟨u8, hu8⟩ : ∃ u, w4.cell? ⟨gx, j * 10 + 8, none⟩ = some u := ⟨_, hce 8 _ rfl⟩
              obtain ⟨u9, hu9⟩ : ∃ u, w4.cell? ⟨gx, j * 10 + 9, none⟩ = some u := ⟨_, hce 9 _ rfl⟩
              have f6 := hfz (j * 10 + 6)
              -- the first store, then the answer's
              obtain ⟨S1, hS1⟩ : ∃ S1, S1 = w4.setCell ⟨gx, j * 10 + 6, none⟩ (.int .i64 (k : Nat)) := ⟨_, rfl⟩
              have hm1 := Made.cellPut encCall hm (i := j) (j := 6) hj (by omega) { y with fin := (k : Nat) } (u := .int .i64 (k : Nat)) (by rw [← hy]; rfl)
              rw [← hS1] at hm1
              have hb1 : Below w.heap.size w S1 := by rw [hS1]; exact HB1.out.setCell (p := ⟨gx, j * 10 + 6, none⟩) hgw _
              have hbo : Below w.heap.size wo S1 := by rw [hS1]; exact (HB1o.out.mono hzo).setCell (p := ⟨gx, j * 10 + 6, none⟩) hgw _
              have hs1 := HSX.out S1 hbo
              have z12 := hs1.c 11 _ rfl
              have z13 := hs1.c 12 _ rfl
              have z14 := hs1.c 13 _ rfl
              simp only [Nat.reduceAdd] at z12 z13 z14
              have o1 : ∀ (V : World) (i i2 : Nat) (v : Value), i ≠ i2 → (V.setCell ⟨gx, j * 10 + i, none⟩ v).cell? ⟨gx, j * 10 + i2, none⟩ = V.cell? ⟨gx, j * 10 + i2, none⟩ := fun V i i2 v hij => World.cell?_setCell_other _ _ _ _ (fun q => hij (by have := congrArg Addr.off q; simp at this; omega))
              have e7 : S1.cell? ⟨gx, j * 10 + 7, none⟩ = some u7 := by rw [hS1]; exact (o1 _ 6 7 _ (by omega)).trans hu7
              have e8 : S1.cell? ⟨gx, j * 10 + 8, none⟩ = some u8 := by rw [hS1]; exact (o1 _ 6 8 _ (by omega)).trans hu8
              have e9 : S1.cell? ⟨gx, j * 10 + 9, none⟩ = some u9 := by rw [hS1]; exact (o1 _ 6 9 _ (by omega)).trans hu9
              obtain ⟨cs1, hcs1⟩ := hm1.cell_block (b := gx) rfl
              have hfz1 : ∀ i, S1.frozen? ⟨gx, i, none⟩ = false := fun i => frozen_of_row _ _ _ _ _ hcs1
              have f7 := hfz1 (j * 10 + 7)
              have f8 := hfz1 (j * 10 + 8)
              have f9 := hfz1 (j * 10 + 9)
              have e8b := (o1 S1 7 8 (.int .i64 x.res.code) (by omega)).trans e8
              have e9b := (o1 S1 7 9 (.int .i64 x.res.code) (by omega)).trans e9
              have e9c := (o1 _ 8 9 (.int .i64 x.res.slot) (by omega)).trans e9b
              have p2' := Made.cellPut encCall hm1 (i := j) (j := 7) (by simpa using hj) (by omega) { y with fin := (k : Nat), res := ⟨x.res.code, y.res.slot, y.res.value⟩ } (u := .int .i64 x.res.code) (by rw [List.getElem_set_self]; rfl)
              have p3' := Made.cellPut encCall p2' (i := j) (j := 8) (by simpa using hj) (by omega) { y with fin := (k : Nat), res := ⟨x.res.code, x.res.slot, y.res.value⟩ } (u := .int .i64 x.res.slot) (by rw [List.getElem_set_self]; rfl)
              have p4' := Made.cellPut encCall p3' (i := j) (j := 9) (by simpa using hj) (by omega) { y with fin := (k : Nat), res := x.res } (u := .string x.res.value) (by rw [List.getElem_set_self]; rfl)
              rw [List.set_set, List.set_set, List.set_set] at p4'
              have P4 := Lib.hid p4'
              have bnew := ((hb1.setCell (p := ⟨gx, j * 10 + 7, none⟩) hgw (.int .i64 x.res.code)).setCell (p := ⟨gx, j * 10 + 8, none⟩) hgw (.int .i64 x.res.slot)).setCell (p := ⟨gx, j * 10 + 9, none⟩) hgw (.string x.res.value)
              have BNEW := Lib.hid bnew
              have HS1 := Lib.hid hS1
              clear p2' p3' p4' bnew hm hm1 hb1 hbo hs1 o1 hS1 hcs hcs1 hcb hce hfz hfz1 hy hcc hpc hnx hd2 hu7 hu8 hu9
              dsimp only
              go_upto_region 18 with fail
              rw [← HS1.out]
              clear f6 y6
              go_wp2_with fail
              go_roundw
              case rel => exact ⟨k + 1, out.set j { y with fin := (k : Nat), res := x.res }, some ⟨gx, 0, none⟩, c5, by omega, by go_num, by rw [List.length_set], HNX.out, HD2.out, by show _ ≤ _; rw [List.length_set]; have := hol.out; omega, by rw [List.length_set]; exact P4.out, BNEW.out⟩
              case measure => simp [intOf]; omega
        · have k61 : decide (x.kind = 6) = false := decide_eq_false h6k
          have k62 : (x.kind == 6) = false := by simpa using h6k
          have hnx : callsL rows = callsW (k + 1) out (rows.drop (k + 1)) := by rw [HCW.out]; simp only [callsW]; rw [if_neg h1k, if_neg h6k]
          have HNX := Lib.hid hnx
          clear h1k h6k hnx
          go_wp2_with fail
          go_roundw
          case rel => exact ⟨k + 1, out, A5, c5, by omega, by go_num, rfl, HNX.out, hdi.out, by show _ ≤ _; have := hol.out; omega, HMD.out, HB1.out⟩
          case measure => simp [intOf]; omega
    · have g2 : decide ((k:Int) < (rows.length : Int)) = false := decide_eq_false (by omega)
      have g3 : decide (k < rows.length) = false := decide_eq_false h1
      have hfin := hcw.out
      rw [List.drop_eq_nil_of_le (by omega)] at hfin
      have hfin2 : callsL rows = (out, 0) := hfin
      have HFIN := Lib.hid hfin2
      clear hcw hfin hfin2
      go_wp2_with fail
      rw [HT0.out]
      refine ⟨A5, c5, ?_, ?_, hbr.out⟩
      · rw [HFIN.out]; rfl
      · rw [HFIN.out]; exact Made.rd' encCall.len hmd.out
end Go.Proofs.Ytmfidhlhcochoaa
