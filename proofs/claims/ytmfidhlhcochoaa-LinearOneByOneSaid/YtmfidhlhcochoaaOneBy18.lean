/- LinearOneByOne answers true. Conditions: sizes within the form's own reach. -/
import Derived.Test.YtmfidhlhcochoaaOneSt18
import Derived.Test.YtmfidhlhcochoaaWorst18
import Derived.Test.YtmfidhlhcochoaaWorks18
import Derived.Deep.CutRange
import Derived.Deep.DeepCutAuto
import Derived.Deep.RegionHeld3
import Derived.StillTailTactics
namespace Go.Proofs.Ytmfidhlhcochoaa
open Go.RowKit
set_option linter.unusedVariables false
set_option linter.unusedSimpArgs false

theorem checkOp_size {o : Op} (h : checkOp o = 0) : o.value.size ≤ 64 := by
  refine Nat.le_of_not_lt fun hs => ?_
  unfold checkOp at h
  repeat' split at h
  all_goals first | omega | exact absurd h (by decide)
theorem search_line {k : Nat} {row : Int} {good : Bool} {xs : List Call} (h : OneSt k row good xs) : (searchL xs).1 = (if good = true then List.range' 0 xs.length else []) ∧ (searchL xs).2.1 = good ∧ (searchL xs).2.2 = 0 := by
  have hb := best_line h.line
  rw [← h.good] at hb
  have h8 := h.len
  unfold searchL
  rw [if_neg (by rw [checkL_of h.goodL]; decide), if_neg (by omega), hb]
  cases good <;> exact ⟨rfl, rfl, rfl⟩
theorem search_open {k : Nat} {row : Int} {good : Bool} {xs : List Call} (h : OneSt k row good xs) : searchL (xs.map openC) = ([], true, 0) := by
  have hb : best (xs.map openC) = some [] := best_open fun x hx => by obtain ⟨y, _, rfl⟩ := List.mem_map.1 hx; rfl
  have h8 := h.len
  unfold searchL
  rw [if_neg (by rw [checkL_of h.goodO]; decide), if_neg (by simp; omega), hb]

set_option maxRecDepth 100000 in
set_option maxHeartbeats 16000000 in
theorem oneby18_calls (A : Option Addr) (c n : Nat) (l : List Step) (hn : n = l.length) (w : World) (hl : l.length ≤ 281474976710656) (hv : ∀ x ∈ l, x.op.value.size ≤ 9223372036854775807) (ha : Rd Step.cells 9 w w.heap.size A l) :
    Calls Try.prog 4 #[.slice A n c] w fun e w' => e = .returned (.bool true) ∧ Below w.heap.size w w' := by
  subst hn
  have HA := Lib.hid ha
  have HV := Lib.hid hv
  clear ha hv
  go_enter Try.func4, Try.ntmps4
  go_wp2_with fail
  go_loopg [8, 3, 4, 5, 6, 7] l.length (fun gk i v3 v4 v5 v6 v7 wr => ∃ k : Nat, ∃ xs A3 c3 A4 c4 A5 c5 row good b, gk + k = l.length ∧ i = .int .i64 k ∧ v3 = .slice A3 xs.length c3 ∧ v4 = .slice A4 xs.length c4 ∧ v5 = .slice A5 (cellsOf xs).length c5 ∧ v6 = .int .i64 row ∧ v7 = .bool good ∧ Hid (OneSt k row good xs) ∧ Hid (OneX w wr b (.slice A3 xs.length c3) (.slice A4 xs.length c4) A5 (cellsOf xs) xs (xs.map openC)))
  case atStart => exact ⟨0, [], none, 0, none, 0, none, 0, 0, true, w.heap.size, rfl, rfl, rfl, rfl, rfl, rfl, rfl, OneSt.nil, OneX.nil w⟩
  case round =>
    obtain ⟨k, xs, A3, c3, A4, c4, A5, c5, row, good, b, hk, rfl, rfl, rfl, rfl, rfl, rfl, hst, hox⟩ := hrel
    obtain ⟨wo, hwo⟩ : ∃ wo, wo = wr := ⟨_, rfl⟩
    subst hwo
    by_cases h1 : k < l.length
    · have g1 : (k:Int) < (l.length : Int) := by omega
      have i1 : (0:Int) ≤ (k:Int) := by omega
      by_cases h8 : xs.length < 8
      · have g8 : decide ((xs.length : Int) < 8) = true := decide_eq_true (by omega)
        have g8n : decide (xs.length < 8) = true := decide_eq_true h8
        obtain ⟨ad, hA, hal, hca⟩ := (HA.out.below hox.out.bel).at_ h1
        have hvx := HV.out _ (List.getElem_mem h1)
        have s0 := hca 0 _ rfl
        have s1 := hca 1 _ rfl
        have s2 := hca 2 _ rfl
        have HCA := Lib.hid hca
        cases hA
        clear hca
        generalize l[k] = x at *
        have hadd0 : (ad.add (k * 9)).add 0 = ad.add (k * 9) := rfl
        have hp0 : wo.cell? (ad.add (k * 9)) = some (.int .i64 x.op.kind) := s0
        have hp1 : wo.cell? ⟨(ad.add (k * 9)).block, (ad.add (k * 9)).off + 1, none⟩ = some (.int .i64 x.op.slot) := s1
        have hp2 : wo.cell? ⟨(ad.add (k * 9)).block, (ad.add (k * 9)).off + 2, none⟩ = some (.string x.op.value) := s2
        clear s0 s1 s2 hadd0
        go_wp2_with fail
        refine (check_ref x.op hvx wo).mono ?_
        rintro e w3 ⟨rfl, hb3⟩
        have HOX3 := Lib.hid (hox.out.fresh hb3 (Nat.le_refl _))
        have HB3 := Lib.hid hb3
        have hadb : (ad.add (k * 9)).block < w.heap.size := by rw [block_add]; exact hal
        have hwz : w.heap.size ≤ wo.heap.size := hox.out.bel.size
        have HAT : Hid (∀ W, Below wo.heap.size wo W → At W (ad.add (k * 9)) x.cells) := fun W hW => HCA.out.keep fun q hq => hW.cell (by rw [hq]; omega)
        clear hb3 hp0 hp1 hp2
        by_cases hc0 : checkOp x.op = 0
        · rw [hc0]
          have HC0 := Lib.hid hc0
          have ha3 := HAT.out w3 HB3.out
          have p0 : w3.cell? (ad.add (k * 9)) = some (.int .i64 x.op.kind) := ha3 0 _ rfl
          have p1 : w3.cell? ⟨(ad.add (k * 9)).block, (ad.add (k * 9)).off + 1, none⟩ = some (.int .i64 x.op.slot) := ha3 1 _ rfl
          have p2 : w3.cell? ⟨(ad.add (k * 9)).block, (ad.add (k * 9)).off + 2, none⟩ = some (.string x.op.value) := ha3 2 _ rfl
          have p3 : w3.cell? ⟨(ad.add (k * 9)).block, (ad.add (k * 9)).off + 3, none⟩ = some (.int .i64 x.wait) := ha3 3 _ rfl
          have p4 : w3.cell? ⟨(ad.add (k * 9)).block, (ad.add (k * 9)).off + 4, none⟩ = some (.int .i64 x.last) := ha3 4 _ rfl
          obtain ⟨u1, hu1⟩ : ∃ u1, u1 = withinL x.wait := ⟨_, rfl⟩
          obtain ⟨u2, hu2⟩ : ∃ u2, u2 = withinL x.last := ⟨_, rfl⟩
          have hu1b := withinL_le x.wait
          have hu2b := withinL_le x.last
          rw [← hu1] at hu1b
          rw [← hu2] at hu2b
          obtain ⟨hrow0, hrow1⟩ := hst.out.row0
          have q1 : IntKind.i64.wrap (row + 1) = row + 1 := IntWalk.i64_in _ (by omega)
          have q2 : IntKind.i64.wrap (row + 1 + u1) = row + 1 + u1 := IntWalk.i64_in _ (by omega)
          have q3 : IntKind.i64.wrap (row + 1 + u1 + 1) = row + 1 + u1 + 1 := IntWalk.i64_in _ (by omega)
          have q5 : IntKind.i64.wrap (1 + (k:Int)) = (k:Int) + 1 := by rw [IntWalk.i64_in _ (by omega)]; omega
          have q7 : (k:Int).tmod 16 = (k:Int) % 16 := Int.tmod_eq_emod_of_nonneg (by omega)
          have q6 : IntKind.i64.wrap ((k:Int) % 16) = (k:Int) % 16 := IntWalk.i64_in _ (by omega)
          have HU1 := Lib.hid hu1
          have HU2 := Lib.hid hu2
          clear hu1 hu2 ha3 hc0
          dsimp only
          go_wp2_with fail
          refine (within18 x.wait w3).mono ?_
          rintro e w4 ⟨rfl, rfl⟩
          rw [← HU1.out]
          dsimp only
          go_upto_region 10 with fail
          obtain ⟨bg, hbg⟩ : ∃ bg, bg = row + 1 + u1 := ⟨_, rfl⟩
          obtain ⟨fn, hfn⟩ : ∃ fn, fn = row + 1 + u1 + 1 + u2 := ⟨_, rfl⟩
          have hbf : row < bg ∧ bg < fn ∧ fn ≤ row + 12 := by omega
          have HBF := Lib.hid hbf
          rw [← hbg] at q3
          have q4 : IntKind.i64.wrap (bg + 1 + u2) = fn := by rw [IntWalk.i64_in _ (by omega)]; omega
          rw [← hbg]
          have hlt3 : (ad.add (k * 9)).block < w4.heap.size := by have := HB3.out.size; omega
          clear hbg hbf hfn q2 hrow1
          go_cut [9] (fun s9 wx => s9 = .pointer (some ⟨w4.heap.size, 0, none⟩) ∧ wx.heap[w4.heap.size]? = some (.cells #[.int .i64 ((k:Int) % 16), .int .i64 ((k:Int) + 1), .int .i64 x.op.kind, .int .i64 x.op.slot, .string x.op.value, .int .i64 bg, .int .i64 fn, .int .i64 0, .int .i64 0, .string ⟨#[]⟩] 45 (0, 0)) ∧ Below w4.heap.size w4 wx)
          case first =>
            go_region_held3 (fun w' => w'.cell? (ad.add (k * 9)) = some (.int .i64 x.op.kind) ∧ w'.cell? ⟨(ad.add (k * 9)).block, (ad.add (k * 9)).off + 1, none⟩ = some (.int .i64 x.op.slot) ∧ w'.cell? ⟨(ad.add (k * 9)).block, (ad.add (k * 9)).off + 2, none⟩ = some (.string x.op.value) ∧ w'.cell? ⟨(ad.add (k * 9)).block, (ad.add (k * 9)).off + 4, none⟩ = some (.int .i64 x.last))
              (first
                | go_keep
                | (go_split_ands
                   refine ⟨?_, ?_, ?_, ?_⟩
                   · (rw [World.cell?_alloc_lt _ _ _ (by exact hlt3)]; assumption)
                   · (rw [World.cell?_alloc_lt _ _ _ (by exact hlt3)]; assumption)
                   · (rw [World.cell?_alloc_lt _ _ _ (by exact hlt3)]; assumption)
                   · (rw [World.cell?_alloc_lt _ _ _ (by exact hlt3)]; assumption)))
              (first
                | (go_at_call 17; refine (within18 x.last _).mono ?_; rintro e w' ⟨rfl, hw'⟩; rw [hw', ← HU2.out]; clear hw' w'))
            all_goals
              go_wp2_with fail
              go_meet
              exact ⟨rfl, heap_alloc_new w4 _, below_drewL ((Below.refl _ w4).alloc (Nat.le_refl _) _)⟩
          case rest =>
            obtain ⟨rfl, k5, hb5⟩ := hcut
            obtain ⟨W5, hW5⟩ : ∃ W5 : World, W5 = wc := ⟨_, rfl⟩
            subst hW5
            have hox5 := HOX3.out.fresh hb5 (Nat.le_refl _)
            have HOX5 := Lib.hid hox5
            have HB5 := Lib.hid (HB3.out.trans (hb5.mono HB3.out.size))
            have hlt5 : w4.heap.size < W5.heap.size := (Array.getElem?_eq_some_iff.1 k5).1
            have K5 := Lib.hid k5
            have x2 : W5.cell? ⟨w4.heap.size, 2, none⟩ = some (.int .i64 x.op.kind) := cell_of_row _ _ 2 _ _ _ k5
            have x3 : W5.cell? ⟨w4.heap.size, 3, none⟩ = some (.int .i64 x.op.slot) := cell_of_row _ _ 3 _ _ _ k5
            have x4 : W5.cell? ⟨w4.heap.size, 4, none⟩ = some (.string x.op.value) := cell_of_row _ _ 4 _ _ _ k5
            have x6 : W5.cell? ⟨w4.heap.size, 6, none⟩ = some (.int .i64 fn) := cell_of_row _ _ 6 _ _ _ k5
            clear hb5 hox5 k5 p0 p1 p2 p3 p4 q3 q4 q5 q6 q7
            go_wp2_with fail
            refine (do_ref A5 c5 (cellsOf xs).length (cellsOf xs) x.op rfl hvx W5 HOX5.out.rc hst.out.rising).mono ?_
            rintro e W6 ⟨A7, c7, rfl, hrd7, hA7, hb6⟩
            have hox6 := HOX5.out.cells hb6 hlt5 hrd7 hA7
            have k6 := (hb6.block _ hlt5).trans K5.out
            have hlt6 : w4.heap.size < W6.heap.size := (Array.getElem?_eq_some_iff.1 k6).1
            have HB6 := Lib.hid (HB5.out.trans (hb6.mono HB5.out.size))
            obtain ⟨r, hr⟩ : ∃ r, r = would (cellsOf xs) x.op := ⟨_, rfl⟩
            obtain ⟨cs7, hcs7⟩ : ∃ cs7, cs7 = after (cellsOf xs) x.op := ⟨_, rfl⟩
            rw [← hr, ← hcs7]
            rw [← hcs7] at hox6
            have HR := Lib.hid hr
            have HCS7 := Lib.hid hcs7
            obtain ⟨S0, hS0⟩ : ∃ S0, S0 = W6.alloc (.cells #[.int .i64 r.code, .int .i64 r.slot, .string r.value] 40) := ⟨_, rfl⟩
            have b0 : Below W6.heap.size W6 S0 := by rw [hS0]; exact (Below.refl _ _).alloc (Nat.le_refl _) _
            have k0 : S0.heap[w4.heap.size]? = _ := (b0.block _ hlt6).trans k6
            have o0 := hox6.step b0
            have z0 : S0.heap[W6.heap.size]? = some (.cells #[.int .i64 r.code, .int .i64 r.slot, .string r.value] 40 (0, 0)) := by rw [hS0]; exact heap_alloc_new _ _
            have hz0 : S0.heap.size = W6.heap.size + 1 := by rw [hS0]; simp
            have bw0 : Below wo.heap.size wo S0 := HB6.out.trans (b0.mono HB6.out.size)
            have hne : W6.heap.size ≠ w4.heap.size := by omega
            have hcl : 0 ≤ (k:Int) % 16 ∧ (k:Int) % 16 < 16 := ⟨Int.emod_nonneg _ (by decide), Int.emod_lt_of_pos _ (by decide)⟩
            obtain ⟨cl, hcl2⟩ : ∃ cl, cl = (k:Int) % 16 := ⟨_, rfl⟩
            rw [← hcl2] at k0 hcl
            have HCL := Lib.hid hcl
            clear hr hcs7 hrd7 hA7 hb6 k6 hcl hcl2 x2 x3 x4 x6 b0 hox6
            have zz0 : S0.cell? ⟨W6.heap.size, 0, none⟩ = some (.int .i64 r.code) := cell_of_row _ _ 0 _ _ _ z0
            have zz1 : S0.cell? ⟨W6.heap.size, 1, none⟩ = some (.int .i64 r.slot) := cell_of_row _ _ 1 _ _ _ z0
            have zz2 : S0.cell? ⟨W6.heap.size, 2, none⟩ = some (.string r.value) := cell_of_row _ _ 2 _ _ _ z0
            have gS1_7 : S0.cell? ⟨w4.heap.size, 7, none⟩ = some (.int .i64 0) := cell_of_row _ _ 7 _ _ _ k0
            have fS1_7 : S0.frozen? ⟨w4.heap.size, 7, none⟩ = false := frozen_of_row _ _ _ _ _ k0
            have gS1_8 : S0.cell? ⟨w4.heap.size, 8, none⟩ = some (.int .i64 0) := cell_of_row _ _ 8 _ _ _ k0
            have fS1_8 : S0.frozen? ⟨w4.heap.size, 8, none⟩ = false := frozen_of_row _ _ _ _ _ k0
            have gS1_9 : S0.cell? ⟨w4.heap.size, 9, none⟩ = some (.string ⟨#[]⟩) := cell_of_row _ _ 9 _ _ _ k0
            have fS1_9 : S0.frozen? ⟨w4.heap.size, 9, none⟩ = false := frozen_of_row _ _ _ _ _ k0
            obtain ⟨S1, hS1⟩ : ∃ W', W' = S0.setCell ⟨w4.heap.size, 7, none⟩ (.int .i64 r.code) := ⟨_, rfl⟩
            have kS1 : S1.heap[w4.heap.size]? = some (.cells #[.int .i64 cl, .int .i64 ((k:Int) + 1), .int .i64 x.op.kind, .int .i64 x.op.slot, .string x.op.value, .int .i64 bg, .int .i64 fn, .int .i64 r.code, .int .i64 0, .string ⟨#[]⟩] 45 (0, 0)) := by rw [hS1]; exact row_set k0 7 _
            have oS1 := o0.set 7 (.int .i64 r.code)
            rw [← hS1] at oS1
            have bS1 : Below wo.heap.size wo S1 := by rw [hS1]; exact bw0.setCell (p := ⟨w4.heap.size, 7, none⟩) (by show wo.heap.size ≤ w4.heap.size; have := HB3.out.size; omega) _
            have zS1 := (by rw [hS1]; exact Below.heap_setCell _ _ _ _ hne : S1.heap[W6.heap.size]? = S0.heap[W6.heap.size]?).trans z0
            have gS2_8 : S1.cell? ⟨w4.heap.size, 8, none⟩ = some (.int .i64 0) := cell_of_row _ _ 8 _ _ _ kS1
            rw [hS1] at gS2_8
            have fS2_8 : S1.frozen? ⟨w4.heap.size, 8, none⟩ = false := frozen_of_row _ _ _ _ _ kS1
            rw [hS1] at fS2_8
            have gS2_9 : S1.cell? ⟨w4.heap.size, 9, none⟩ = some (.string ⟨#[]⟩) := cell_of_row _ _ 9 _ _ _ kS1
            rw [hS1] at gS2_9
            have fS2_9 : S1.frozen? ⟨w4.heap.size, 9, none⟩ = false := frozen_of_row _ _ _ _ _ kS1
            rw [hS1] at fS2_9
            obtain ⟨S2, hS2⟩ : ∃ W', W' = S1.setCell ⟨w4.heap.size, 8, none⟩ (.int .i64 r.slot) := ⟨_, rfl⟩
            have kS2 : S2.heap[w4.heap.size]? = some (.cells #[.int .i64 cl, .int .i64 ((k:Int) + 1), .int .i64 x.op.kind, .int .i64 x.op.slot, .string x.op.value, .int .i64 bg, .int .i64 fn, .int .i64 r.code, .int .i64 r.slot, .string ⟨#[]⟩] 45 (0, 0)) := by rw [hS2]; exact row_set kS1 8 _
            have oS2 := oS1.set 8 (.int .i64 r.slot)
            rw [← hS2] at oS2
            have bS2 : Below wo.heap.size wo S2 := by rw [hS2]; exact bS1.setCell (p := ⟨w4.heap.size, 8, none⟩) (by show wo.heap.size ≤ w4.heap.size; have := HB3.out.size; omega) _
            have zS2 := (by rw [hS2]; exact Below.heap_setCell _ _ _ _ hne : S2.heap[W6.heap.size]? = S1.heap[W6.heap.size]?).trans zS1
            have gS3_9 : S2.cell? ⟨w4.heap.size, 9, none⟩ = some (.string ⟨#[]⟩) := cell_of_row _ _ 9 _ _ _ kS2
            rw [hS2, hS1] at gS3_9
            have fS3_9 : S2.frozen? ⟨w4.heap.size, 9, none⟩ = false := frozen_of_row _ _ _ _ _ kS2
            rw [hS2, hS1] at fS3_9
            obtain ⟨S3, hS3⟩ : ∃ W', W' = S2.setCell ⟨w4.heap.size, 9, none⟩ (.string r.value) := ⟨_, rfl⟩
            have kS3 : S3.heap[w4.heap.size]? = some (.cells #[.int .i64 cl, .int .i64 ((k:Int) + 1), .int .i64 x.op.kind, .int .i64 x.op.slot, .string x.op.value, .int .i64 bg, .int .i64 fn, .int .i64 r.code, .int .i64 r.slot, .string r.value] 45 (0, 0)) := by rw [hS3]; exact row_set kS2 9 _
            have oS3 := oS2.set 9 (.string r.value)
            rw [← hS3] at oS3
            have bS3 : Below wo.heap.size wo S3 := by rw [hS3]; exact bS2.setCell (p := ⟨w4.heap.size, 9, none⟩) (by show wo.heap.size ≤ w4.heap.size; have := HB3.out.size; omega) _
            have zS3 := (by rw [hS3]; exact Below.heap_setCell _ _ _ _ hne : S3.heap[W6.heap.size]? = S2.heap[W6.heap.size]?).trans zS2
            have H_hS0 := Lib.hid hS0
            have H_hS1 := Lib.hid hS1
            have H_hS2 := Lib.hid hS2
            have H_hS3 := Lib.hid hS3
            have H_kS1 := Lib.hid kS1
            have H_kS2 := Lib.hid kS2
            have H_kS3 := Lib.hid kS3
            have H_oS1 := Lib.hid oS1
            have H_oS2 := Lib.hid oS2
            have H_oS3 := Lib.hid oS3
            have H_zS1 := Lib.hid zS1
            have H_zS2 := Lib.hid zS2
            have H_zS3 := Lib.hid zS3
            have H_bS1 := Lib.hid bS1
            have H_bS2 := Lib.hid bS2
            have H_bS3 := Lib.hid bS3
            have H_k0 := Lib.hid k0
            have H_o0 := Lib.hid o0
            have H_z0 := Lib.hid z0
            have H_bw0 := Lib.hid bw0
            have H_hz0 := Lib.hid hz0
            clear hS0 hS1 hS2 hS3 kS1 kS2 kS3 oS1 oS2 oS3 zS1 zS2 zS3 bS1 bS2 bS3 k0 o0 z0 bw0 hz0
            dsimp only
            go_upto_region 14 with fail
            rw [← H_hS0.out]
            go_upto_region 15 with fail
            rw [← H_hS1.out, ← H_hS2.out, ← H_hS3.out]
            clear zz0 zz1 zz2 gS1_7 fS1_7 gS1_8 fS1_8 gS1_9 fS1_9 gS2_8 fS2_8 gS2_9 fS2_9 gS3_9 fS3_9
            have pa := HAT.out S3 H_bS3.out
            have p5 : S3.cell? ⟨(ad.add (k * 9)).block, (ad.add (k * 9)).off + 5, none⟩ = some (.bool x.right) := pa 5 _ rfl
            have p6 : S3.cell? ⟨(ad.add (k * 9)).block, (ad.add (k * 9)).off + 6, none⟩ = some (.int .i64 x.res.code) := pa 6 _ rfl
            have p7 : S3.cell? ⟨(ad.add (k * 9)).block, (ad.add (k * 9)).off + 7, none⟩ = some (.int .i64 x.res.slot) := pa 7 _ rfl
            have p8 : S3.cell? ⟨(ad.add (k * 9)).block, (ad.add (k * 9)).off + 8, none⟩ = some (.string x.res.value) := pa 8 _ rfl
            clear pa
            obtain ⟨rt, hrt⟩ : ∃ rt, rt = x.right := ⟨_, rfl⟩
            rw [← hrt] at p5
            clear hrt
            cases rt
            · skip
              have hsn := hst.out.snoc (x := (⟨cl, (k:Int) + 1, x.op, bg, fn, x.res⟩ : Call)) h8 HBF.out.1 HBF.out.2.1 HBF.out.2.2 rfl HCL.out HC0.out
              have HSN := Lib.hid hsn
              clear hsn
              have kS3 := H_kS3.out
              have oS3 := H_oS3.out
              have bS3 := H_bS3.out
              have zS3 := H_zS3.out
              have gR1_7 : S3.cell? ⟨w4.heap.size, 7, none⟩ = some (.int .i64 r.code) := cell_of_row _ _ 7 _ _ _ kS3
              have fR1_7 : S3.frozen? ⟨w4.heap.size, 7, none⟩ = false := frozen_of_row _ _ _ _ _ kS3
              have gR1_8 : S3.cell? ⟨w4.heap.size, 8, none⟩ = some (.int .i64 r.slot) := cell_of_row _ _ 8 _ _ _ kS3
              have fR1_8 : S3.frozen? ⟨w4.heap.size, 8, none⟩ = false := frozen_of_row _ _ _ _ _ kS3
              have gR1_9 : S3.cell? ⟨w4.heap.size, 9, none⟩ = some (.string r.value) := cell_of_row _ _ 9 _ _ _ kS3
              have fR1_9 : S3.frozen? ⟨w4.heap.size, 9, none⟩ = false := frozen_of_row _ _ _ _ _ kS3
              obtain ⟨R1, hR1⟩ : ∃ W', W' = S3.setCell ⟨w4.heap.size, 7, none⟩ (.int .i64 x.res.code) := ⟨_, rfl⟩
              have kR1 : R1.heap[w4.heap.size]? = some (.cells #[.int .i64 cl, .int .i64 ((k:Int) + 1), .int .i64 x.op.kind, .int .i64 x.op.slot, .string x.op.value, .int .i64 bg, .int .i64 fn, .int .i64 x.res.code, .int .i64 r.slot, .string r.value] 45 (0, 0)) := by rw [hR1]; exact row_set kS3 7 _
              have oR1 := oS3.set 7 (.int .i64 x.res.code)
              rw [← hR1] at oR1
              have bR1 : Below wo.heap.size wo R1 := by rw [hR1]; exact bS3.setCell (p := ⟨w4.heap.size, 7, none⟩) (by show wo.heap.size ≤ w4.heap.size; have := HB3.out.size; omega) _
              have zR1 := (by rw [hR1]; exact Below.heap_setCell _ _ _ _ hne : R1.heap[W6.heap.size]? = S3.heap[W6.heap.size]?).trans zS3
              have gR2_8 : R1.cell? ⟨w4.heap.size, 8, none⟩ = some (.int .i64 r.slot) := cell_of_row _ _ 8 _ _ _ kR1
              rw [hR1] at gR2_8
              have fR2_8 : R1.frozen? ⟨w4.heap.size, 8, none⟩ = false := frozen_of_row _ _ _ _ _ kR1
              rw [hR1] at fR2_8
              have gR2_9 : R1.cell? ⟨w4.heap.size, 9, none⟩ = some (.string r.value) := cell_of_row _ _ 9 _ _ _ kR1
              rw [hR1] at gR2_9
              have fR2_9 : R1.frozen? ⟨w4.heap.size, 9, none⟩ = false := frozen_of_row _ _ _ _ _ kR1
              rw [hR1] at fR2_9
              obtain ⟨R2, hR2⟩ : ∃ W', W' = R1.setCell ⟨w4.heap.size, 8, none⟩ (.int .i64 x.res.slot) := ⟨_, rfl⟩
              have kR2 : R2.heap[w4.heap.size]? = some (.cells #[.int .i64 cl, .int .i64 ((k:Int) + 1), .int .i64 x.op.kind, .int .i64 x.op.slot, .string x.op.value, .int .i64 bg, .int .i64 fn, .int .i64 x.res.code, .int .i64 x.res.slot, .string r.value] 45 (0, 0)) := by rw [hR2]; exact row_set kR1 8 _
              have oR2 := oR1.set 8 (.int .i64 x.res.slot)
              rw [← hR2] at oR2
              have bR2 : Below wo.heap.size wo R2 := by rw [hR2]; exact bR1.setCell (p := ⟨w4.heap.size, 8, none⟩) (by show wo.heap.size ≤ w4.heap.size; have := HB3.out.size; omega) _
              have zR2 := (by rw [hR2]; exact Below.heap_setCell _ _ _ _ hne : R2.heap[W6.heap.size]? = R1.heap[W6.heap.size]?).trans zR1
              have gR3_9 : R2.cell? ⟨w4.heap.size, 9, none⟩ = some (.string r.value) := cell_of_row _ _ 9 _ _ _ kR2
              rw [hR2, hR1] at gR3_9
              have fR3_9 : R2.frozen? ⟨w4.heap.size, 9, none⟩ = false := frozen_of_row _ _ _ _ _ kR2
              rw [hR2, hR1] at fR3_9
              obtain ⟨R3, hR3⟩ : ∃ W', W' = R2.setCell ⟨w4.heap.size, 9, none⟩ (.string x.res.value) := ⟨_, rfl⟩
              have kR3 : R3.heap[w4.heap.size]? = some (.cells #[.int .i64 cl, .int .i64 ((k:Int) + 1), .int .i64 x.op.kind, .int .i64 x.op.slot, .string x.op.value, .int .i64 bg, .int .i64 fn, .int .i64 x.res.code, .int .i64 x.res.slot, .string x.res.value] 45 (0, 0)) := by rw [hR3]; exact row_set kR2 9 _
              have oR3 := oR2.set 9 (.string x.res.value)
              rw [← hR3] at oR3
              have bR3 : Below wo.heap.size wo R3 := by rw [hR3]; exact bR2.setCell (p := ⟨w4.heap.size, 9, none⟩) (by show wo.heap.size ≤ w4.heap.size; have := HB3.out.size; omega) _
              have zR3 := (by rw [hR3]; exact Below.heap_setCell _ _ _ _ hne : R3.heap[W6.heap.size]? = R2.heap[W6.heap.size]?).trans zR2
              have H_kS3 := Lib.hid kS3
              have H_oS3 := Lib.hid oS3
              have H_bS3 := Lib.hid bS3
              have H_zS3 := Lib.hid zS3
              have H_hR1 := Lib.hid hR1
              have H_hR2 := Lib.hid hR2
              have H_hR3 := Lib.hid hR3
              have H_kR1 := Lib.hid kR1
              have H_kR2 := Lib.hid kR2
              have H_kR3 := Lib.hid kR3
              have H_oR1 := Lib.hid oR1
              have H_oR2 := Lib.hid oR2
              have H_oR3 := Lib.hid oR3
              have H_bR1 := Lib.hid bR1
              have H_bR2 := Lib.hid bR2
              have H_bR3 := Lib.hid bR3
              have H_zR1 := Lib.hid zR1
              have H_zR2 := Lib.hid zR2
              have H_zR3 := Lib.hid zR3
              clear kS3 oS3 bS3 zS3 hR1 hR2 hR3 kR1 kR2 kR3 oR1 oR2 oR3 bR1 bR2 bR3 zR1 zR2 zR3
              go_upto_region 17 with fail
              rw [← H_hR1.out, ← H_hR2.out, ← H_hR3.out]
              clear p5 p6 p7 p8 gR1_7 fR1_7 gR1_8 fR1_8 gR1_9 fR1_9 gR2_8 fR2_8 gR2_9 fR2_9 gR3_9 fR3_9
              have kR3 := H_kR3.out
              have oR3 := H_oR3.out
              have zR3 := H_zR3.out
              have zr0 : R3.cell? ⟨W6.heap.size, 0, none⟩ = some (.int .i64 r.code) := cell_of_row _ _ 0 _ _ _ zR3
              have zr1 : R3.cell? ⟨W6.heap.size, 1, none⟩ = some (.int .i64 r.slot) := cell_of_row _ _ 1 _ _ _ zR3
              have zr2 : R3.cell? ⟨W6.heap.size, 2, none⟩ = some (.string r.value) := cell_of_row _ _ 2 _ _ _ zR3
              have xr0 : R3.cell? ⟨w4.heap.size, 7, none⟩ = some (.int .i64 x.res.code) := cell_of_row _ _ 7 _ _ _ kR3
              have xr1 : R3.cell? ⟨w4.heap.size, 8, none⟩ = some (.int .i64 x.res.slot) := cell_of_row _ _ 8 _ _ _ kR3
              have xr2 : R3.cell? ⟨w4.heap.size, 9, none⟩ = some (.string x.res.value) := cell_of_row _ _ 9 _ _ _ kR3
              clear zR3
              have he := eql_res x.res r
              have hge := guard_res
              obtain ⟨eq, heq⟩ : ∃ eq, eq = decide (x.res = r) := ⟨_, rfl⟩
              rw [← heq] at he
              have HEQ := Lib.hid heq
              clear heq
              cases good
              · skip
                go_upto_region 18 with fail
                clear zr0 zr1 zr2 xr0 xr1 xr2 he hge
                have l0 : R3.cell? ⟨w4.heap.size, 0, none⟩ = some (.int .i64 cl) := cell_of_row _ _ 0 _ _ _ kR3
                have l1 : R3.cell? ⟨w4.heap.size, 1, none⟩ = some (.int .i64 ((k:Int) + 1)) := cell_of_row _ _ 1 _ _ _ kR3
                have l2 : R3.cell? ⟨w4.heap.size, 2, none⟩ = some (.int .i64 x.op.kind) := cell_of_row _ _ 2 _ _ _ kR3
                have l3 : R3.cell? ⟨w4.heap.size, 3, none⟩ = some (.int .i64 x.op.slot) := cell_of_row _ _ 3 _ _ _ kR3
                have l4 : R3.cell? ⟨w4.heap.size, 4, none⟩ = some (.string x.op.value) := cell_of_row _ _ 4 _ _ _ kR3
                have l5 : R3.cell? ⟨w4.heap.size, 5, none⟩ = some (.int .i64 bg) := cell_of_row _ _ 5 _ _ _ kR3
                have l6 : R3.cell? ⟨w4.heap.size, 6, none⟩ = some (.int .i64 fn) := cell_of_row _ _ 6 _ _ _ kR3
                have l7 : R3.cell? ⟨w4.heap.size, 7, none⟩ = some (.int .i64 x.res.code) := cell_of_row _ _ 7 _ _ _ kR3
                have l8 : R3.cell? ⟨w4.heap.size, 8, none⟩ = some (.int .i64 x.res.slot) := cell_of_row _ _ 8 _ _ _ kR3
                have l9 : R3.cell? ⟨w4.heap.size, 9, none⟩ = some (.string x.res.value) := cell_of_row _ _ 9 _ _ _ kR3
                have OE := Lib.hid oR3
                have KE := Lib.hid kR3
                have hltE : w4.heap.size < R3.heap.size := (Array.getElem?_eq_some_iff.1 kR3).1
                clear oR3 kR3
                go_upto_region 19 with (at_builtin; go_loud (refine wpList_app (v := .slice A3 xs.length c3) (xs := xs) (ys := [(⟨cl, (k:Int) + 1, x.op, bg, fn, x.res⟩ : Call)]) rowCall encCall rfl (.tmp 97) (.tmp 99) rfl w.heap.size rfl (OE.out.m3.alloc _) rfl rfl (rd_at encCall _ (⟨cl, (k:Int) + 1, x.op, bg, fn, x.res⟩ : Call) #[.int .i64 cl, .int .i64 ((k:Int) + 1), .int .i64 x.op.kind, .int .i64 x.op.slot, .string x.op.value, .int .i64 bg, .int .i64 fn, .int .i64 x.res.code, .int .i64 x.res.slot, .string x.res.value] rfl 45 (by simp) (Nat.lt_succ_self _)) (by simp only [List.length_singleton]; omega) (by unfold maxLen; simp only [List.length_singleton]; omega) (Nat.le_trans OE.out.bel.size (by simp)) ?_); go_loud (intro v7 w7 hm7 hg7 hat7); go_loud (obtain ⟨Aq, cq, rfl, hcq⟩ := hm7.form); go_loud (have oA := OE.out.step (W' := R3.alloc (.cells #[.int .i64 cl, .int .i64 ((k:Int) + 1), .int .i64 x.op.kind, .int .i64 x.op.slot, .string x.op.value, .int .i64 bg, .int .i64 fn, .int .i64 x.res.code, .int .i64 x.res.slot, .string x.res.value] 45)) ((Below.refl _ _).alloc (Nat.le_refl _) _)); go_loud (obtain ⟨o7, k7'⟩ := oA.push3 (Nat.lt_of_lt_of_le hltE (by simp)) hm7 hg7 hat7); go_loud (have k7 := k7'.trans ((heap_alloc_old _ _ hltE).trans KE.out)); go_loud (have hln7 : (xs ++ [(⟨cl, (k:Int) + 1, x.op, bg, fn, x.res⟩ : Call)]).length = xs.length + 1 := by simp); go_loud (rw [hln7]); go_loud (rw [hln7] at o7); go_loud (have O7 := Lib.hid o7; have K7 := Lib.hid k7); go_loud (clear hg7 hat7 oA k7' hm7 hln7 hcq o7 k7))
                clear hltE l0 l1 l2 l3 l4 l5 l6 l7 l8 l9
                have o7 := O7.out
                have k7 := K7.out
                have gT1_6 : w7.cell? ⟨w4.heap.size, 6, none⟩ = some (.int .i64 fn) := cell_of_row _ _ 6 _ _ _ k7
                have fT1_6 : w7.frozen? ⟨w4.heap.size, 6, none⟩ = false := frozen_of_row _ _ _ _ _ k7
                obtain ⟨T1, hT1⟩ : ∃ W', W' = w7.setCell ⟨w4.heap.size, 6, none⟩ (.int .i64 (-1)) := ⟨_, rfl⟩
                have kT1 : T1.heap[w4.heap.size]? = some (.cells #[.int .i64 cl, .int .i64 ((k:Int) + 1), .int .i64 x.op.kind, .int .i64 x.op.slot, .string x.op.value, .int .i64 bg, .int .i64 (-1), .int .i64 x.res.code, .int .i64 x.res.slot, .string x.res.value] 45 (0, 0)) := by rw [hT1]; exact row_set k7 6 _
                have oT1 := o7.set 6 (.int .i64 (-1))
                rw [← hT1] at oT1
                have H_o7 := Lib.hid o7
                have H_k7 := Lib.hid k7
                have H_oT1 := Lib.hid oT1
                have H_kT1 := Lib.hid kT1
                have H_hT1 := Lib.hid hT1
                clear o7 k7 oT1 kT1 hT1
                go_upto_region 20 with fail
                rw [← H_hT1.out]
                clear gT1_6 fT1_6
                have oT1 := H_oT1.out
                have kT1 := H_kT1.out
                have gU1_7 : T1.cell? ⟨w4.heap.size, 7, none⟩ = some (.int .i64 x.res.code) := cell_of_row _ _ 7 _ _ _ kT1
                have fU1_7 : T1.frozen? ⟨w4.heap.size, 7, none⟩ = false := frozen_of_row _ _ _ _ _ kT1
                have gU1_8 : T1.cell? ⟨w4.heap.size, 8, none⟩ = some (.int .i64 x.res.slot) := cell_of_row _ _ 8 _ _ _ kT1
                have fU1_8 : T1.frozen? ⟨w4.heap.size, 8, none⟩ = false := frozen_of_row _ _ _ _ _ kT1
                have gU1_9 : T1.cell? ⟨w4.heap.size, 9, none⟩ = some (.string x.res.value) := cell_of_row _ _ 9 _ _ _ kT1
                have fU1_9 : T1.frozen? ⟨w4.heap.size, 9, none⟩ = false := frozen_of_row _ _ _ _ _ kT1
                obtain ⟨U1, hU1⟩ : ∃ W', W' = T1.setCell ⟨w4.heap.size, 7, none⟩ (.int .i64 0) := ⟨_, rfl⟩
                have kU1 : U1.heap[w4.heap.size]? = some (.cells #[.int .i64 cl, .int .i64 ((k:Int) + 1), .int .i64 x.op.kind, .int .i64 x.op.slot, .string x.op.value, .int .i64 bg, .int .i64 (-1), .int .i64 0, .int .i64 x.res.slot, .string x.res.value] 45 (0, 0)) := by rw [hU1]; exact row_set kT1 7 _
                have oU1 := oT1.set 7 (.int .i64 0)
                rw [← hU1] at oU1
                have gU2_8 : U1.cell? ⟨w4.heap.size, 8, none⟩ = some (.int .i64 x.res.slot) := cell_of_row _ _ 8 _ _ _ kU1
                rw [hU1] at gU2_8
                have fU2_8 : U1.frozen? ⟨w4.heap.size, 8, none⟩ = false := frozen_of_row _ _ _ _ _ kU1
                rw [hU1] at fU2_8
                have gU2_9 : U1.cell? ⟨w4.heap.size, 9, none⟩ = some (.string x.res.value) := cell_of_row _ _ 9 _ _ _ kU1
                rw [hU1] at gU2_9
                have fU2_9 : U1.frozen? ⟨w4.heap.size, 9, none⟩ = false := frozen_of_row _ _ _ _ _ kU1
                rw [hU1] at fU2_9
                obtain ⟨U2, hU2⟩ : ∃ W', W' = U1.setCell ⟨w4.heap.size, 8, none⟩ (.int .i64 0) := ⟨_, rfl⟩
                have kU2 : U2.heap[w4.heap.size]? = some (.cells #[.int .i64 cl, .int .i64 ((k:Int) + 1), .int .i64 x.op.kind, .int .i64 x.op.slot, .string x.op.value, .int .i64 bg, .int .i64 (-1), .int .i64 0, .int .i64 0, .string x.res.value] 45 (0, 0)) := by rw [hU2]; exact row_set kU1 8 _
                have oU2 := oU1.set 8 (.int .i64 0)
                rw [← hU2] at oU2
                have gU3_9 : U2.cell? ⟨w4.heap.size, 9, none⟩ = some (.string x.res.value) := cell_of_row _ _ 9 _ _ _ kU2
                rw [hU2, hU1] at gU3_9
                have fU3_9 : U2.frozen? ⟨w4.heap.size, 9, none⟩ = false := frozen_of_row _ _ _ _ _ kU2
                rw [hU2, hU1] at fU3_9
                obtain ⟨U3, hU3⟩ : ∃ W', W' = U2.setCell ⟨w4.heap.size, 9, none⟩ (.string ⟨#[]⟩) := ⟨_, rfl⟩
                have kU3 : U3.heap[w4.heap.size]? = some (.cells #[.int .i64 cl, .int .i64 ((k:Int) + 1), .int .i64 x.op.kind, .int .i64 x.op.slot, .string x.op.value, .int .i64 bg, .int .i64 (-1), .int .i64 0, .int .i64 0, .string ⟨#[]⟩] 45 (0, 0)) := by rw [hU3]; exact row_set kU2 9 _
                have oU3 := oU2.set 9 (.string ⟨#[]⟩)
                rw [← hU3] at oU3
                have H_oT1 := Lib.hid oT1
                have H_kT1 := Lib.hid kT1
                have H_oU1 := Lib.hid oU1
                have H_kU1 := Lib.hid kU1
                have H_hU1 := Lib.hid hU1
                have H_oU2 := Lib.hid oU2
                have H_kU2 := Lib.hid kU2
                have H_hU2 := Lib.hid hU2
                have H_oU3 := Lib.hid oU3
                have H_kU3 := Lib.hid kU3
                have H_hU3 := Lib.hid hU3
                clear oT1 kT1 oU1 kU1 hU1 oU2 kU2 hU2 oU3 kU3 hU3
                go_upto_region 21 with fail
                rw [← H_hU1.out, ← H_hU2.out, ← H_hU3.out]
                clear gU1_7 fU1_7 gU1_8 fU1_8 gU1_9 fU1_9 gU2_8 fU2_8 gU2_9 fU2_9 gU3_9 fU3_9
                have kU3 := H_kU3.out
                have t0 : U3.cell? ⟨w4.heap.size, 0, none⟩ = some (.int .i64 cl) := cell_of_row _ _ 0 _ _ _ kU3
                have t1 : U3.cell? ⟨w4.heap.size, 1, none⟩ = some (.int .i64 ((k:Int) + 1)) := cell_of_row _ _ 1 _ _ _ kU3
                have t2 : U3.cell? ⟨w4.heap.size, 2, none⟩ = some (.int .i64 x.op.kind) := cell_of_row _ _ 2 _ _ _ kU3
                have t3 : U3.cell? ⟨w4.heap.size, 3, none⟩ = some (.int .i64 x.op.slot) := cell_of_row _ _ 3 _ _ _ kU3
                have t4 : U3.cell? ⟨w4.heap.size, 4, none⟩ = some (.string x.op.value) := cell_of_row _ _ 4 _ _ _ kU3
                have t5 : U3.cell? ⟨w4.heap.size, 5, none⟩ = some (.int .i64 bg) := cell_of_row _ _ 5 _ _ _ kU3
                have t6 : U3.cell? ⟨w4.heap.size, 6, none⟩ = some (.int .i64 (-1)) := cell_of_row _ _ 6 _ _ _ kU3
                have t7 : U3.cell? ⟨w4.heap.size, 7, none⟩ = some (.int .i64 0) := cell_of_row _ _ 7 _ _ _ kU3
                have t8 : U3.cell? ⟨w4.heap.size, 8, none⟩ = some (.int .i64 0) := cell_of_row _ _ 8 _ _ _ kU3
                have t9 : U3.cell? ⟨w4.heap.size, 9, none⟩ = some (.string ⟨#[]⟩) := cell_of_row _ _ 9 _ _ _ kU3
                have hltT : w4.heap.size < U3.heap.size := (Array.getElem?_eq_some_iff.1 kU3).1
                clear kU3
                go_wp2_with (at_builtin; go_loud (refine wpList_app (v := .slice A4 xs.length c4) (xs := xs.map openC) (ys := [openC (⟨cl, (k:Int) + 1, x.op, bg, fn, x.res⟩ : Call)]) rowCall encCall rfl (.tmp 104) (.tmp 106) rfl w.heap.size rfl (H_oU3.out.m4.alloc _) rfl rfl (rd_at encCall _ (openC (⟨cl, (k:Int) + 1, x.op, bg, fn, x.res⟩ : Call)) #[.int .i64 cl, .int .i64 ((k:Int) + 1), .int .i64 x.op.kind, .int .i64 x.op.slot, .string x.op.value, .int .i64 bg, .int .i64 (-1), .int .i64 0, .int .i64 0, .string ⟨#[]⟩] rfl 45 (by simp) (Nat.lt_succ_self _)) (by simp only [List.length_singleton, List.length_map]; omega) (by unfold maxLen; simp only [List.length_singleton, List.length_map]; omega) (Nat.le_trans H_oU3.out.bel.size (by simp)) ?_); go_loud (intro v9 w9 hm9 hg9 hat9); go_loud (obtain ⟨Ap, cp, rfl, hcp⟩ := hm9.form); go_loud (have oB := H_oU3.out.step (W' := U3.alloc (.cells #[.int .i64 cl, .int .i64 ((k:Int) + 1), .int .i64 x.op.kind, .int .i64 x.op.slot, .string x.op.value, .int .i64 bg, .int .i64 (-1), .int .i64 0, .int .i64 0, .string ⟨#[]⟩] 45)) ((Below.refl _ _).alloc (Nat.le_refl _) _)); go_loud (have o9 := oB.push4 (Nat.lt_of_lt_of_le hltT (by simp)) hm9 hg9 hat9); go_loud (have hln9 : (xs.map openC ++ [openC (⟨cl, (k:Int) + 1, x.op, bg, fn, x.res⟩ : Call)]).length = xs.length + 1 := by simp); go_loud (rw [hln9]); go_loud (rw [hln9] at o9); go_loud (have O9 := Lib.hid o9); go_loud (clear hm9 hg9 hat9 oB o9 hln9 hcp))
                go_roundg (gk - 1)
                case rel =>
                  have hcn : cs7 = cellsOf (xs ++ [(⟨cl, (k:Int) + 1, x.op, bg, fn, x.res⟩ : Call)]) := by rw [HCS7.out, cellsOf_snoc]
                  have hmp : xs.map openC ++ [openC (⟨cl, (k:Int) + 1, x.op, bg, fn, x.res⟩ : Call)] = (xs ++ [(⟨cl, (k:Int) + 1, x.op, bg, fn, x.res⟩ : Call)]).map openC := by simp
                  have hO9 := O9.out
                  rw [hcn, hmp] at hO9
                  have hl1 : (xs ++ [(⟨cl, (k:Int) + 1, x.op, bg, fn, x.res⟩ : Call)]).length = xs.length + 1 := by simp
                  refine ⟨k + 1, xs ++ [(⟨cl, (k:Int) + 1, x.op, bg, fn, x.res⟩ : Call)], Aq, cq, Ap, cp, A7, c7, fn, false, w4.heap.size, by omega, by go_num, by rw [hl1], by rw [hl1], by rw [← hcn], rfl, rfl, ?_, ?_⟩
                  · have hq := HSN.out; have hq2 : OneSt (k + 1) fn false (xs ++ [(⟨cl, (k:Int) + 1, x.op, bg, fn, x.res⟩ : Call)]) := by simpa using hq
                    exact hq2
                  · show OneX _ _ _ _ _ _ _ _ _
                    rw [hl1]
                    exact hO9
                case measure => omega
              · skip
                go_upto_region 18 with fail
                clear zr0 zr1 zr2 xr0 xr1 xr2 he hge
                have l0 : R3.cell? ⟨w4.heap.size, 0, none⟩ = some (.int .i64 cl) := cell_of_row _ _ 0 _ _ _ kR3
                have l1 : R3.cell? ⟨w4.heap.size, 1, none⟩ = some (.int .i64 ((k:Int) + 1)) := cell_of_row _ _ 1 _ _ _ kR3
                have l2 : R3.cell? ⟨w4.heap.size, 2, none⟩ = some (.int .i64 x.op.kind) := cell_of_row _ _ 2 _ _ _ kR3
                have l3 : R3.cell? ⟨w4.heap.size, 3, none⟩ = some (.int .i64 x.op.slot) := cell_of_row _ _ 3 _ _ _ kR3
                have l4 : R3.cell? ⟨w4.heap.size, 4, none⟩ = some (.string x.op.value) := cell_of_row _ _ 4 _ _ _ kR3
                have l5 : R3.cell? ⟨w4.heap.size, 5, none⟩ = some (.int .i64 bg) := cell_of_row _ _ 5 _ _ _ kR3
                have l6 : R3.cell? ⟨w4.heap.size, 6, none⟩ = some (.int .i64 fn) := cell_of_row _ _ 6 _ _ _ kR3
                have l7 : R3.cell? ⟨w4.heap.size, 7, none⟩ = some (.int .i64 x.res.code) := cell_of_row _ _ 7 _ _ _ kR3
                have l8 : R3.cell? ⟨w4.heap.size, 8, none⟩ = some (.int .i64 x.res.slot) := cell_of_row _ _ 8 _ _ _ kR3
                have l9 : R3.cell? ⟨w4.heap.size, 9, none⟩ = some (.string x.res.value) := cell_of_row _ _ 9 _ _ _ kR3
                have OE := Lib.hid oR3
                have KE := Lib.hid kR3
                have hltE : w4.heap.size < R3.heap.size := (Array.getElem?_eq_some_iff.1 kR3).1
                clear oR3 kR3
                go_upto_region 19 with (at_builtin; go_loud (refine wpList_app (v := .slice A3 xs.length c3) (xs := xs) (ys := [(⟨cl, (k:Int) + 1, x.op, bg, fn, x.res⟩ : Call)]) rowCall encCall rfl (.tmp 97) (.tmp 99) rfl w.heap.size rfl (OE.out.m3.alloc _) rfl rfl (rd_at encCall _ (⟨cl, (k:Int) + 1, x.op, bg, fn, x.res⟩ : Call) #[.int .i64 cl, .int .i64 ((k:Int) + 1), .int .i64 x.op.kind, .int .i64 x.op.slot, .string x.op.value, .int .i64 bg, .int .i64 fn, .int .i64 x.res.code, .int .i64 x.res.slot, .string x.res.value] rfl 45 (by simp) (Nat.lt_succ_self _)) (by simp only [List.length_singleton]; omega) (by unfold maxLen; simp only [List.length_singleton]; omega) (Nat.le_trans OE.out.bel.size (by simp)) ?_); go_loud (intro v7 w7 hm7 hg7 hat7); go_loud (obtain ⟨Aq, cq, rfl, hcq⟩ := hm7.form); go_loud (have oA := OE.out.step (W' := R3.alloc (.cells #[.int .i64 cl, .int .i64 ((k:Int) + 1), .int .i64 x.op.kind, .int .i64 x.op.slot, .string x.op.value, .int .i64 bg, .int .i64 fn, .int .i64 x.res.code, .int .i64 x.res.slot, .string x.res.value] 45)) ((Below.refl _ _).alloc (Nat.le_refl _) _)); go_loud (obtain ⟨o7, k7'⟩ := oA.push3 (Nat.lt_of_lt_of_le hltE (by simp)) hm7 hg7 hat7); go_loud (have k7 := k7'.trans ((heap_alloc_old _ _ hltE).trans KE.out)); go_loud (have hln7 : (xs ++ [(⟨cl, (k:Int) + 1, x.op, bg, fn, x.res⟩ : Call)]).length = xs.length + 1 := by simp); go_loud (rw [hln7]); go_loud (rw [hln7] at o7); go_loud (have O7 := Lib.hid o7; have K7 := Lib.hid k7); go_loud (clear hg7 hat7 oA k7' hm7 hln7 hcq o7 k7))
                clear hltE l0 l1 l2 l3 l4 l5 l6 l7 l8 l9
                have o7 := O7.out
                have k7 := K7.out
                have gT1_6 : w7.cell? ⟨w4.heap.size, 6, none⟩ = some (.int .i64 fn) := cell_of_row _ _ 6 _ _ _ k7
                have fT1_6 : w7.frozen? ⟨w4.heap.size, 6, none⟩ = false := frozen_of_row _ _ _ _ _ k7
                obtain ⟨T1, hT1⟩ : ∃ W', W' = w7.setCell ⟨w4.heap.size, 6, none⟩ (.int .i64 (-1)) := ⟨_, rfl⟩
                have kT1 : T1.heap[w4.heap.size]? = some (.cells #[.int .i64 cl, .int .i64 ((k:Int) + 1), .int .i64 x.op.kind, .int .i64 x.op.slot, .string x.op.value, .int .i64 bg, .int .i64 (-1), .int .i64 x.res.code, .int .i64 x.res.slot, .string x.res.value] 45 (0, 0)) := by rw [hT1]; exact row_set k7 6 _
                have oT1 := o7.set 6 (.int .i64 (-1))
                rw [← hT1] at oT1
                have H_o7 := Lib.hid o7
                have H_k7 := Lib.hid k7
                have H_oT1 := Lib.hid oT1
                have H_kT1 := Lib.hid kT1
                have H_hT1 := Lib.hid hT1
                clear o7 k7 oT1 kT1 hT1
                go_upto_region 20 with fail
                rw [← H_hT1.out]
                clear gT1_6 fT1_6
                have oT1 := H_oT1.out
                have kT1 := H_kT1.out
                have gU1_7 : T1.cell? ⟨w4.heap.size, 7, none⟩ = some (.int .i64 x.res.code) := cell_of_row _ _ 7 _ _ _ kT1
                have fU1_7 : T1.frozen? ⟨w4.heap.size, 7, none⟩ = false := frozen_of_row _ _ _ _ _ kT1
                have gU1_8 : T1.cell? ⟨w4.heap.size, 8, none⟩ = some (.int .i64 x.res.slot) := cell_of_row _ _ 8 _ _ _ kT1
                have fU1_8 : T1.frozen? ⟨w4.heap.size, 8, none⟩ = false := frozen_of_row _ _ _ _ _ kT1
                have gU1_9 : T1.cell? ⟨w4.heap.size, 9, none⟩ = some (.string x.res.value) := cell_of_row _ _ 9 _ _ _ kT1
                have fU1_9 : T1.frozen? ⟨w4.heap.size, 9, none⟩ = false := frozen_of_row _ _ _ _ _ kT1
                obtain ⟨U1, hU1⟩ : ∃ W', W' = T1.setCell ⟨w4.heap.size, 7, none⟩ (.int .i64 0) := ⟨_, rfl⟩
                have kU1 : U1.heap[w4.heap.size]? = some (.cells #[.int .i64 cl, .int .i64 ((k:Int) + 1), .int .i64 x.op.kind, .int .i64 x.op.slot, .string x.op.value, .int .i64 bg, .int .i64 (-1), .int .i64 0, .int .i64 x.res.slot, .string x.res.value] 45 (0, 0)) := by rw [hU1]; exact row_set kT1 7 _
                have oU1 := oT1.set 7 (.int .i64 0)
                rw [← hU1] at oU1
                have gU2_8 : U1.cell? ⟨w4.heap.size, 8, none⟩ = some (.int .i64 x.res.slot) := cell_of_row _ _ 8 _ _ _ kU1
                rw [hU1] at gU2_8
                have fU2_8 : U1.frozen? ⟨w4.heap.size, 8, none⟩ = false := frozen_of_row _ _ _ _ _ kU1
                rw [hU1] at fU2_8
                have gU2_9 : U1.cell? ⟨w4.heap.size, 9, none⟩ = some (.string x.res.value) := cell_of_row _ _ 9 _ _ _ kU1
                rw [hU1] at gU2_9
                have fU2_9 : U1.frozen? ⟨w4.heap.size, 9, none⟩ = false := frozen_of_row _ _ _ _ _ kU1
                rw [hU1] at fU2_9
                obtain ⟨U2, hU2⟩ : ∃ W', W' = U1.setCell ⟨w4.heap.size, 8, none⟩ (.int .i64 0) := ⟨_, rfl⟩
                have kU2 : U2.heap[w4.heap.size]? = some (.cells #[.int .i64 cl, .int .i64 ((k:Int) + 1), .int .i64 x.op.kind, .int .i64 x.op.slot, .string x.op.value, .int .i64 bg, .int .i64 (-1), .int .i64 0, .int .i64 0, .string x.res.value] 45 (0, 0)) := by rw [hU2]; exact row_set kU1 8 _
                have oU2 := oU1.set 8 (.int .i64 0)
                rw [← hU2] at oU2
                have gU3_9 : U2.cell? ⟨w4.heap.size, 9, none⟩ = some (.string x.res.value) := cell_of_row _ _ 9 _ _ _ kU2
                rw [hU2, hU1] at gU3_9
                have fU3_9 : U2.frozen? ⟨w4.heap.size, 9, none⟩ = false := frozen_of_row _ _ _ _ _ kU2
                rw [hU2, hU1] at fU3_9
                obtain ⟨U3, hU3⟩ : ∃ W', W' = U2.setCell ⟨w4.heap.size, 9, none⟩ (.string ⟨#[]⟩) := ⟨_, rfl⟩
                have kU3 : U3.heap[w4.heap.size]? = some (.cells #[.int .i64 cl, .int .i64 ((k:Int) + 1), .int .i64 x.op.kind, .int .i64 x.op.slot, .string x.op.value, .int .i64 bg, .int .i64 (-1), .int .i64 0, .int .i64 0, .string ⟨#[]⟩] 45 (0, 0)) := by rw [hU3]; exact row_set kU2 9 _
                have oU3 := oU2.set 9 (.string ⟨#[]⟩)
                rw [← hU3] at oU3
                have H_oT1 := Lib.hid oT1
                have H_kT1 := Lib.hid kT1
                have H_oU1 := Lib.hid oU1
                have H_kU1 := Lib.hid kU1
                have H_hU1 := Lib.hid hU1
                have H_oU2 := Lib.hid oU2
                have H_kU2 := Lib.hid kU2
                have H_hU2 := Lib.hid hU2
                have H_oU3 := Lib.hid oU3
                have H_kU3 := Lib.hid kU3
                have H_hU3 := Lib.hid hU3
                clear oT1 kT1 oU1 kU1 hU1 oU2 kU2 hU2 oU3 kU3 hU3
                go_upto_region 21 with fail
                rw [← H_hU1.out, ← H_hU2.out, ← H_hU3.out]
                clear gU1_7 fU1_7 gU1_8 fU1_8 gU1_9 fU1_9 gU2_8 fU2_8 gU2_9 fU2_9 gU3_9 fU3_9
                have kU3 := H_kU3.out
                have t0 : U3.cell? ⟨w4.heap.size, 0, none⟩ = some (.int .i64 cl) := cell_of_row _ _ 0 _ _ _ kU3
                have t1 : U3.cell? ⟨w4.heap.size, 1, none⟩ = some (.int .i64 ((k:Int) + 1)) := cell_of_row _ _ 1 _ _ _ kU3
                have t2 : U3.cell? ⟨w4.heap.size, 2, none⟩ = some (.int .i64 x.op.kind) := cell_of_row _ _ 2 _ _ _ kU3
                have t3 : U3.cell? ⟨w4.heap.size, 3, none⟩ = some (.int .i64 x.op.slot) := cell_of_row _ _ 3 _ _ _ kU3
                have t4 : U3.cell? ⟨w4.heap.size, 4, none⟩ = some (.string x.op.value) := cell_of_row _ _ 4 _ _ _ kU3
                have t5 : U3.cell? ⟨w4.heap.size, 5, none⟩ = some (.int .i64 bg) := cell_of_row _ _ 5 _ _ _ kU3
                have t6 : U3.cell? ⟨w4.heap.size, 6, none⟩ = some (.int .i64 (-1)) := cell_of_row _ _ 6 _ _ _ kU3
                have t7 : U3.cell? ⟨w4.heap.size, 7, none⟩ = some (.int .i64 0) := cell_of_row _ _ 7 _ _ _ kU3
                have t8 : U3.cell? ⟨w4.heap.size, 8, none⟩ = some (.int .i64 0) := cell_of_row _ _ 8 _ _ _ kU3
                have t9 : U3.cell? ⟨w4.heap.size, 9, none⟩ = some (.string ⟨#[]⟩) := cell_of_row _ _ 9 _ _ _ kU3
                have hltT : w4.heap.size < U3.heap.size := (Array.getElem?_eq_some_iff.1 kU3).1
                clear kU3
                go_wp2_with (at_builtin; go_loud (refine wpList_app (v := .slice A4 xs.length c4) (xs := xs.map openC) (ys := [openC (⟨cl, (k:Int) + 1, x.op, bg, fn, x.res⟩ : Call)]) rowCall encCall rfl (.tmp 104) (.tmp 106) rfl w.heap.size rfl (H_oU3.out.m4.alloc _) rfl rfl (rd_at encCall _ (openC (⟨cl, (k:Int) + 1, x.op, bg, fn, x.res⟩ : Call)) #[.int .i64 cl, .int .i64 ((k:Int) + 1), .int .i64 x.op.kind, .int .i64 x.op.slot, .string x.op.value, .int .i64 bg, .int .i64 (-1), .int .i64 0, .int .i64 0, .string ⟨#[]⟩] rfl 45 (by simp) (Nat.lt_succ_self _)) (by simp only [List.length_singleton, List.length_map]; omega) (by unfold maxLen; simp only [List.length_singleton, List.length_map]; omega) (Nat.le_trans H_oU3.out.bel.size (by simp)) ?_); go_loud (intro v9 w9 hm9 hg9 hat9); go_loud (obtain ⟨Ap, cp, rfl, hcp⟩ := hm9.form); go_loud (have oB := H_oU3.out.step (W' := U3.alloc (.cells #[.int .i64 cl, .int .i64 ((k:Int) + 1), .int .i64 x.op.kind, .int .i64 x.op.slot, .string x.op.value, .int .i64 bg, .int .i64 (-1), .int .i64 0, .int .i64 0, .string ⟨#[]⟩] 45)) ((Below.refl _ _).alloc (Nat.le_refl _) _)); go_loud (have o9 := oB.push4 (Nat.lt_of_lt_of_le hltT (by simp)) hm9 hg9 hat9); go_loud (have hln9 : (xs.map openC ++ [openC (⟨cl, (k:Int) + 1, x.op, bg, fn, x.res⟩ : Call)]).length = xs.length + 1 := by simp); go_loud (rw [hln9]); go_loud (rw [hln9] at o9); go_loud (have O9 := Lib.hid o9); go_loud (clear hm9 hg9 hat9 oB o9 hln9 hcp))
                go_roundg (gk - 1)
                case rel =>
                  have hcn : cs7 = cellsOf (xs ++ [(⟨cl, (k:Int) + 1, x.op, bg, fn, x.res⟩ : Call)]) := by rw [HCS7.out, cellsOf_snoc]
                  have hmp : xs.map openC ++ [openC (⟨cl, (k:Int) + 1, x.op, bg, fn, x.res⟩ : Call)] = (xs ++ [(⟨cl, (k:Int) + 1, x.op, bg, fn, x.res⟩ : Call)]).map openC := by simp
                  have hO9 := O9.out
                  rw [hcn, hmp] at hO9
                  have hl1 : (xs ++ [(⟨cl, (k:Int) + 1, x.op, bg, fn, x.res⟩ : Call)]).length = xs.length + 1 := by simp
                  refine ⟨k + 1, xs ++ [(⟨cl, (k:Int) + 1, x.op, bg, fn, x.res⟩ : Call)], Aq, cq, Ap, cp, A7, c7, fn, eq, w4.heap.size, by omega, by go_num, by rw [hl1], by rw [hl1], by rw [← hcn], rfl, rfl, ?_, ?_⟩
                  · have hq := HSN.out; rw [← HR.out, Bool.true_and, show decide (r = x.res) = eq by rw [HEQ.out]; simp only [decide_eq_decide]; exact eq_comm] at hq; exact hq
                  · show OneX _ _ _ _ _ _ _ _ _
                    rw [hl1]
                    exact hO9
                case measure => omega
            · skip
              have hsn := hst.out.snoc (x := (⟨cl, (k:Int) + 1, x.op, bg, fn, r⟩ : Call)) h8 HBF.out.1 HBF.out.2.1 HBF.out.2.2 rfl HCL.out HC0.out
              have HSN := Lib.hid hsn
              clear hsn
              have kS3 := H_kS3.out
              have oS3 := H_oS3.out
              go_upto_region 18 with fail
              have l0 : S3.cell? ⟨w4.heap.size, 0, none⟩ = some (.int .i64 cl) := cell_of_row _ _ 0 _ _ _ kS3
              have l1 : S3.cell? ⟨w4.heap.size, 1, none⟩ = some (.int .i64 ((k:Int) + 1)) := cell_of_row _ _ 1 _ _ _ kS3
              have l2 : S3.cell? ⟨w4.heap.size, 2, none⟩ = some (.int .i64 x.op.kind) := cell_of_row _ _ 2 _ _ _ kS3
              have l3 : S3.cell? ⟨w4.heap.size, 3, none⟩ = some (.int .i64 x.op.slot) := cell_of_row _ _ 3 _ _ _ kS3
              have l4 : S3.cell? ⟨w4.heap.size, 4, none⟩ = some (.string x.op.value) := cell_of_row _ _ 4 _ _ _ kS3
              have l5 : S3.cell? ⟨w4.heap.size, 5, none⟩ = some (.int .i64 bg) := cell_of_row _ _ 5 _ _ _ kS3
              have l6 : S3.cell? ⟨w4.heap.size, 6, none⟩ = some (.int .i64 fn) := cell_of_row _ _ 6 _ _ _ kS3
              have l7 : S3.cell? ⟨w4.heap.size, 7, none⟩ = some (.int .i64 r.code) := cell_of_row _ _ 7 _ _ _ kS3
              have l8 : S3.cell? ⟨w4.heap.size, 8, none⟩ = some (.int .i64 r.slot) := cell_of_row _ _ 8 _ _ _ kS3
              have l9 : S3.cell? ⟨w4.heap.size, 9, none⟩ = some (.string r.value) := cell_of_row _ _ 9 _ _ _ kS3
              have OE := Lib.hid oS3
              have KE := Lib.hid kS3
              have hltE : w4.heap.size < S3.heap.size := (Array.getElem?_eq_some_iff.1 kS3).1
              clear oS3 kS3
              go_upto_region 19 with (at_builtin; go_loud (refine wpList_app (v := .slice A3 xs.length c3) (xs := xs) (ys := [(⟨cl, (k:Int) + 1, x.op, bg, fn, r⟩ : Call)]) rowCall encCall rfl (.tmp 97) (.tmp 99) rfl w.heap.size rfl (OE.out.m3.alloc _) rfl rfl (rd_at encCall _ (⟨cl, (k:Int) + 1, x.op, bg, fn, r⟩ : Call) #[.int .i64 cl, .int .i64 ((k:Int) + 1), .int .i64 x.op.kind, .int .i64 x.op.slot, .string x.op.value, .int .i64 bg, .int .i64 fn, .int .i64 r.code, .int .i64 r.slot, .string r.value] rfl 45 (by simp) (Nat.lt_succ_self _)) (by simp only [List.length_singleton]; omega) (by unfold maxLen; simp only [List.length_singleton]; omega) (Nat.le_trans OE.out.bel.size (by simp)) ?_); go_loud (intro v7 w7 hm7 hg7 hat7); go_loud (obtain ⟨Aq, cq, rfl, hcq⟩ := hm7.form); go_loud (have oA := OE.out.step (W' := S3.alloc (.cells #[.int .i64 cl, .int .i64 ((k:Int) + 1), .int .i64 x.op.kind, .int .i64 x.op.slot, .string x.op.value, .int .i64 bg, .int .i64 fn, .int .i64 r.code, .int .i64 r.slot, .string r.value] 45)) ((Below.refl _ _).alloc (Nat.le_refl _) _)); go_loud (obtain ⟨o7, k7'⟩ := oA.push3 (Nat.lt_of_lt_of_le hltE (by simp)) hm7 hg7 hat7); go_loud (have k7 := k7'.trans ((heap_alloc_old _ _ hltE).trans KE.out)); go_loud (have hln7 : (xs ++ [(⟨cl, (k:Int) + 1, x.op, bg, fn, r⟩ : Call)]).length = xs.length + 1 := by simp); go_loud (rw [hln7]); go_loud (rw [hln7] at o7); go_loud (have O7 := Lib.hid o7; have K7 := Lib.hid k7); go_loud (clear hg7 hat7 oA k7' hm7 hln7 hcq o7 k7))
              clear hltE l0 l1 l2 l3 l4 l5 l6 l7 l8 l9
              have o7 := O7.out
              have k7 := K7.out
              have gT1_6 : w7.cell? ⟨w4.heap.size, 6, none⟩ = some (.int .i64 fn) := cell_of_row _ _ 6 _ _ _ k7
              have fT1_6 : w7.frozen? ⟨w4.heap.size, 6, none⟩ = false := frozen_of_row _ _ _ _ _ k7
              obtain ⟨T1, hT1⟩ : ∃ W', W' = w7.setCell ⟨w4.heap.size, 6, none⟩ (.int .i64 (-1)) := ⟨_, rfl⟩
              have kT1 : T1.heap[w4.heap.size]? = some (.cells #[.int .i64 cl, .int .i64 ((k:Int) + 1), .int .i64 x.op.kind, .int .i64 x.op.slot, .string x.op.value, .int .i64 bg, .int .i64 (-1), .int .i64 r.code, .int .i64 r.slot, .string r.value] 45 (0, 0)) := by rw [hT1]; exact row_set k7 6 _
              have oT1 := o7.set 6 (.int .i64 (-1))
              rw [← hT1] at oT1
              have H_o7 := Lib.hid o7
              have H_k7 := Lib.hid k7
              have H_oT1 := Lib.hid oT1
              have H_kT1 := Lib.hid kT1
              have H_hT1 := Lib.hid hT1
              clear o7 k7 oT1 kT1 hT1
              go_upto_region 20 with fail
              rw [← H_hT1.out]
              clear gT1_6 fT1_6
              have oT1 := H_oT1.out
              have kT1 := H_kT1.out
              have gU1_7 : T1.cell? ⟨w4.heap.size, 7, none⟩ = some (.int .i64 r.code) := cell_of_row _ _ 7 _ _ _ kT1
              have fU1_7 : T1.frozen? ⟨w4.heap.size, 7, none⟩ = false := frozen_of_row _ _ _ _ _ kT1
              have gU1_8 : T1.cell? ⟨w4.heap.size, 8, none⟩ = some (.int .i64 r.slot) := cell_of_row _ _ 8 _ _ _ kT1
              have fU1_8 : T1.frozen? ⟨w4.heap.size, 8, none⟩ = false := frozen_of_row _ _ _ _ _ kT1
              have gU1_9 : T1.cell? ⟨w4.heap.size, 9, none⟩ = some (.string r.value) := cell_of_row _ _ 9 _ _ _ kT1
              have fU1_9 : T1.frozen? ⟨w4.heap.size, 9, none⟩ = false := frozen_of_row _ _ _ _ _ kT1
              obtain ⟨U1, hU1⟩ : ∃ W', W' = T1.setCell ⟨w4.heap.size, 7, none⟩ (.int .i64 0) := ⟨_, rfl⟩
              have kU1 : U1.heap[w4.heap.size]? = some (.cells #[.int .i64 cl, .int .i64 ((k:Int) + 1), .int .i64 x.op.kind, .int .i64 x.op.slot, .string x.op.value, .int .i64 bg, .int .i64 (-1), .int .i64 0, .int .i64 r.slot, .string r.value] 45 (0, 0)) := by rw [hU1]; exact row_set kT1 7 _
              have oU1 := oT1.set 7 (.int .i64 0)
              rw [← hU1] at oU1
              have gU2_8 : U1.cell? ⟨w4.heap.size, 8, none⟩ = some (.int .i64 r.slot) := cell_of_row _ _ 8 _ _ _ kU1
              rw [hU1] at gU2_8
              have fU2_8 : U1.frozen? ⟨w4.heap.size, 8, none⟩ = false := frozen_of_row _ _ _ _ _ kU1
              rw [hU1] at fU2_8
              have gU2_9 : U1.cell? ⟨w4.heap.size, 9, none⟩ = some (.string r.value) := cell_of_row _ _ 9 _ _ _ kU1
              rw [hU1] at gU2_9
              have fU2_9 : U1.frozen? ⟨w4.heap.size, 9, none⟩ = false := frozen_of_row _ _ _ _ _ kU1
              rw [hU1] at fU2_9
              obtain ⟨U2, hU2⟩ : ∃ W', W' = U1.setCell ⟨w4.heap.size, 8, none⟩ (.int .i64 0) := ⟨_, rfl⟩
              have kU2 : U2.heap[w4.heap.size]? = some (.cells #[.int .i64 cl, .int .i64 ((k:Int) + 1), .int .i64 x.op.kind, .int .i64 x.op.slot, .string x.op.value, .int .i64 bg, .int .i64 (-1), .int .i64 0, .int .i64 0, .string r.value] 45 (0, 0)) := by rw [hU2]; exact row_set kU1 8 _
              have oU2 := oU1.set 8 (.int .i64 0)
              rw [← hU2] at oU2
              have gU3_9 : U2.cell? ⟨w4.heap.size, 9, none⟩ = some (.string r.value) := cell_of_row _ _ 9 _ _ _ kU2
              rw [hU2, hU1] at gU3_9
              have fU3_9 : U2.frozen? ⟨w4.heap.size, 9, none⟩ = false := frozen_of_row _ _ _ _ _ kU2
              rw [hU2, hU1] at fU3_9
              obtain ⟨U3, hU3⟩ : ∃ W', W' = U2.setCell ⟨w4.heap.size, 9, none⟩ (.string ⟨#[]⟩) := ⟨_, rfl⟩
              have kU3 : U3.heap[w4.heap.size]? = some (.cells #[.int .i64 cl, .int .i64 ((k:Int) + 1), .int .i64 x.op.kind, .int .i64 x.op.slot, .string x.op.value, .int .i64 bg, .int .i64 (-1), .int .i64 0, .int .i64 0, .string ⟨#[]⟩] 45 (0, 0)) := by rw [hU3]; exact row_set kU2 9 _
              have oU3 := oU2.set 9 (.string ⟨#[]⟩)
              rw [← hU3] at oU3
              have H_oT1 := Lib.hid oT1
              have H_kT1 := Lib.hid kT1
              have H_oU1 := Lib.hid oU1
              have H_kU1 := Lib.hid kU1
              have H_hU1 := Lib.hid hU1
              have H_oU2 := Lib.hid oU2
              have H_kU2 := Lib.hid kU2
              have H_hU2 := Lib.hid hU2
              have H_oU3 := Lib.hid oU3
              have H_kU3 := Lib.hid kU3
              have H_hU3 := Lib.hid hU3
              clear oT1 kT1 oU1 kU1 hU1 oU2 kU2 hU2 oU3 kU3 hU3
              go_upto_region 21 with fail
              rw [← H_hU1.out, ← H_hU2.out, ← H_hU3.out]
              clear gU1_7 fU1_7 gU1_8 fU1_8 gU1_9 fU1_9 gU2_8 fU2_8 gU2_9 fU2_9 gU3_9 fU3_9
              have kU3 := H_kU3.out
              have t0 : U3.cell? ⟨w4.heap.size, 0, none⟩ = some (.int .i64 cl) := cell_of_row _ _ 0 _ _ _ kU3
              have t1 : U3.cell? ⟨w4.heap.size, 1, none⟩ = some (.int .i64 ((k:Int) + 1)) := cell_of_row _ _ 1 _ _ _ kU3
              have t2 : U3.cell? ⟨w4.heap.size, 2, none⟩ = some (.int .i64 x.op.kind) := cell_of_row _ _ 2 _ _ _ kU3
              have t3 : U3.cell? ⟨w4.heap.size, 3, none⟩ = some (.int .i64 x.op.slot) := cell_of_row _ _ 3 _ _ _ kU3
              have t4 : U3.cell? ⟨w4.heap.size, 4, none⟩ = some (.string x.op.value) := cell_of_row _ _ 4 _ _ _ kU3
              have t5 : U3.cell? ⟨w4.heap.size, 5, none⟩ = some (.int .i64 bg) := cell_of_row _ _ 5 _ _ _ kU3
              have t6 : U3.cell? ⟨w4.heap.size, 6, none⟩ = some (.int .i64 (-1)) := cell_of_row _ _ 6 _ _ _ kU3
              have t7 : U3.cell? ⟨w4.heap.size, 7, none⟩ = some (.int .i64 0) := cell_of_row _ _ 7 _ _ _ kU3
              have t8 : U3.cell? ⟨w4.heap.size, 8, none⟩ = some (.int .i64 0) := cell_of_row _ _ 8 _ _ _ kU3
              have t9 : U3.cell? ⟨w4.heap.size, 9, none⟩ = some (.string ⟨#[]⟩) := cell_of_row _ _ 9 _ _ _ kU3
              have hltT : w4.heap.size < U3.heap.size := (Array.getElem?_eq_some_iff.1 kU3).1
              clear kU3
              go_wp2_with (at_builtin; go_loud (refine wpList_app (v := .slice A4 xs.length c4) (xs := xs.map openC) (ys := [openC (⟨cl, (k:Int) + 1, x.op, bg, fn, r⟩ : Call)]) rowCall encCall rfl (.tmp 104) (.tmp 106) rfl w.heap.size rfl (H_oU3.out.m4.alloc _) rfl rfl (rd_at encCall _ (openC (⟨cl, (k:Int) + 1, x.op, bg, fn, r⟩ : Call)) #[.int .i64 cl, .int .i64 ((k:Int) + 1), .int .i64 x.op.kind, .int .i64 x.op.slot, .string x.op.value, .int .i64 bg, .int .i64 (-1), .int .i64 0, .int .i64 0, .string ⟨#[]⟩] rfl 45 (by simp) (Nat.lt_succ_self _)) (by simp only [List.length_singleton, List.length_map]; omega) (by unfold maxLen; simp only [List.length_singleton, List.length_map]; omega) (Nat.le_trans H_oU3.out.bel.size (by simp)) ?_); go_loud (intro v9 w9 hm9 hg9 hat9); go_loud (obtain ⟨Ap, cp, rfl, hcp⟩ := hm9.form); go_loud (have oB := H_oU3.out.step (W' := U3.alloc (.cells #[.int .i64 cl, .int .i64 ((k:Int) + 1), .int .i64 x.op.kind, .int .i64 x.op.slot, .string x.op.value, .int .i64 bg, .int .i64 (-1), .int .i64 0, .int .i64 0, .string ⟨#[]⟩] 45)) ((Below.refl _ _).alloc (Nat.le_refl _) _)); go_loud (have o9 := oB.push4 (Nat.lt_of_lt_of_le hltT (by simp)) hm9 hg9 hat9); go_loud (have hln9 : (xs.map openC ++ [openC (⟨cl, (k:Int) + 1, x.op, bg, fn, r⟩ : Call)]).length = xs.length + 1 := by simp); go_loud (rw [hln9]); go_loud (rw [hln9] at o9); go_loud (have O9 := Lib.hid o9); go_loud (clear hm9 hg9 hat9 oB o9 hln9 hcp))
              go_roundg (gk - 1)
              case rel =>
                have hcn : cs7 = cellsOf (xs ++ [(⟨cl, (k:Int) + 1, x.op, bg, fn, r⟩ : Call)]) := by rw [HCS7.out, cellsOf_snoc]
                have hmp : xs.map openC ++ [openC (⟨cl, (k:Int) + 1, x.op, bg, fn, r⟩ : Call)] = (xs ++ [(⟨cl, (k:Int) + 1, x.op, bg, fn, r⟩ : Call)]).map openC := by simp
                have hO9 := O9.out
                rw [hcn, hmp] at hO9
                have hl1 : (xs ++ [(⟨cl, (k:Int) + 1, x.op, bg, fn, r⟩ : Call)]).length = xs.length + 1 := by simp
                refine ⟨k + 1, xs ++ [(⟨cl, (k:Int) + 1, x.op, bg, fn, r⟩ : Call)], Aq, cq, Ap, cp, A7, c7, fn, good, w4.heap.size, by omega, by go_num, by rw [hl1], by rw [hl1], by rw [← hcn], rfl, rfl, ?_, ?_⟩
                · have hq := HSN.out; rw [← HR.out] at hq; have hq2 : OneSt (k + 1) fn good (xs ++ [(⟨cl, (k:Int) + 1, x.op, bg, fn, r⟩ : Call)]) := by simpa using hq
                  exact hq2
                · show OneX _ _ _ _ _ _ _ _ _
                  rw [hl1]
                  exact hO9
              case measure => omega
        · have hc1 : (checkOp x.op == 0) = false := by simpa using hc0
          have hc2 : (checkOp x.op != 0) = true := by simpa using hc0
          have hc3 : decide (checkOp x.op = 0) = false := decide_eq_false hc0
          obtain ⟨cv, hcv⟩ : ∃ cv, cv = checkOp x.op := ⟨_, rfl⟩
          rw [← hcv] at hc1 hc2 hc3 ⊢
          have HNX := Lib.hid hst.out.more
          clear hc0 hcv
          dsimp only
          go_wp2_with fail
          go_roundg (gk - 1)
          case rel => exact ⟨k + 1, xs, A3, c3, A4, c4, A5, c5, row, good, wo.heap.size, by omega, by go_num, rfl, rfl, rfl, rfl, rfl, HNX.out, HOX3.out⟩
          case measure => omega
      · have g8 : decide ((xs.length : Int) < 8) = false := decide_eq_false (by omega)
        have g8n : decide (xs.length < 8) = false := decide_eq_false h8
        obtain ⟨hs1, hs2, hs3⟩ := search_line hst.out
        obtain ⟨ks, hks⟩ : ∃ ks, ks = (if good = true then List.range' 0 xs.length else []) := ⟨_, rfl⟩
        rw [← hks] at hs1
        have HKS := Lib.hid hks
        clear hks
        have hop := search_open hst.out
        have HVX : Hid (∀ x ∈ xs, x.op.value.size ≤ 9223372036854775807) := fun x hx => by have := checkOp_size (hst.out.num x hx).2.2.2.2; omega
        have HVO : Hid (∀ x ∈ xs.map openC, x.op.value.size ≤ 9223372036854775807) := fun x hx => by obtain ⟨y, hy, rfl⟩ := List.mem_map.1 hx; exact HVX.out y hy
        have hx8 := hst.out.len
        have HS1 := Lib.hid hs1
        have HS2 := Lib.hid hs2
        have HS3 := Lib.hid hs3
        have HOP := Lib.hid hop
        clear hs1 hs2 hs3 hop
        go_wp2_with fail
        refine (search_prog A3 c3 xs.length xs rfl wo (by omega) HVX.out (Made.rd' encCall.len hox.out.m3)).mono ?_
        rintro e w1 ⟨v1, rfl, hm1, hb1⟩
        rw [HS1.out] at hm1
        rw [HS2.out, HS3.out]
        obtain ⟨A1, c1, rfl, hc1⟩ := hm1.form
        have hox1 := hox.out.step hb1
        have HB1 := Lib.hid hox1.bel
        have hrd4 := Made.rd' encCall.len hox1.m4
        have HR4 := Lib.hid hrd4
        have hr1 := Made.rd' encI.len hm1
        have HR1 := Lib.hid hr1
        clear hm1 hb1 hox1 hrd4 hr1 hc1
        dsimp only
        go_wp2_with fail
        refine (search_prog A4 c4 xs.length (xs.map openC) (by simp) w1 (by simp; omega) HVO.out HR4.out).mono ?_
        rintro e w2 ⟨v2, rfl, hm2, hb2⟩
        rw [HOP.out] at hm2 ⊢
        obtain ⟨A2, c2, rfl, hc2⟩ := hm2.form
        have HB2 := Lib.hid (HB1.out.trans (hb2.mono HB1.out.size))
        have hr2 := (HR1.out.below hb2).more hb2.size
        have HR2 := Lib.hid hr2
        clear hm2 hb2 hr2 hc2
        dsimp only
        cases good
        · have hks : ks = [] := HKS.out
          subst hks
          go_wp2_with fail
          go_loopw [18] (fun i wz => i = .int .i64 0 ∧ wz = w2) (fun _ _ => 0)
          case atStart => exact ⟨rfl, rfl⟩
          case round =>
            obtain ⟨rfl, rfl⟩ := hrel
            go_wp2_with fail
            refine (works18 _).mono ?_
            rintro e w9 ⟨rfl, hb9⟩
            have HB9 := Lib.hid (HB2.out.trans (hb9.mono HB2.out.size))
            clear hb9
            dsimp only
            go_wp2_with fail
            go_ret
            exact ⟨rfl, HB9.out⟩
        · have hks : ks = List.range' 0 xs.length := HKS.out
          have hkl : ks.length = xs.length := by rw [hks]; simp
          have HKG : Hid (∀ i (h : i < ks.length), ks[i] = i) := fun i h => by simp [hks]
          obtain ⟨kn, hkn⟩ : ∃ kn, kn = ks.length := ⟨_, rfl⟩
          have hkx : kn = xs.length := by rw [hkn, hkl]
          rw [← hkn]
          have HKN := Lib.hid hkn
          have HKX := Lib.hid hkx
          have hk8 : kn ≤ 8 := by omega
          clear hks hkl hkn hkx
          go_wp2_with fail
          go_loopw [18] (fun i wz => ∃ q : Nat, q ≤ kn ∧ i = .int .i64 q ∧ wz = w2) (fun i _ => kn - (intOf i).toNat)
          case atStart => exact ⟨0, by omega, rfl, rfl⟩
          case round =>
            obtain ⟨q, hq, rfl, rfl⟩ := hrel
            by_cases hqk : q < kn
            · have hq2 : q < ks.length := by rw [← HKN.out]; exact hqk
              obtain ⟨kd, hkd, hkal, hkca⟩ := HR2.out.at_ hq2
              have d0 : wr.cell? (kd.add q) = some (.int .i64 (q : Nat)) := by have h := hkca.one; rw [Nat.mul_one, HKG.out q hq2] at h; exact h
              have gq : (q:Int) < (kn : Int) := by omega
              have iq : (0:Int) ≤ (q:Int) := by omega
              cases hkd
              clear hkca hq2
              go_wp2_with fail
              go_roundw
              case rel => exact ⟨q + 1, by omega, by go_num, (by first | rfl | trivial)⟩
              case measure => simp [intOf]; omega
            · have gq : decide ((q:Int) < (kn : Int)) = false := decide_eq_false (by omega)
              have gqn : decide (q < kn) = false := decide_eq_false hqk
              have hke : ((kn:Int) == (xs.length : Int)) = true := by simp [HKX.out]
              have hke2 : decide ((kn:Int) = (xs.length : Int)) = true := decide_eq_true (by rw [HKX.out])
              have hke3 : kn = xs.length := HKX.out
              go_wp2_with fail
              refine (works18 _).mono ?_
              rintro e w9 ⟨rfl, hb9⟩
              have HB9 := Lib.hid (HB2.out.trans (hb9.mono HB2.out.size))
              clear hb9
              dsimp only
              go_wp2_with fail
              go_ret
              exact ⟨rfl, HB9.out⟩
    · have g1 : decide ((k:Int) < (l.length : Int)) = false := decide_eq_false (by omega)
      have g1n : decide (k < l.length) = false := decide_eq_false h1
      obtain ⟨hs1, hs2, hs3⟩ := search_line hst.out
      obtain ⟨ks, hks⟩ : ∃ ks, ks = (if good = true then List.range' 0 xs.length else []) := ⟨_, rfl⟩
      rw [← hks] at hs1
      have HKS := Lib.hid hks
      clear hks
      have hop := search_open hst.out
      have HVX : Hid (∀ x ∈ xs, x.op.value.size ≤ 9223372036854775807) := fun x hx => by have := checkOp_size (hst.out.num x hx).2.2.2.2; omega
      have HVO : Hid (∀ x ∈ xs.map openC, x.op.value.size ≤ 9223372036854775807) := fun x hx => by obtain ⟨y, hy, rfl⟩ := List.mem_map.1 hx; exact HVX.out y hy
      have hx8 := hst.out.len
      have HS1 := Lib.hid hs1
      have HS2 := Lib.hid hs2
      have HS3 := Lib.hid hs3
      have HOP := Lib.hid hop
      clear hs1 hs2 hs3 hop
      go_wp2_with fail
      refine (search_prog A3 c3 xs.length xs rfl wo (by omega) HVX.out (Made.rd' encCall.len hox.out.m3)).mono ?_
      rintro e w1 ⟨v1, rfl, hm1, hb1⟩
      rw [HS1.out] at hm1
      rw [HS2.out, HS3.out]
      obtain ⟨A1, c1, rfl, hc1⟩ := hm1.form
      have hox1 := hox.out.step hb1
      have HB1 := Lib.hid hox1.bel
      have hrd4 := Made.rd' encCall.len hox1.m4
      have HR4 := Lib.hid hrd4
      have hr1 := Made.rd' encI.len hm1
      have HR1 := Lib.hid hr1
      clear hm1 hb1 hox1 hrd4 hr1 hc1
      dsimp only
      go_wp2_with fail
      refine (search_prog A4 c4 xs.length (xs.map openC) (by simp) w1 (by simp; omega) HVO.out HR4.out).mono ?_
      rintro e w2 ⟨v2, rfl, hm2, hb2⟩
      rw [HOP.out] at hm2 ⊢
      obtain ⟨A2, c2, rfl, hc2⟩ := hm2.form
      have HB2 := Lib.hid (HB1.out.trans (hb2.mono HB1.out.size))
      have hr2 := (HR1.out.below hb2).more hb2.size
      have HR2 := Lib.hid hr2
      clear hm2 hb2 hr2 hc2
      dsimp only
      cases good
      · have hks : ks = [] := HKS.out
        subst hks
        go_wp2_with fail
        go_loopw [18] (fun i wz => i = .int .i64 0 ∧ wz = w2) (fun _ _ => 0)
        case atStart => exact ⟨rfl, rfl⟩
        case round =>
          obtain ⟨rfl, rfl⟩ := hrel
          go_wp2_with fail
          refine (works18 _).mono ?_
          rintro e w9 ⟨rfl, hb9⟩
          have HB9 := Lib.hid (HB2.out.trans (hb9.mono HB2.out.size))
          clear hb9
          dsimp only
          go_wp2_with fail
          go_ret
          exact ⟨rfl, HB9.out⟩
      · have hks : ks = List.range' 0 xs.length := HKS.out
        have hkl : ks.length = xs.length := by rw [hks]; simp
        have HKG : Hid (∀ i (h : i < ks.length), ks[i] = i) := fun i h => by simp [hks]
        obtain ⟨kn, hkn⟩ : ∃ kn, kn = ks.length := ⟨_, rfl⟩
        have hkx : kn = xs.length := by rw [hkn, hkl]
        rw [← hkn]
        have HKN := Lib.hid hkn
        have HKX := Lib.hid hkx
        have hk8 : kn ≤ 8 := by omega
        clear hks hkl hkn hkx
        go_wp2_with fail
        go_loopw [18] (fun i wz => ∃ q : Nat, q ≤ kn ∧ i = .int .i64 q ∧ wz = w2) (fun i _ => kn - (intOf i).toNat)
        case atStart => exact ⟨0, by omega, rfl, rfl⟩
        case round =>
          obtain ⟨q, hq, rfl, rfl⟩ := hrel
          by_cases hqk : q < kn
          · have hq2 : q < ks.length := by rw [← HKN.out]; exact hqk
            obtain ⟨kd, hkd, hkal, hkca⟩ := HR2.out.at_ hq2
            have d0 : wr.cell? (kd.add q) = some (.int .i64 (q : Nat)) := by have h := hkca.one; rw [Nat.mul_one, HKG.out q hq2] at h; exact h
            have gq : (q:Int) < (kn : Int) := by omega
            have iq : (0:Int) ≤ (q:Int) := by omega
            cases hkd
            clear hkca hq2
            go_wp2_with fail
            go_roundw
            case rel => exact ⟨q + 1, by omega, by go_num, (by first | rfl | trivial)⟩
            case measure => simp [intOf]; omega
          · have gq : decide ((q:Int) < (kn : Int)) = false := decide_eq_false (by omega)
            have gqn : decide (q < kn) = false := decide_eq_false hqk
            have hke : ((kn:Int) == (xs.length : Int)) = true := by simp [HKX.out]
            have hke2 : decide ((kn:Int) = (xs.length : Int)) = true := decide_eq_true (by rw [HKX.out])
            have hke3 : kn = xs.length := HKX.out
            go_wp2_with fail
            refine (works18 _).mono ?_
            rintro e w9 ⟨rfl, hb9⟩
            have HB9 := Lib.hid (HB2.out.trans (hb9.mono HB2.out.size))
            clear hb9
            dsimp only
            go_wp2_with fail
            go_ret
            exact ⟨rfl, HB9.out⟩
end Go.Proofs.Ytmfidhlhcochoaa
