/- grown of chapter 06: a log that may be, whatever the raw entries. Conditions: the room is a room; sizes within Go's own limits. -/
import Derived.Test.YtnfilklgogaheaaWithin
import Derived.Test.YtnfilklgogaheaaGrow
import Derived.Test.YtnfilklgogaheaaOpen3
import Derived.Deep.LoopGhost
import Derived.Deep.CutRange
import Derived.Deep.DeepCutAuto
import Derived.StillTailTactics
import Derived.IntWalk
import Derived.Deep.RegionHeld3
import Derived.Deep.RegionLaw
namespace Go.Proofs.Ytnfilklgogaheaa
open Go.RowKit Go.Deep
set_option linter.unusedVariables false
set_option linter.unusedSimpArgs false

def IffB (b : Bool) (p : Prop) : Prop := b = true ↔ p
/-- What grown hands back: new memory that reads as a log that may be. -/
def IsGrown (base : Nat) (room : Int) (w : World) (l : Value) : Prop :=
  ∃ xs, Made Entry.cells 5 32 base w l xs ∧ GoodE xs ∧ (xs.length : Int) ≤ room ∧ (∀ x ∈ xs, x.number ≤ 9223372036854775807)

set_option maxRecDepth 100000 in
set_option maxHeartbeats 8000000 in
theorem grown_calls (A : Option Addr) (c n : Nat) (rs : List Raw) (room : Int) (hn : n = rs.length) (hr1 : 1 ≤ room) (hr2 : room ≤ 256) (w : World) (hl : rs.length ≤ 9223372036854775806) (hw : ∀ r ∈ rs, r.wf) (ha : Rd Raw.cells 5 w w.heap.size A rs) :
    Calls Try.prog 23 #[.slice A n c, .int .i64 room] w fun e w' => ∃ l, e = .returned (.tuple #[l, .bool true]) ∧ IsGrown w.heap.size room w' l ∧ Below w.heap.size w w' := by
  subst hn
  have HA := Lib.hid ha
  have HW := Lib.hid hw
  clear ha hw
  go_enter Try.func23, Try.ntmps23
  go_wp2_with fail
  go_loopg [6, 7] rs.length (fun g l i wr => ∃ (k : Nat) (xs : List Entry) (A1 : Option Addr) (c1 : Nat), g + k = rs.length ∧ i = .int .i64 k ∧ l = .slice A1 xs.length c1 ∧ Hid (Made Entry.cells 5 32 w.heap.size wr (.slice A1 xs.length c1) xs) ∧ Hid (GoodE xs) ∧ (xs.length : Int) ≤ room ∧ Hid (∀ x ∈ xs, x.number ≤ 9223372036854775807) ∧ Below w.heap.size w wr)
  case atStart => exact ⟨0, [], none, 0, by omega, rfl, rfl, Made.nil _ _ _, GoodE.nil, by simp; omega, (fun x hx => by simp at hx), Below.refl _ _⟩
  case round =>
    obtain ⟨k, xs, A1, c1, hk, rfl, rfl, hm, hg, hlen, hnum, hbr⟩ := hrel
    by_cases hk1 : k < rs.length
    · have g1 : (k:Int) < (rs.length : Int) := by omega
      by_cases hroom : (xs.length : Int) < room
      · obtain ⟨ad, rfl, hadw, hca⟩ := (HA.out.below hbr).at_ hk1
        obtain ⟨c0, cc1, c2, c3, c4⟩ := hca.five
        have hwf := Lib.hid (HW.out _ (List.getElem_mem hk1))
        clear hca
        generalize rs[k] = r at *
        obtain ⟨W5, hW5⟩ : ∃ W5 : World, W5 = wr := ⟨_, rfl⟩
        subst hW5
        go_wp2_with fail
        refine (within_calls r.client 15 hwf.out.client (by omega) (by omega) W5).mono ?_
        rintro e w' ⟨rfl, hw'⟩
        rw [hw']
        clear hw' w'
        have hcl0 := Int.emod_nonneg r.client (by omega : (15 : Int) + 1 ≠ 0)
        have hcl1 := Int.emod_lt_of_pos r.client (by omega : (0 : Int) < 15 + 1)
        rw [show (15 : Int) + 1 = 16 from rfl] at hcl0 hcl1 ⊢
        generalize r.client % 16 = cl at *
        dsimp only
        go_wp2_with fail
        go_loopg [9, 10] xs.length (fun g d j wq => ∃ i : Nat, g + i = xs.length ∧ j = .int .i64 i ∧ d = .int .i64 (lastD (xs.take i) cl) ∧ W5 = wq)
        case atStart => exact ⟨0, by omega, rfl, rfl, rfl⟩
        case round =>
          obtain ⟨i, hi, rfl, rfl, hwq⟩ := hrel
          subst hwq
          by_cases hi1 : i < xs.length
          · obtain ⟨bd, hbd, _, hcb⟩ := (hm.out.rd' encEntry.len).at_ hi1
            subst hbd
            have g2 : (i:Int) < (xs.length : Int) := by omega
            obtain ⟨d0, d1, d2, d3, d4⟩ := hcb.five
            have hs := lastD_take hi1 cl
            clear hcb
            obtain ⟨t', ht'⟩ : ∃ t', t' = lastD (xs.take (i + 1)) cl := ⟨_, rfl⟩
            rw [← ht'] at hs
            have HT := Lib.hid ht'
            clear ht'
            generalize lastD (xs.take i) cl = t at *
            by_cases h2 : xs[i].client = cl
            · rw [if_pos h2] at hs
              have h2' : (xs[i].client == cl) = true := by simpa using h2
              generalize xs[i] = y at *
              subst hs
              go_wp2_with fail
              go_roundg (xs.length - (i + 1))
              case rel => exact ⟨i + 1, by omega, by go_num, congrArg _ HT.out, rfl⟩
              case measure => omega
            · rw [if_neg h2] at hs
              have h2' : (xs[i].client == cl) = false := by simpa using h2
              generalize xs[i] = y at *
              subst hs
              go_wp2_with fail
              go_roundg (xs.length - (i + 1))
              case rel => exact ⟨i + 1, by omega, by go_num, congrArg _ HT.out, rfl⟩
              case measure => omega
          · have g2 : decide ((i:Int) < (xs.length : Int)) = false := by simp; omega
            rw [show xs.take i = xs from List.take_of_length_le (by omega)]
            obtain ⟨hd0, hd1⟩ := lastD_bounds hg.out (by omega : (0 : Int) ≤ 9223372036854775807) hnum.out cl
            have hfit : Hid (∀ (u : Int) (o : Op), 0 ≤ u → checkOp o = 0 → appE xs room ⟨cl, lastD xs cl + 1 + u, o⟩ = 0) := fun u o hu ho => grow_app hg.out hr1 hr2 hroom hcl0 hcl1 hu ho
            generalize lastD xs cl = d at *
            obtain ⟨W6, hW6⟩ : ∃ W6, W6 = W5.alloc (.cells #[.int .i64 r.op.kind, .int .i64 r.op.slot, .string r.op.value] 30) := ⟨_, rfl⟩
            have k6 : W6.heap[W5.heap.size]? = some (.cells #[.int .i64 r.op.kind, .int .i64 r.op.slot, .string r.op.value] 30 (0, 0)) := by rw [hW6]; exact heap_alloc_new _ _
            have hb6 : Below W5.heap.size W5 W6 := by rw [hW6]; exact (Below.refl _ _).alloc (Nat.le_refl _) _
            have hs6 : W6.heap.size = W5.heap.size + 1 := by rw [hW6]; simp
            go_wp2_with fail
            rw [← hW6]
            refine (within_calls r.op.kind 3 hwf.out.op.kind (by omega) (by omega) W6).mono ?_
            rintro e w' ⟨rfl, hw'⟩
            rw [hw']
            clear hw' w' hW6
            have hK0 := Int.emod_nonneg r.op.kind (by omega : (3 : Int) + 1 ≠ 0)
            have hK1 := Int.emod_lt_of_pos r.op.kind (by omega : (0 : Int) < 3 + 1)
            rw [show (3 : Int) + 1 = 4 from rfl] at hK0 hK1 ⊢
            generalize r.op.kind % 4 = K at *
            have e60 : W6.cell? ⟨W5.heap.size, 0, none⟩ = some (.int .i64 r.op.kind) := cell_of_row _ _ 0 _ _ _ k6
            have f60 : W6.frozen? ⟨W5.heap.size, 0, none⟩ = false := frozen_of_row _ _ _ _ _ k6
            obtain ⟨W7, hW7⟩ : ∃ W7, W7 = W6.setCell ⟨W5.heap.size, 0, none⟩ (.int .i64 (1 + K)) := ⟨_, rfl⟩
            have k7 : W7.heap[W5.heap.size]? = some (.cells #[.int .i64 (1 + K), .int .i64 r.op.slot, .string r.op.value] 30 (0, 0)) := by rw [hW7, heap_setCell_same W6 W5.heap.size 0 _ _ _ k6]; rfl
            have hb7 : Below W5.heap.size W5 W7 := by rw [hW7]; exact hb6.setCell (p := ⟨W5.heap.size, 0, none⟩) (by simp) _
            have hs7 : W7.heap.size = W5.heap.size + 1 := by rw [hW7]; simpa [World.setCell] using hs6
            have e71 : W7.cell? ⟨W5.heap.size, 1, none⟩ = some (.int .i64 r.op.slot) := cell_of_row _ _ 1 _ _ _ k7
            have f71 : W7.frozen? ⟨W5.heap.size, 1, none⟩ = false := frozen_of_row _ _ _ _ _ k7
            have e71' := e71
            rw [hW7] at e71'
            dsimp only
            go_wp2_with fail
            rw [← hW7]
            refine (within_calls r.op.slot 1023 hwf.out.op.slot (by omega) (by omega) W7).mono ?_
            rintro e w' ⟨rfl, hw'⟩
            rw [hw']
            clear hw' w' hW7 e71' e60 f60 k6 hb6 hs6
            have hS0 := Int.emod_nonneg r.op.slot (by omega : (1023 : Int) + 1 ≠ 0)
            have hS1 := Int.emod_lt_of_pos r.op.slot (by omega : (0 : Int) < 1023 + 1)
            rw [show (1023 : Int) + 1 = 1024 from rfl] at hS0 hS1 ⊢
            generalize r.op.slot % 1024 = S at *
            obtain ⟨W8, hW8⟩ : ∃ W8, W8 = W7.setCell ⟨W5.heap.size, 1, none⟩ (.int .i64 S) := ⟨_, rfl⟩
            have k8 : W8.heap[W5.heap.size]? = some (.cells #[.int .i64 (1 + K), .int .i64 S, .string r.op.value] 30 (0, 0)) := by rw [hW8, heap_setCell_same W7 W5.heap.size 1 _ _ _ k7]; rfl
            have hb8 : Below W5.heap.size W5 W8 := by rw [hW8]; exact hb7.setCell (p := ⟨W5.heap.size, 1, none⟩) (by simp) _
            have hs8 : W8.heap.size = W5.heap.size + 1 := by rw [hW8]; simpa [World.setCell] using hs7
            have e82 : W8.cell? ⟨W5.heap.size, 2, none⟩ = some (.string r.op.value) := cell_of_row _ _ 2 _ _ _ k8
            have f82 : W8.frozen? ⟨W5.heap.size, 2, none⟩ = false := frozen_of_row _ _ _ _ _ k8
            have e82' := e82
            rw [hW8] at e82'
            dsimp only
            go_upto_if 68 with fail
            rw [← hW8]
            clear hW8 e82' e71 f71 k7 hb7 hs7
            go_cut [11] (fun s11 wx => s11 = .pointer (some ⟨W5.heap.size, 0, none⟩) ∧ ∃ v1 : ByteArray, v1.size ≤ 64 ∧ wx.heap[W5.heap.size]? = some (.cells #[.int .i64 (1 + K), .int .i64 S, .string v1] 30 (0, 0)) ∧ wx.heap.size = W5.heap.size + 1 ∧ Below W5.heap.size W5 wx)
            case first =>
              by_cases hv64 : 64 < (r.op.value.size : Int)
              · go_wp2_with fail
                go_meet
                exact ⟨rfl, r.op.value.extract 0 64, by simp; omega, by rw [heap_setCell_same W8 W5.heap.size 2 _ _ _ k8]; rfl, by simpa [World.setCell] using hs8, hb8.setCell (p := ⟨W5.heap.size, 2, none⟩) (by simp) _⟩
              · have hv64' : decide (64 < (r.op.value.size : Int)) = false := decide_eq_false hv64
                go_wp2_with fail
                go_meet
                exact ⟨rfl, r.op.value, by omega, k8, hs8, hb8⟩
            case rest =>
              obtain ⟨rfl, v1, hv1, k9, hs9, hb9⟩ := hcut
              obtain ⟨W9, hW9⟩ : ∃ W9 : World, W9 = wc := ⟨_, rfl⟩
              subst hW9
              clear k8 hs8 hb8 e82 f82
              have e90 : W9.cell? ⟨W5.heap.size, 0, none⟩ = some (.int .i64 (1 + K)) := cell_of_row _ _ 0 _ _ _ k9
              have f91 : W9.frozen? ⟨W5.heap.size, 1, none⟩ = false := frozen_of_row _ _ _ _ _ k9
              have e91 : W9.cell? ⟨W5.heap.size, 1, none⟩ = some (.int .i64 S) := cell_of_row _ _ 1 _ _ _ k9
              go_upto_region 17 with fail
              go_cut [11, 80] (fun s11 s80 wx => s11 = .pointer (some ⟨W5.heap.size, 0, none⟩) ∧ (∃ b : Bool, s80 = .bool b ∧ IffB b (1 + K = 2 ∨ 1 + K = 4)) ∧ W9 = wx)
              case first =>
                by_cases h2 : 1 + K = 2
                · have h2' : (1 + K == 2) = true := by simpa using h2
                  have HI : IffB true (1 + K = 2 ∨ 1 + K = 4) := ⟨fun _ => .inl h2, fun _ => rfl⟩
                  clear h2
                  go_wp2_with fail
                  go_meet
                  exact ⟨rfl, ⟨_, rfl, HI⟩, rfl⟩
                · have h2' : (1 + K == 2) = false := by simpa using h2
                  by_cases h4 : 1 + K = 4
                  · have h4' : (1 + K == 4) = true := by simpa using h4
                    have HI : IffB true (1 + K = 2 ∨ 1 + K = 4) := ⟨fun _ => .inr h4, fun _ => rfl⟩
                    clear h2 h4
                    go_wp2_with fail
                    go_meet
                    exact ⟨rfl, ⟨_, rfl, HI⟩, rfl⟩
                  · have h4' : (1 + K == 4) = false := by simpa using h4
                    have HI : IffB false (1 + K = 2 ∨ 1 + K = 4) := ⟨fun q => (by cases q), fun q => (by omega)⟩
                    clear h2 h4
                    go_wp2_with fail
                    go_meet
                    exact ⟨rfl, ⟨_, rfl, HI⟩, rfl⟩
              case rest =>
              obtain ⟨rfl, ⟨b1, rfl, hb1⟩, hwc⟩ := hcut
              subst hwc
              go_upto_if 80 with fail
              go_cut [11] (fun s11 wx => s11 = .pointer (some ⟨W5.heap.size, 0, none⟩) ∧ ∃ S1 : Int, (0 ≤ S1 ∧ S1 < 1024) ∧ (1 + K = 2 ∨ 1 + K = 4 → S1 = 0) ∧ wx.heap[W5.heap.size]? = some (.cells #[.int .i64 (1 + K), .int .i64 S1, .string v1] 30 (0, 0)) ∧ wx.heap.size = W5.heap.size + 1 ∧ Below W5.heap.size W5 wx)
              case first =>
                have HKv := Lib.hid k9
                cases b1 with
                | true =>
                  go_wp2_with fail
                  go_meet
                  exact ⟨rfl, 0, by omega, (fun _ => rfl), by rw [heap_setCell_same W9 W5.heap.size 1 _ _ _ HKv.out]; rfl, by simpa [World.setCell] using hs9, hb9.setCell (p := ⟨W5.heap.size, 1, none⟩) (by simp) _⟩
                | false =>
                  go_wp2_with fail
                  go_meet
                  exact ⟨rfl, S, ⟨hS0, hS1⟩, fun q => absurd (hb1.2 q) (by simp), HKv.out, hs9, hb9⟩
              case rest =>
                obtain ⟨rfl, S1, hS1', hS2, k10, hs10, hb10⟩ := hcut
                obtain ⟨W10, hW10⟩ : ∃ W10 : World, W10 = wc := ⟨_, rfl⟩
                subst hW10
                have HS2 := Lib.hid hS2
                clear k9 hs9 hb9 e90 f91 e91 hS2
                have e100 : W10.cell? ⟨W5.heap.size, 0, none⟩ = some (.int .i64 (1 + K)) := cell_of_row _ _ 0 _ _ _ k10
                have f102 : W10.frozen? ⟨W5.heap.size, 2, none⟩ = false := frozen_of_row _ _ _ _ _ k10
                have e102 : W10.cell? ⟨W5.heap.size, 2, none⟩ = some (.string v1) := cell_of_row _ _ 2 _ _ _ k10
                go_upto_region 19 with fail
                go_cut [11, 89] (fun s11 s89 wx => s11 = .pointer (some ⟨W5.heap.size, 0, none⟩) ∧ (∃ b : Bool, s89 = .bool b ∧ IffB b (1 + K = 3 ∨ 1 + K = 4)) ∧ W10 = wx)
                case first =>
                  by_cases h2 : 1 + K = 3
                  · have h2' : (1 + K == 3) = true := by simpa using h2
                    have HI : IffB true (1 + K = 3 ∨ 1 + K = 4) := ⟨fun _ => .inl h2, fun _ => rfl⟩
                    clear h2
                    go_wp2_with fail
                    go_meet
                    exact ⟨rfl, ⟨_, rfl, HI⟩, rfl⟩
                  · have h2' : (1 + K == 3) = false := by simpa using h2
                    by_cases h4 : 1 + K = 4
                    · have h4' : (1 + K == 4) = true := by simpa using h4
                      have HI : IffB true (1 + K = 3 ∨ 1 + K = 4) := ⟨fun _ => .inr h4, fun _ => rfl⟩
                      clear h2 h4
                      go_wp2_with fail
                      go_meet
                      exact ⟨rfl, ⟨_, rfl, HI⟩, rfl⟩
                    · have h4' : (1 + K == 4) = false := by simpa using h4
                      have HI : IffB false (1 + K = 3 ∨ 1 + K = 4) := ⟨fun q => (by cases q), fun q => (by omega)⟩
                      clear h2 h4
                      go_wp2_with fail
                      go_meet
                      exact ⟨rfl, ⟨_, rfl, HI⟩, rfl⟩
                case rest =>
                obtain ⟨rfl, ⟨b2, rfl, hb2⟩, hwc⟩ := hcut
                subst hwc
                go_upto_if 89 with fail
                go_cut [11] (fun s11 wx => s11 = .pointer (some ⟨W5.heap.size, 0, none⟩) ∧ ∃ v2 : ByteArray, v2.size ≤ 64 ∧ (1 + K = 3 ∨ 1 + K = 4 → v2.size = 0) ∧ wx.heap[W5.heap.size]? = some (.cells #[.int .i64 (1 + K), .int .i64 S1, .string v2] 30 (0, 0)) ∧ wx.heap.size = W5.heap.size + 1 ∧ Below W5.heap.size W5 wx)
                case first =>
                  have HKv := Lib.hid k10
                  cases b2 with
                  | true =>
                    go_wp2_with fail
                    go_meet
                    exact ⟨rfl, ⟨#[]⟩, by decide, (fun _ => rfl), by rw [heap_setCell_same W10 W5.heap.size 2 _ _ _ HKv.out]; rfl, by simpa [World.setCell] using hs10, hb10.setCell (p := ⟨W5.heap.size, 2, none⟩) (by simp) _⟩
                  | false =>
                    go_wp2_with fail
                    go_meet
                    exact ⟨rfl, v1, hv1, fun q => absurd (hb2.2 q) (by simp), HKv.out, hs10, hb10⟩
                case rest =>
                  obtain ⟨rfl, v2, hv2, hv3, k11, hs11, hb11⟩ := hcut
                  obtain ⟨W11, hW11⟩ : ∃ W11 : World, W11 = wc := ⟨_, rfl⟩
                  subst hW11
                  have hop := Lib.hid (op_fits hK0 hK1 hS1'.1 hS1'.2 hv2 HS2.out hv3)
                  clear k10 hs10 hb10 e100 f102 e102 hv3 HS2
                  obtain ⟨KK, hKK⟩ : ∃ KK, KK = 1 + K := ⟨_, rfl⟩
                  rw [← hKK] at k11 hop
                  clear hKK
                  have e0 : W11.cell? ⟨W5.heap.size, 0, none⟩ = some (.int .i64 KK) := cell_of_row _ _ 0 _ _ _ k11
                  have e1 : W11.cell? ⟨W5.heap.size, 1, none⟩ = some (.int .i64 S1) := cell_of_row _ _ 1 _ _ _ k11
                  have e2 : W11.cell? ⟨W5.heap.size, 2, none⟩ = some (.string v2) := cell_of_row _ _ 2 _ _ _ k11
                  have hladd : (ad.add (k * 5)).block < W5.heap.size := by rw [block_add]; exact Nat.lt_of_lt_of_le hadw hbr.size
                  have up : W11.cell? ⟨(ad.add (k * 5)).block, (ad.add (k * 5)).off + 1, none⟩ = some (.int .i64 r.up) := (hb11.cell (p := ⟨(ad.add (k * 5)).block, (ad.add (k * 5)).off + 1, none⟩) hladd).trans cc1
                  have hbw11 : Below w.heap.size w W11 := hbr.trans (hb11.mono hbr.size)
                  have HM11 := Lib.hid (hm.out.below hb11 fun b q => (hm.out.lt b q).2)
                  clear c0 cc1 c2 c3 c4
                  by_cases hmax : d = 9223372036854775807
                  · subst hmax
                    go_wp2_with fail
                    go_roundg (rs.length - (k + 1))
                    case rel => exact ⟨k + 1, xs, A1, c1, by omega, by go_num, rfl, HM11.out, hg.out, hlen, hnum.out, hbw11⟩
                    case measure => omega
                  · have hmax' : (d == 9223372036854775807) = false := by simpa using hmax
                    go_wp2_with fail
                    -- REGION22
                    have q1 : IntKind.i64.wrap (d + 1) = d + 1 := IntWalk.i64_in _ (by omega)
                    have q2 : IntKind.i64.wrap (9223372036854775807 - d) = 9223372036854775807 - d := IntWalk.i64_in _ (by omega)
                    have q3 : IntKind.i64.wrap (9223372036854775807 - d - 1) = 9223372036854775807 - d - 1 := IntWalk.i64_in _ (by omega)
                    obtain ⟨M, hM⟩ : ∃ M : Int, M = if 9223372036854775807 - d - 1 < 1099511627776 then 9223372036854775807 - d - 1 else 1099511627776 := ⟨_, rfl⟩
                    have hM0 : 0 ≤ M := by rw [hM]; split <;> omega
                    have hM1 : M ≤ 9223372036854775807 - d - 1 := by rw [hM]; split <;> omega
                    have hU0 := Int.emod_nonneg r.up (by omega : M + 1 ≠ 0)
                    have hU1 := Int.emod_lt_of_pos r.up (by omega : 0 < M + 1)
                    have hwi := within_calls r.up M hwf.out.up hM0 (by omega)
                    obtain ⟨U, hU⟩ : ∃ U, U = r.up % (M + 1) := ⟨_, rfl⟩
                    rw [← hU] at hU0 hU1 hwi
                    have HWI := Lib.hid hwi
                    have HM := Lib.hid hM
                    have hU2 : d + 1 + U ≤ 9223372036854775807 := by omega
                    clear hU hwi hM hU1
                    have q4 : IntKind.i64.wrap (d + 1 + U) = d + 1 + U := IntWalk.i64_in _ (by omega)
                    show Code.wp _ _ _ _ _
                    go_cut [12] (fun s12 wx => s12 = .pointer (some ⟨W11.heap.size, 0, none⟩) ∧ wx.heap[W11.heap.size]? = some (.cells #[.int .i64 cl, .int .i64 (d + 1 + U), .int .i64 KK, .int .i64 S1, .string v2] 32 (0, 0)) ∧ Below W11.heap.size W11 wx)
                    case first =>
                      have hl0 : (⟨W5.heap.size, 0, none⟩ : Addr).block < W11.heap.size := by simp; omega
                      have hl1 : (⟨W5.heap.size, 1, none⟩ : Addr).block < W11.heap.size := by simp; omega
                      have hl2 : (⟨W5.heap.size, 2, none⟩ : Addr).block < W11.heap.size := by simp; omega
                      have hl3 : (⟨(ad.add (k * 5)).block, (ad.add (k * 5)).off + 1, none⟩ : Addr).block < W11.heap.size := by simp; omega
                      go_region_held3 (fun w' => w'.cell? ⟨W5.heap.size, 0, none⟩ = some (.int .i64 KK) ∧ w'.cell? ⟨W5.heap.size, 1, none⟩ = some (.int .i64 S1) ∧ w'.cell? ⟨W5.heap.size, 2, none⟩ = some (.string v2) ∧ w'.cell? ⟨(ad.add (k * 5)).block, (ad.add (k * 5)).off + 1, none⟩ = some (.int .i64 r.up))
                        (first
                          | go_keep
                          | (go_split_ands
                             refine ⟨?_, ?_, ?_, ?_⟩
                             · (rw [World.cell?_alloc_lt _ _ _ (by exact hl0)]; assumption)
                             · (rw [World.cell?_alloc_lt _ _ _ (by exact hl1)]; assumption)
                             · (rw [World.cell?_alloc_lt _ _ _ (by exact hl2)]; assumption)
                             · (rw [World.cell?_alloc_lt _ _ _ (by exact hl3)]; assumption)))
                        (first
                          | (go_at_call 24; rw [← HM.out]; refine (HWI.out _).mono ?_; rintro e w' ⟨rfl, hw'⟩; rw [hw']; clear hw' w'))
                      all_goals
                        go_wp2_with fail
                        go_meet
                        exact ⟨by rw [hs11], heap_alloc_new W11 _, below_drew ((Below.refl _ W11).alloc (Nat.le_refl _) _)⟩
                    case rest =>
                      obtain ⟨rfl, k12, hb12⟩ := hcut
                      obtain ⟨W12, hW12⟩ : ∃ W12 : World, W12 = wc := ⟨_, rfl⟩
                      subst hW12
                      rw [hs11] at k12
                      have hxe : appE xs room ⟨cl, d + 1 + U, ⟨KK, S1, v2⟩⟩ = 0 := hfit.out U _ hU0 hop.out
                      have hxv : v2.size ≤ 64 := hv2
                      obtain ⟨N, hN⟩ : ∃ N, N = d + 1 + U := ⟨_, rfl⟩
                      rw [← hN] at k12 hxe hU2
                      clear hN q1 q2 q3 q4 HWI HM hM0 hM1 hU0 hfit hop e0 e1 e2 up k11
                      have x0 : W12.cell? ⟨W5.heap.size + 1, 0, none⟩ = some (.int .i64 cl) := cell_of_row _ _ 0 _ _ _ k12
                      have x1 : W12.cell? ⟨W5.heap.size + 1, 1, none⟩ = some (.int .i64 N) := cell_of_row _ _ 1 _ _ _ k12
                      have x2 : W12.cell? ⟨W5.heap.size + 1, 2, none⟩ = some (.int .i64 KK) := cell_of_row _ _ 2 _ _ _ k12
                      have x3 : W12.cell? ⟨W5.heap.size + 1, 3, none⟩ = some (.int .i64 S1) := cell_of_row _ _ 3 _ _ _ k12
                      have x4 : W12.cell? ⟨W5.heap.size + 1, 4, none⟩ = some (.string v2) := cell_of_row _ _ 4 _ _ _ k12
                      have HM12 := Lib.hid (HM11.out.below hb12 fun b q => (HM11.out.lt b q).2)
                      have hbw12 := hbw11.trans (hb12.mono hbw11.size)
                      have hlt12 : W5.heap.size + 1 < W12.heap.size := (Array.getElem?_eq_some_iff.1 k12).1
                      go_wp2_with fail
                      refine (append_prog A1 c1 xs.length xs room ⟨cl, N, ⟨KK, S1, v2⟩⟩ rfl W12 (by omega) (by simp; omega) hg.out.vals (HM12.out.rd' encEntry.len)).mono ?_
                      rintro e W13 ⟨v13, rfl, hm13, hb13⟩
                      rw [hxe] at hm13 ⊢
                      rw [if_pos rfl] at hm13
                      obtain ⟨A13, c13, rfl, hc13⟩ := hm13.form
                      have hln : (xs ++ [(⟨cl, N, ⟨KK, S1, v2⟩⟩ : Entry)]).length = xs.length + 1 := by simp
                      have hr13 := hm13.rd' encEntry.len
                      rw [hln] at hm13 hc13 ⊢
                      obtain ⟨ad13, rfl, _, hca13⟩ := hr13.at_ (i := xs.length) (by simp)
                      rw [show (xs ++ [(⟨cl, N, ⟨KK, S1, v2⟩⟩ : Entry)])[xs.length]'(by simp) = ⟨cl, N, ⟨KK, S1, v2⟩⟩ by simp] at hca13
                      obtain ⟨z0, z1, z2, z3, z4⟩ := hca13.five
                      have k13 := (hb13.block _ hlt12).trans k12
                      have y0 : W13.cell? ⟨W5.heap.size + 1, 0, none⟩ = some (.int .i64 cl) := cell_of_row _ _ 0 _ _ _ k13
                      have y1 : W13.cell? ⟨W5.heap.size + 1, 1, none⟩ = some (.int .i64 N) := cell_of_row _ _ 1 _ _ _ k13
                      have y2 : W13.cell? ⟨W5.heap.size + 1, 2, none⟩ = some (.int .i64 KK) := cell_of_row _ _ 2 _ _ _ k13
                      have y3 : W13.cell? ⟨W5.heap.size + 1, 3, none⟩ = some (.int .i64 S1) := cell_of_row _ _ 3 _ _ _ k13
                      have y4 : W13.cell? ⟨W5.heap.size + 1, 4, none⟩ = some (.string v2) := cell_of_row _ _ 4 _ _ _ k13
                      have hne := neq_entry ⟨cl, N, ⟨KK, S1, v2⟩⟩ ⟨cl, N, ⟨KK, S1, v2⟩⟩
                      have hge := guard_entry
                      have hst : Hid (Rd Entry.cells 5 W13 W13.heap.size (some ad13) xs) := by
                        have := hr13.take xs.length
                        rwa [List.take_left'] at this
                        rfl
                      have hsl : Hid (Rd Entry.cells 5 W13 W13.heap.size A1 xs) := ((HM12.out.rd' encEntry.len).below hb13).more hb13.size
                      have HM13 := Lib.hid (hm13.base' hbw12.size)
                      have hbw13 := hbw12.trans (hb13.mono hbw12.size)
                      have q5 : IntKind.i64.wrap ((xs.length : Int) + 1) = (xs.length : Int) + 1 := IntWalk.i64_in _ (by omega)
                      have hc13' : xs.length ≤ c13 := by omega
                      have HXE := Lib.hid hxe
                      simp only [decide_true, Bool.not_true] at hne
                      clear hm13 hb13 hr13 hca13 x0 x1 x2 x3 x4 k12 k13 hb12 HM12 hxe hln HM11
                      dsimp only
                      go_wp2_with fail
                      go_quiet ((go_at_call 15; exact quiet_one (sameTrue (some ad13) A1 c13 c1 _ xs rfl _ (by omega) (by exact hst.out) (by exact hsl.out))))
                      go_wp2_with fail
                      go_roundg (rs.length - (k + 1))
                      case rel => exact ⟨k + 1, xs ++ [⟨cl, N, ⟨KK, S1, v2⟩⟩], some ad13, c13, by omega, by go_num, by simp, by rw [List.length_append, List.length_singleton]; exact HM13.out, app_good HXE.out, by simp; omega, (fun y hy => by
                        rcases List.mem_append.1 hy with h | h
                        · exact hnum.out y h
                        · simp at h; subst h; exact hU2), below_drewN hbw13 _⟩
                      case measure => omega
      · have g2 : decide ((xs.length : Int) < room) = false := decide_eq_false hroom
        clear HA HW
        go_wp2_with fail
        go_ret2
        exact ⟨_, rfl, ⟨xs, hm.out, hg.out, hlen, hnum.out⟩, hbr⟩
    · have g1 : decide ((k:Int) < (rs.length : Int)) = false := by simp; omega
      clear HA HW
      go_wp2_with fail
      go_ret2
      exact ⟨_, rfl, ⟨xs, hm.out, hg.out, hlen, hnum.out⟩, hbr⟩
end Go.Proofs.Ytnfilklgogaheaa
