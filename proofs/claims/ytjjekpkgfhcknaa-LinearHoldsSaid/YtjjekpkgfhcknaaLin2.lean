/- missing, breaks: what they answer. Conditions: Go lengths. -/
import Derived.Test.YtjjekpkgfhcknaaLin1
import Derived.StillTailTactics
import Derived.Deep.LoopGhost
namespace Go.Proofs.Ytjjekpkgfhcknaa
open Go.RowKit
set_option linter.unusedVariables false
set_option linter.unusedSimpArgs false

def boolC (b : Bool) : List Value := [.bool b]
theorem encB : Enc boolC 1 := ⟨fun _ => rfl, fun x u hu => by simp [boolC] at hu; subst hu; rfl⟩
theorem At.one {w : World} {p : Addr} {a : Value} (h : At w p [a]) : w.cell? p = some a := h 0 _ rfl
theorem below_drewL {B : Nat} {a w : World} (h : Below B a w) : Below B a w.drew := ⟨h.os, h.tape, h.output, h.size, h.block⟩
theorem missing_of {l : List Call} {S : List Bool} {k : Nat} (h : k < l.length) (hk : missAt l S k = true) : missingL l S = true := any_range h hk
theorem missing_none {l : List Call} {S : List Bool} (h : ∀ j, j < l.length → missAt l S j = false) : missingL l S = false := any_range_none h

set_option maxHeartbeats 2000000 in
theorem missing_prog (A B : Option Addr) (c d n m : Nat) (l : List Call) (S : List Bool) (hn : n = l.length) (hm : m = l.length) (hS : S.length = l.length) (w : World) (hl : l.length ≤ 9223372036854775806) (ha : Rd Call.cells 10 w w.heap.size A l) (hb : Rd boolC 1 w w.heap.size B S) :
    Calls Try.prog 49 #[.slice A n c, .slice B m d] w fun e w' => e = .returned (.bool (missingL l S)) ∧ Below w.heap.size w w' := by
  subst hn hm
  obtain ⟨r, hr⟩ : ∃ r, r = missingL l S := ⟨_, rfl⟩
  rw [← hr]
  have HA := Lib.hid ha
  have HB := Lib.hid hb
  have HR := Lib.hid hr
  have HS := Lib.hid hS
  clear ha hb hr hS
  go_enter Try.func49, Try.ntmps49
  go_wp2_with fail
  go_loopw [9] (fun i wr => ∃ k : Nat, k ≤ l.length ∧ i = .int .i64 k ∧ Hid (∀ j, j < k → missAt l S j = false) ∧ Below w.heap.size w wr) (fun i _ => l.length - (intOf i).toNat)
  case atStart => exact ⟨0, by omega, rfl, fun j hj => absurd hj (Nat.not_lt_zero j), Below.refl _ _⟩
  case round =>
    obtain ⟨k, hk, rfl, hno, hbr⟩ := hrel
    by_cases h1 : k < l.length
    · obtain ⟨ad, hA, _, hca⟩ := (HA.out.below hbr).at_ h1
      have h2 : k < S.length := by rw [HS.out]; exact h1
      obtain ⟨bd, hB, hbl, hcb⟩ := (HB.out.below hbr).at_ h2
      have g1 : (k:Int) < (l.length : Int) := by omega
      have i2 : (0:Int) ≤ (k:Int) := by omega
      obtain ⟨c0, c1, c2, c3, c4, c5, c6, c7, c8, c9⟩ := hca.call
      have d0 : wr.cell? (bd.add k) = some (.bool S[k]) := by have := hcb.one; rwa [Nat.mul_one] at this
      have hmk : missAt l S k = (decide (0 ≤ l[k].fin) && !S[k]) := by
        simp [missAt, List.getElem?_eq_getElem h1, List.getElem?_eq_getElem h2]
      have HMK := Lib.hid hmk
      have hsz := hbr.size
      have hbd : bd.block < wr.heap.size := by omega
      have d0' : ∀ o, (wr.alloc o).cell? (bd.add k) = some (.bool S[k]) := fun o => (World.cell?_alloc_lt _ _ _ (by rw [block_add]; exact hbd)).trans d0
      subst hA hB
      clear hca hcb hmk
      generalize l[k] = x at *
      generalize S[k] = b at *
      by_cases hf : 0 ≤ x.fin
      · have hf2 : decide (0 ≤ x.fin) = true := decide_eq_true hf
        cases b
        · obtain rfl : r = true := HR.out.trans (missing_of h1 (by rw [HMK.out, hf2]; rfl))
          go_wp2_with fail
          go_ret
          exact ⟨rfl, hbr.alloc hsz _⟩
        · have hnx : Hid (∀ j, j < k + 1 → missAt l S j = false) := fun j hj => by
            by_cases e : j = k
            · subst e; rw [HMK.out, hf2]; rfl
            · exact hno.out j (by omega)
          go_wp2_with fail
          go_roundw
          case rel => exact ⟨k + 1, by omega, by go_num, hnx, hbr.alloc hsz _⟩
          case measure => simp [intOf]; omega
      · have hf2 : decide (0 ≤ x.fin) = false := decide_eq_false hf
        have hnx : Hid (∀ j, j < k + 1 → missAt l S j = false) := fun j hj => by
          by_cases e : j = k
          · subst e; rw [HMK.out, hf2]; rfl
          · exact hno.out j (by omega)
        go_wp2_with fail
        go_roundw
        case rel => exact ⟨k + 1, by omega, by go_num, hnx, hbr.alloc hsz _⟩
        case measure => simp [intOf]; omega
    · obtain rfl : r = false := HR.out.trans (missing_none fun j hj => hno.out j (by omega))
      have g2 : decide ((k:Int) < (l.length : Int)) = false := decide_eq_false (by omega)
      have g3 : decide (k < l.length) = false := decide_eq_false h1
      go_wp2_with fail
      go_ret
      exact ⟨rfl, hbr⟩

theorem ahead_of {l : List Call} {S : List Bool} {i k : Nat} {r : Res} (h : k < l.length) (hk : aheadAt l S i k = true) : breaksL l S i r = true := by
  unfold breaksL aheadOf
  rw [any_range h hk]
  rfl
theorem ahead_none {l : List Call} {S : List Bool} {i : Nat} {r : Res} (hi : i < l.length) (h : ∀ j, j < l.length → aheadAt l S i j = false) : breaksL l S i r = (decide (0 ≤ l[i].fin) && !(decide (r = l[i].res))) := by
  unfold breaksL aheadOf
  rw [any_range_none h, List.getElem?_eq_getElem hi]
  rfl

set_option maxRecDepth 100000 in
set_option maxHeartbeats 4000000 in
theorem breaks_prog (A B : Option Addr) (c d n m i : Nat) (l : List Call) (S : List Bool) (q : Res) (hn : n = l.length) (hm : m = l.length) (hS : S.length = l.length) (hi : i < l.length) (w : World) (hl : l.length ≤ 9223372036854775806) (ha : Rd Call.cells 10 w w.heap.size A l) (hb : Rd boolC 1 w w.heap.size B S) :
    Calls Try.prog 47 #[.slice A n c, .slice B m d, .int .i64 i, .agg #[.int .i64 q.code, .int .i64 q.slot, .string q.value]] w fun e w' => e = .returned (.bool (breaksL l S i q)) ∧ Below w.heap.size w w' := by
  subst hn hm
  obtain ⟨r, hr⟩ : ∃ r, r = breaksL l S i q := ⟨_, rfl⟩
  rw [← hr]
  have HA := Lib.hid ha
  have HB := Lib.hid hb
  have HR := Lib.hid hr
  have HS := Lib.hid hS
  have HI := Lib.hid hi
  have gi : (i:Int) < (l.length : Int) := by omega
  have gi0 : (0:Int) ≤ (i:Int) := by omega
  clear ha hb hr hS
  go_enter Try.func47, Try.ntmps47
  go_wp2_with fail
  have hw0 : ∃ w0, w0 = w.alloc (.cells #[.int .i64 q.code, .int .i64 q.slot, .string q.value] 26) := ⟨_, rfl⟩
  obtain ⟨w0, hw0⟩ := hw0
  have hb0 : Below w.heap.size w w0 := by rw [hw0]; exact (Below.refl _ _).alloc (Nat.le_refl _) _
  have hq0 : w0.heap[w.heap.size]? = some (.cells #[.int .i64 q.code, .int .i64 q.slot, .string q.value] 26 (0, 0)) := by rw [hw0]; exact heap_alloc_new _ _
  have HA0 := Lib.hid ((HA.out.below hb0).more hb0.size)
  have HB0 := Lib.hid ((HB.out.below hb0).more hb0.size)
  have HBB := Lib.hid hb0
  have HQ0 := Lib.hid hq0
  rw [← hw0]
  clear hw0 hb0 hq0 HA HB
  go_loopw [12] (fun i' wr => ∃ k : Nat, k ≤ l.length ∧ i' = .int .i64 k ∧ Hid (∀ j, j < k → aheadAt l S i j = false) ∧ Hid (Below w0.heap.size w0 wr)) (fun i _ => l.length - (intOf i).toNat)
  case atStart => exact ⟨0, by omega, rfl, fun j hj => absurd hj (Nat.not_lt_zero j), Below.refl _ _⟩
  case round =>
    obtain ⟨k, hk, rfl, hno, hbr⟩ := hrel
    have hbr := hbr.out
    have HBR := Lib.hid hbr
    have hsz := hbr.size
    by_cases h1 : k < l.length
    · have h2 : k < S.length := by rw [HS.out]; exact h1
      obtain ⟨ad, hA, hal, hca⟩ := (HA0.out.below hbr).at_ h1
      obtain ⟨ai, hAi, hail, hci⟩ := (HA0.out.below hbr).at_ HI.out
      obtain ⟨bd, hB, hbl, hcb⟩ := (HB0.out.below hbr).at_ h2
      have g1 : (k:Int) < (l.length : Int) := by omega
      have i2 : (0:Int) ≤ (k:Int) := by omega
      obtain ⟨c0, c1, c2, c3, c4, c5, c6, c7, c8, c9⟩ := hca.call
      obtain ⟨e0, e1, e2, e3, e4, e5, e6, e7, e8, e9⟩ := hci.call
      have d0 : wr.cell? (bd.add k) = some (.bool S[k]) := by have := hcb.one; rwa [Nat.mul_one] at this
      have hmk : aheadAt l S i k = (!S[k] && !(k == i) && precedes l[k] l[i]) := by
        unfold aheadAt
        rw [List.getElem?_eq_getElem h1, List.getElem?_eq_getElem HI.out]
        simp only [List.getD_eq_getElem?_getD, List.getElem?_eq_getElem h2, Option.getD_some]
        rfl
      have HMK := Lib.hid hmk
      have hA2 : some ai = some ad := hAi.symm.trans hA
      injection hA2 with hA2
      subst hA hB hA2
      clear hca hcb hmk hci hAi
      have hnx : aheadAt l S i k = false → Hid (∀ j, j < k + 1 → aheadAt l S i j = false) := fun h j hj => by
        by_cases e : j = k
        · subst e; exact h
        · exact hno.out j (by omega)
      have HNX := Lib.hid hnx
      have HYES : Hid (aheadAt l S i k = true → r = true) := fun h => HR.out.trans (ahead_of h1 h)
      clear hnx hbr
      generalize S[k] = b at *
      generalize l[k] = x at *
      generalize l[i] = y at *
      cases b
      · by_cases hki : k = i
        · have hki1 : decide ((k:Int) = (i:Int)) = true := decide_eq_true (by omega)
          have hki2 : ((k:Int) == (i:Int)) = true := by simp; omega
          have hki3 : ((k:Int) != (i:Int)) = false := by simp; omega
          have HN := Lib.hid (HNX.out (by rw [HMK.out]; simp [hki]))
          clear HNX HYES HMK hki
          go_wp2_with fail
          go_quiet (fail)
          go_wp2_with fail
          go_roundw
          case rel => exact ⟨k + 1, by omega, by go_num, HN.out, below_drewN HBR.out _⟩
          case measure => simp [intOf]; omega
        · have hki1 : decide ((k:Int) = (i:Int)) = false := decide_eq_false (by omega)
          have hki2 : ((k:Int) == (i:Int)) = false := by simp; omega
          have hki3 : ((k:Int) != (i:Int)) = true := by simp; omega
          have hki4 : (k == i) = false := by simpa using hki
          rw [hki4] at HMK
          clear hki hki4
          go_wp2_with fail
          go_still_tail 19, (by kernel_rfl)
          change wpList _ _ _ _ _ wr.drew
          have hbd : Below w0.heap.size w0 wr.drew := below_drewL HBR.out
          have HBD := Lib.hid hbd
          clear hbd HBR
          generalize wr.drew = w2 at *
          go_wp2_with fail
          refine (precedes_prog x y w2).mono ?_
          rintro e w3 ⟨rfl, hb3⟩
          have HB3 := Lib.hid (HBD.out.trans (hb3.mono HBD.out.size))
          clear hb3
          cases hpr : precedes x y
          · have HN := Lib.hid (HNX.out (by rw [HMK.out, hpr]; rfl))
            clear HNX HYES HMK hpr
            dsimp only
            go_wp2_with fail
            go_roundw
            case rel => exact ⟨k + 1, by omega, by go_num, HN.out, HB3.out⟩
            case measure => simp [intOf]; omega
          · obtain rfl : r = true := HYES.out (by rw [HMK.out, hpr]; rfl)
            clear HNX HYES HMK hpr
            dsimp only
            go_wp2_with fail
            go_ret
            exact ⟨rfl, HBB.out.trans (HB3.out.mono HBB.out.size)⟩
      · have HN := Lib.hid (HNX.out (by rw [HMK.out]; rfl))
        clear HNX HYES HMK
        go_wp2_with fail
        go_quiet (fail)
        go_wp2_with fail
        go_roundw
        case rel => exact ⟨k + 1, by omega, by go_num, HN.out, below_drewN HBR.out _⟩
        case measure => simp [intOf]; omega
    · have hra : r = (decide (0 ≤ l[i].fin) && !(decide (q = l[i].res))) := HR.out.trans (ahead_none HI.out fun j hj => hno.out j (by omega))
      have HRA := Lib.hid hra
      obtain ⟨ai, hAi, hail, hci⟩ := (HA0.out.below hbr).at_ HI.out
      obtain ⟨e0, e1, e2, e3, e4, e5, e6, e7, e8, e9⟩ := hci.call
      have hrow := (hbr.block _ (Array.getElem?_eq_some_iff.1 HQ0.out).1).trans HQ0.out
      have q0 : wr.cell? ⟨w.heap.size, 0, none⟩ = some (.int .i64 q.code) := cell_of_row _ _ 0 _ _ _ hrow
      have q1 : wr.cell? ⟨w.heap.size, 1, none⟩ = some (.int .i64 q.slot) := cell_of_row _ _ 1 _ _ _ hrow
      have q2 : wr.cell? ⟨w.heap.size, 2, none⟩ = some (.string q.value) := cell_of_row _ _ 2 _ _ _ hrow
      have g2 : decide ((k:Int) < (l.length : Int)) = false := decide_eq_false (by omega)
      have g3 : decide (k < l.length) = false := decide_eq_false h1
      have hge := guard_res
      subst hAi
      clear hci hrow hra hbr
      generalize l[i] = y at *
      have he := neq_res q y.res
      have hfinal := HBB.out.trans (HBR.out.mono HBB.out.size)
      by_cases hf : 0 ≤ y.fin
      · have hf2 : decide (0 ≤ y.fin) = true := decide_eq_true hf
        by_cases hqq : q = y.res
        · have hd : decide (q = y.res) = true := decide_eq_true hqq
          rw [hd] at he
          obtain rfl : r = false := HRA.out.trans (by rw [hf2, hd]; rfl)
          clear HRA hqq hd
          go_wp2_with fail
          go_quiet (fail)
          go_wp2_with fail
          go_ret
          exact ⟨rfl, below_drewN hfinal _⟩
        · have hd : decide (q = y.res) = false := decide_eq_false hqq
          rw [hd] at he
          obtain rfl : r = true := HRA.out.trans (by rw [hf2, hd]; rfl)
          clear HRA hqq hd
          go_wp2_with fail
          go_quiet (fail)
          go_wp2_with fail
          go_ret
          exact ⟨rfl, below_drewN hfinal _⟩
      · have hf2 : decide (0 ≤ y.fin) = false := decide_eq_false hf
        obtain rfl : r = false := HRA.out.trans (by rw [hf2]; rfl)
        clear HRA
        go_wp2_with fail
        go_quiet (fail)
        go_wp2_with fail
        go_ret
        exact ⟨rfl, below_drewN hfinal _⟩
end Go.Proofs.Ytjjekpkgfhcknaa
