/- The reference's entry: may an entry stand behind others; its Find and Last. Conditions: sizes within Go's own limits. -/
import Derived.Test.YthpogbbgdenmeaaFits
import Derived.Test.YthpogbbgdenmeaaFind
import Derived.Deep.LoopGhost
namespace Go.Proofs.Ythpogbbgdenmeaa
open Go.RowKit
set_option linter.unusedVariables false
set_option linter.unusedSimpArgs false

theorem twice_take {xs : List Entry} {k : Nat} (h : k < xs.length) (x : Entry) : twice (xs.take (k + 1)) x = (twice (xs.take k) x || decide (xs[k].client = x.client ∧ x.number ≤ xs[k].number)) := by
  unfold twice
  rw [take_snoc h, List.any_append]
  simp
theorem twice_mono {xs : List Entry} {k : Nat} {x : Entry} (h : twice (xs.take k) x = true) : twice xs x = true := by
  simp only [twice, List.any_eq_true] at *
  obtain ⟨y, hy, h⟩ := h
  exact ⟨y, List.mem_of_mem_take hy, h⟩

set_option maxRecDepth 100000 in
set_option maxHeartbeats 1000000 in
theorem entry_ref (A : Option Addr) (c n : Nat) (xs : List Entry) (x : Entry) (hn : n = xs.length) (hv : x.op.value.size ≤ 9223372036854775807) (w : World) (hl : xs.length ≤ 9223372036854775807) (ha : Rd Entry.cells 5 w w.heap.size A xs) :
    Calls Try.prog 40 #[.slice A n c, .agg #[.int .i64 x.client, .int .i64 x.number, .int .i64 x.op.kind, .int .i64 x.op.slot, .string x.op.value]] w fun e w' => e = .returned (.int .i64 (fitE xs x)) ∧ Below w.heap.size w w' := by
  subst hn
  obtain ⟨r, hr⟩ : ∃ r, r = fitE xs x := ⟨_, rfl⟩
  have HR := Lib.hid hr
  rw [← hr]
  clear hr
  by_cases h0 : x.client < 0 ∨ 16 ≤ x.client
  · have e : r = 62 := by rw [HR.out]; simp [fitE, baseE, h0]
    rw [e]
    clear HR
    rcases h0 with h0 | h0
    · go_enter Try.func40, Try.ntmps40
      go_wp2_with fail
      go_ret
      exact ⟨rfl, (Below.refl _ _).alloc (Nat.le_refl _) _⟩
    · have h1 : decide (x.client < 0) = false := decide_eq_false (by omega)
      go_enter Try.func40, Try.ntmps40
      go_wp2_with fail
      go_ret
      exact ⟨rfl, (Below.refl _ _).alloc (Nat.le_refl _) _⟩
  have h1 : decide (x.client < 0) = false := decide_eq_false (by omega)
  have h2 : decide (16 ≤ x.client) = false := decide_eq_false (by omega)
  by_cases h3 : x.number < 1
  · have e : r = 63 := by rw [HR.out]; simp [fitE, baseE, h0, h3]
    rw [e]
    clear HR
    go_enter Try.func40, Try.ntmps40
    go_wp2_with fail
    go_ret
    exact ⟨rfl, (Below.refl _ _).alloc (Nat.le_refl _) _⟩
  have h4 : decide (x.number < 1) = false := decide_eq_false (by omega)
  have hbase : baseE x = checkOp x.op := by unfold baseE; rw [if_neg h0, if_neg h3]
  unfold fitE at HR
  rw [hbase] at HR
  clear hbase h0 h3
  obtain ⟨W0, hW0⟩ : ∃ W0, W0 = w.alloc (.cells #[.int .i64 x.client, .int .i64 x.number, .int .i64 x.op.kind, .int .i64 x.op.slot, .string x.op.value] 41) := ⟨_, rfl⟩
  have hb0 : Below w.heap.size w W0 := by rw [hW0]; exact (Below.refl _ _).alloc (Nat.le_refl _) _
  have k0 : W0.heap[w.heap.size]? = some (.cells #[.int .i64 x.client, .int .i64 x.number, .int .i64 x.op.kind, .int .i64 x.op.slot, .string x.op.value] 41 (0, 0)) := by rw [hW0]; exact heap_alloc_new _ _
  have hlt : w.heap.size < W0.heap.size := by rw [hW0]; simp
  go_enter Try.func40, Try.ntmps40
  go_wp2_with fail
  rw [← hW0]
  refine (check_ref x.op hv W0).mono ?_
  rintro e w1 ⟨rfl, hb1⟩
  have k1 := (hb1.block _ hlt).trans k0
  have d0 : w1.cell? ⟨w.heap.size, 0, none⟩ = some (.int .i64 x.client) := cell_of_row _ _ 0 _ _ _ k1
  have d1 : w1.cell? ⟨w.heap.size, 1, none⟩ = some (.int .i64 x.number) := cell_of_row _ _ 1 _ _ _ k1
  have hbw := hb0.trans (hb1.mono hb0.size)
  have ha1 := Lib.hid (ha.below hbw)
  clear ha
  generalize checkOp x.op = q at *
  by_cases hq : q = 0
  · subst hq
    rw [if_neg (by simp)] at HR
    go_wp2_with fail
    go_loopw [6] (fun i wr => ∃ k : Nat, k ≤ xs.length ∧ i = .int .i64 k ∧ twice (xs.take k) x = false ∧ ∃ q, wr = w1.drewN q) (fun i _ => xs.length - (intOf i).toNat)
    case atStart => exact ⟨0, by omega, rfl, by simp [twice], 0, rfl⟩
    case round =>
      obtain ⟨k, hk, rfl, hc, q, rfl⟩ := hrel
      have HC := Lib.hid hc
      clear hc
      by_cases hk1 : k < xs.length
      · obtain ⟨ad, rfl, _, hca⟩ := ha1.out.at_ hk1
        have g1 : (k:Int) < (xs.length : Int) := by omega
        obtain ⟨c0, c1, c2, c3, c4⟩ := hca.five
        have hs := Lib.hid (twice_take hk1 x)
        have hmo := Lib.hid (@twice_mono xs (k + 1) x)
        clear hca
        by_cases j1 : xs[k].client = x.client
        · by_cases j2 : x.number ≤ xs[k].number
          · have e : r = 64 := by
              have h5 := hs.out
              rw [HC.out, show decide (xs[k].client = x.client ∧ x.number ≤ xs[k].number) = true by simp [j1, j2]] at h5
              rw [HR.out, if_pos (hmo.out h5)]
            subst e
            have j1' : (xs[k].client == x.client) = true := by simpa using j1
            clear HR hs hmo HC
            generalize xs[k] = y at *
            go_wp2_with fail
            go_quiet (fail)
            go_wp2
            go_ret
            exact ⟨rfl, below_drewN (below_drewN hbw _) _⟩
          · have h5 : Hid (twice (xs.take (k + 1)) x = false) := by
              have h5 := hs.out
              rw [HC.out, show decide (xs[k].client = x.client ∧ x.number ≤ xs[k].number) = false by simp [j2]] at h5
              exact h5
            have j1' : (xs[k].client == x.client) = true := by simpa using j1
            have j2' : decide (x.number ≤ xs[k].number) = false := decide_eq_false j2
            clear hs hmo HC
            generalize xs[k] = y at *
            go_wp2_with fail
            go_quiet (fail)
            go_wp2
            go_roundw
            case rel => exact ⟨k + 1, by omega, by go_num, h5.out, (by first | exact ⟨_, rfl⟩ | exact drawn2 _ _ _)⟩
            case measure => simp [intOf]; omega
        · have h5 : Hid (twice (xs.take (k + 1)) x = false) := by
            have h5 := hs.out
            rw [HC.out, show decide (xs[k].client = x.client ∧ x.number ≤ xs[k].number) = false by simp [j1]] at h5
            exact h5
          have j1' : (xs[k].client == x.client) = false := by simpa using j1
          clear hs hmo HC
          generalize xs[k] = y at *
          go_wp2_with fail
          go_quiet (fail)
          go_wp2
          go_roundw
          case rel => exact ⟨k + 1, by omega, by go_num, h5.out, (by first | exact ⟨_, rfl⟩ | exact drawn2 _ _ _)⟩
          case measure => simp [intOf]; omega
      · have g2 : decide ((k:Int) < (xs.length : Int)) = false := by simp; omega
        have e : r = 0 := by
          have h5 := HC.out
          rw [List.take_of_length_le (by omega)] at h5
          rw [HR.out, h5]; simp
        subst e
        clear HR HC ha1
        go_wp2_with fail
        go_ret
        exact ⟨rfl, below_drewN hbw _⟩
  · rw [if_pos hq] at HR
    have e : r = q := HR.out
    subst e
    clear HR
    have hq' : (r == 0) = false := by simpa using hq
    go_wp2_with fail
    go_ret
    exact ⟨rfl, hbw⟩

set_option maxRecDepth 100000 in
set_option maxHeartbeats 1000000 in
theorem find_ref (A : Option Addr) (c n : Nat) (xs : List Entry) (ca nb : Int) (hn : n = xs.length) (w : World) (hl : xs.length ≤ 9223372036854775806) (ha : Rd Entry.cells 5 w w.heap.size A xs) :
    Calls Try.prog 36 #[.slice A n c, .int .i64 ca, .int .i64 nb] w fun e w' => e = .returned (.int .i64 (findE xs ca nb)) ∧ ∃ q, w' = w.drewN q := by
  subst hn
  obtain ⟨r, hr⟩ : ∃ r, r = findE xs ca nb := ⟨_, rfl⟩
  have HR := Lib.hid hr
  rw [← hr]
  clear hr
  have ha1 := Lib.hid ha
  clear ha
  go_enter Try.func36, Try.ntmps36
  go_wp2_with fail
  go_loopw [7] (fun i wr => ∃ k : Nat, k ≤ xs.length ∧ i = .int .i64 k ∧ (∀ j : Fin xs.length, j.1 < k → ¬ hits ca nb xs[j.1]) ∧ ∃ q, wr = w.drewN q) (fun i _ => xs.length - (intOf i).toNat)
  case atStart => exact ⟨0, by omega, rfl, fun j hj => by omega, 0, rfl⟩
  case round =>
    obtain ⟨k, hk, rfl, hc, q, rfl⟩ := hrel
    have HC := Lib.hid hc
    clear hc
    by_cases hk1 : k < xs.length
    · obtain ⟨ad, rfl, _, hca⟩ := ha1.out.at_ hk1
      have g1 : (k:Int) < (xs.length : Int) := by omega
      obtain ⟨c0, c1, c2, c3, c4⟩ := hca.five
      clear hca
      by_cases j1 : hits ca nb xs[k]
      · have e : r = (k : Int) + 1 := by
          rw [HR.out]
          exact findE_some ⟨k, hk1⟩ j1 (fun j hj => HC.out j hj)
        subst e
        have j1' : (xs[k].client == ca) = true := by simpa using j1.1
        have j2' : (xs[k].number == nb) = true := by simpa using j1.2
        obtain ⟨j3, j4⟩ := j1
        clear HR HC
        generalize xs[k] = y at *
        go_wp2_with fail
        go_ret
        exact ⟨rfl, _, rfl⟩
      · have h5 : Hid (∀ j : Fin xs.length, j.1 < k + 1 → ¬ hits ca nb xs[j.1]) := fun j hj => by
          by_cases e : j.1 = k
          · simpa only [e] using j1
          · exact HC.out j (by omega)
        by_cases j2 : xs[k].client = ca
        · have j3 : ¬ xs[k].number = nb := fun e => j1 ⟨j2, e⟩
          have j1' : (xs[k].client == ca) = true := by simpa using j2
          have j2' : (xs[k].number == nb) = false := by simpa using j3
          clear HC j1 HR
          generalize xs[k] = y at *
          go_wp2_with fail
          go_roundw
          case rel => exact ⟨k + 1, by omega, by go_num, h5.out, _, rfl⟩
          case measure => simp [intOf]; omega
        · have j1' : (xs[k].client == ca) = false := by simpa using j2
          clear HC j1 HR
          generalize xs[k] = y at *
          go_wp2_with fail
          go_roundw
          case rel => exact ⟨k + 1, by omega, by go_num, h5.out, _, rfl⟩
          case measure => simp [intOf]; omega
    · have g2 : decide ((k:Int) < (xs.length : Int)) = false := by simp; omega
      have e : r = 0 := by
        rw [HR.out]
        exact findE_none fun i => HC.out i (by omega)
      subst e
      clear HR HC ha1
      go_wp2_with fail
      go_ret
      exact ⟨rfl, _, rfl⟩

set_option maxRecDepth 100000 in
set_option maxHeartbeats 1000000 in
theorem last_ref (A : Option Addr) (c n : Nat) (xs : List Entry) (ca : Int) (hn : n = xs.length) (w : World) (hl : xs.length ≤ 9223372036854775806) (ha : Rd Entry.cells 5 w w.heap.size A xs) :
    Calls Try.prog 38 #[.slice A n c, .int .i64 ca] w fun e w' => e = .returned (.int .i64 (lastE xs ca)) ∧ ∃ q, w' = w.drewN q := by
  subst hn
  obtain ⟨r, hr⟩ : ∃ r, r = lastE xs ca := ⟨_, rfl⟩
  have HR := Lib.hid hr
  rw [← hr]
  clear hr
  have ha1 := Lib.hid ha
  clear ha
  go_enter Try.func38, Try.ntmps38
  go_wp2_with fail
  go_loopw [5, 6] (fun m i wr => ∃ k : Nat, k ≤ xs.length ∧ i = .int .i64 k ∧ m = .int .i64 (lastE (xs.take k) ca) ∧ ∃ q, wr = w.drewN q) (fun _ i _ => xs.length - (intOf i).toNat)
  case atStart => exact ⟨0, by omega, rfl, rfl, 0, rfl⟩
  case round =>
    obtain ⟨k, hk, rfl, rfl, q, rfl⟩ := hrel
    by_cases hk1 : k < xs.length
    · obtain ⟨ad, rfl, _, hca⟩ := ha1.out.at_ hk1
      have g1 : (k:Int) < (xs.length : Int) := by omega
      obtain ⟨c0, c1, c2, c3, c4⟩ := hca.five
      clear hca HR
      have hs := Lib.hid (lastE_snoc (xs.take k) xs[k] ca)
      rw [← take_snoc hk1] at hs
      obtain ⟨m', hm'⟩ : ∃ m', m' = lastE (xs.take (k + 1)) ca := ⟨_, rfl⟩
      rw [← hm'] at hs
      have HM := Lib.hid hm'
      clear hm'
      generalize lastE (xs.take k) ca = m at *
      by_cases j2 : xs[k].client = ca
      · have j1' : (xs[k].client == ca) = true := by simpa using j2
        by_cases j3 : m < xs[k].number
        · have e : m' = xs[k].number := by have := hs.out; rw [if_pos j2] at this; omega
          subst e
          clear hs
          generalize xs[k] = y at *
          go_wp2_with fail
          go_roundw
          case rel => exact ⟨k + 1, by omega, by go_num, congrArg _ HM.out, _, rfl⟩
          case measure => simp [intOf]; omega
        · have e : m' = m := by have := hs.out; rw [if_pos j2] at this; omega
          subst e
          clear hs
          have j3' : decide (m' < xs[k].number) = false := decide_eq_false j3
          generalize xs[k] = y at *
          go_wp2_with fail
          go_roundw
          case rel => exact ⟨k + 1, by omega, by go_num, congrArg _ HM.out, _, rfl⟩
          case measure => simp [intOf]; omega
      · have e : m' = m := by have := hs.out; rwa [if_neg j2] at this
        subst e
        clear hs
        have j1' : (xs[k].client == ca) = false := by simpa using j2
        generalize xs[k] = y at *
        go_wp2_with fail
        go_roundw
        case rel => exact ⟨k + 1, by omega, by go_num, congrArg _ HM.out, _, rfl⟩
        case measure => simp [intOf]; omega
    · have g2 : decide ((k:Int) < (xs.length : Int)) = false := by simp; omega
      have e : r = lastE (xs.take k) ca := by rw [List.take_of_length_le (by omega)]; exact HR.out
      rw [← e]
      clear HR e ha1
      go_wp2_with fail
      go_ret
      exact ⟨rfl, _, rfl⟩
end Go.Proofs.Ythpogbbgdenmeaa
