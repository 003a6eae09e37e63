/- LedgerBehind answers true, whatever the script and the value. Conditions: none. -/
import Derived.Test.YtdmeijemfneafaaWorks04
import Derived.Test.YtdmeijemfneafaaCells2
import Derived.Test.YtdmeijemfneafaaOpen3
import Derived.Deep.LoopGhost
namespace Go.Proofs.Ytdmeijemfneafaa
open Go.RowKit

theorem eqR3 (w : World) : (binOp .eql 33 (.agg #[.int .i64 3, .int .i64 0, .string ⟨#[]⟩]) (.agg #[.int .i64 3, .int .i64 0, .string ⟨#[]⟩])).run Try.prog w = .ok (.bool true) w := by
  have := eql_res ⟨3, 0, ⟨#[]⟩⟩ ⟨3, 0, ⟨#[]⟩⟩ w
  simpa using this
theorem eqR (r : Res) (w : World) : (binOp .eql 33 (.agg #[.int .i64 r.code, .int .i64 r.slot, .string r.value]) (.agg #[.int .i64 r.code, .int .i64 r.slot, .string r.value])).run Try.prog w = .ok (.bool true) w := by
  have := eql_res r r w
  simpa using this

set_option maxRecDepth 100000 in
set_option maxHeartbeats 4000000 in
theorem behind_small (A : Option Addr) (c n : Nat) (os : List Op) (hn : n = os.length) (v : ByteArray) (hv : v.size ≤ 64) (w : World) (hl : os.length ≤ 9223372036854775806) (ha : Rd Op.cells 3 w w.heap.size A os) (hw : ∀ o ∈ os, o.value.size ≤ 9223372036854775807) :
    Calls Try.prog 4 #[.slice A n c, .string v] w fun e w' => e = .returned (.bool true) ∧ Below w.heap.size w w' := by
  subst hn
  have hg := guard_res
  have hvi : decide ((64 : Int) < (v.size : Int)) = false := by simp; omega
  go_enter Try.func4, Try.ntmps4
  go_wp2_with fail
  refine (newLedger w).mono ?_
  rintro e w1 ⟨b, mb, rfl, hl1, hbb, hmb, hB1⟩
  have HL1 := Lib.hid hl1
  have HB1 := Lib.hid hB1
  have HA := Lib.hid ha
  have HW := Lib.hid hw
  clear hl1 hB1 ha hw
  go_wp2_with fail
  go_loopw [6] (fun i wr => ∃ k : Nat, k ≤ os.length ∧ i = .int .i64 k ∧ Ledger wr b mb (playC [] (os.take k)) ∧ Below w.heap.size w wr) (fun i _ => os.length - (intOf i).toNat)
  case atStart => exact ⟨0, by omega, rfl, by simpa [playC] using HL1.out, HB1.out⟩
  case round =>
    obtain ⟨k, hk, rfl, hlr, hbr⟩ := hrel
    by_cases h1 : k < os.length
    · obtain ⟨ad, rfl, _, hca⟩ := (HA.out.below hbr).at_ h1
      have g1 : (k:Int) < (os.length : Int) := by omega
      obtain ⟨c0, c1, c2⟩ := hca.three
      have hvk := HW.out os[k] (by simp)
      have hst := Lib.hid (playC_take_succ [] os k h1)
      have HLR := Lib.hid hlr
      have HBR := Lib.hid hbr
      clear hca hlr hbr
      generalize os[k] = o at *
      go_wp2_with fail
      refine (doLedger b mb _ o hvk wr HLR.out).mono ?_
      rintro e w2 ⟨rfl, hl2, hk2⟩
      have HL2 := Lib.hid hl2
      have HK2 := Lib.hid hk2
      clear hl2 hk2
      go_wp2
      go_roundw
      case rel => exact ⟨k + 1, by omega, by go_num, by rw [hst.out]; exact HL2.out, Kept.ledger_below HBR.out HK2.out (fun j hj => by rcases hj with rfl | rfl <;> assumption)⟩
      case measure => simp [intOf]; omega
    · have g1 : decide (k < os.length) = false := by simp; omega
      generalize playC [] (os.take k) = cs at *
      have hr := hlr.rising
      have HLR := Lib.hid hlr
      have HBR := Lib.hid hbr
      clear hlr hbr h1
      go_wp2_with fail
      go_loopw [7, 8] (fun s i wq => ∃ (j : Nat) (t : Int), j ≤ 1024 ∧ i = .int .i64 j ∧ s = .int .i64 t ∧ -1 ≤ t ∧ t < j ∧ Hid (∀ c ∈ cs, c.slot < j → c.slot ≤ t) ∧ Hid (t = -1 ∨ ∃ c ∈ cs, c.slot = t) ∧ Ledger wq b mb cs ∧ Below w.heap.size w wq) (fun _ i _ => 1024 - (intOf i).toNat)
      case atStart => exact ⟨0, -1, by omega, rfl, rfl, by omega, by omega, fun c hc h => by have := (hr.good c hc).1; omega, .inl rfl, HLR.out, HBR.out⟩
      case round =>
        obtain ⟨j, t, hj, rfl, rfl, ht0, ht1, ht2, ht3, hlq, hbq⟩ := hrel
        by_cases h2 : j < 1024
        · have g2 : (j:Int) < 1024 := by omega
          have HLQ := Lib.hid hlq
          have HBQ := Lib.hid hbq
          clear hlq hbq HLR HBR
          go_wp2_with fail
          refine (getLedger b mb cs j wr HLQ.out).mono ?_
          rintro e w3 ⟨rfl, hb3⟩
          have HB3 := Lib.hid hb3
          clear hb3
          cases hgc : getC cs j with
          | none =>
            have hno := getC_none.1 hgc
            have HNO := Lib.hid hno
            clear hgc hno
            go_wp2
            go_roundw
            case rel => exact ⟨j + 1, t, by omega, by go_num, rfl, by omega, by omega, fun c hc h => by
              have h3 := HNO.out c hc
              exact ht2.out c hc (by omega), ht3, HLQ.out.below HB3.out, HBQ.out.trans (HB3.out.mono HBQ.out.size)⟩
            case measure => simp [intOf]; omega
          | some x =>
            have hyes := getC_some hgc
            have HYES := Lib.hid hyes
            clear hgc hyes
            go_wp2
            go_roundw
            case rel => exact ⟨j + 1, j, by omega, by go_num, rfl, by omega, by omega, fun c hc h => by omega, .inr ⟨_, HYES.out, rfl⟩, HLQ.out.below HB3.out, HBQ.out.trans (HB3.out.mono HBQ.out.size)⟩
            case measure => simp [intOf]; omega
        · have hj2 : j = 1024 := by omega
          subst hj2
          have hts := greatest_is hr (fun c hc => ht2.out c hc (by have := (hr.good c hc).2.1; omega)) ht3.out
          have hnb := nextC_bounds hr
          have hwa := would_append (cs := cs) hv
          have hwr := would_written hr (o := ⟨2, 0, v⟩)
          have haf : after cs ⟨2, 0, v⟩ = if (would cs ⟨2, 0, v⟩).code = 1 then putC cs ⟨(would cs ⟨2, 0, v⟩).slot, (would cs ⟨2, 0, v⟩).value⟩ else cs := rfl
          have HDO := Lib.hid (doLedger b mb cs ⟨2, 0, v⟩ (by simp; omega) wr hlq)
          have HBQ := Lib.hid hbq
          clear ht2 ht3 hlq hbq HLR HBR
          by_cases hfull : nextC cs = 1024
          · rw [if_pos hfull] at hwa
            have ht4 : t = 1023 := by omega
            subst ht4
            have q3 := eqR3
            rw [hwa, show emp = ⟨#[]⟩ from rfl] at HDO
            have HDO2 := HDO
            clear HDO hwr haf hwa hfull hts hnb
            go_wp2_with fail
            refine HDO2.out.mono ?_
            rintro e w3 ⟨rfl, hl3, hk3⟩
            have HB3 := Lib.hid (Kept.ledger_below HBQ.out hk3 (fun j hj => by rcases hj with rfl | rfl <;> assumption))
            clear hl3 hk3
            go_wp2_with fail
            refine (works04 _).mono ?_
            rintro e w4 ⟨rfl, hb4⟩
            have hb5 := HB3.out.alloc HB3.out.size (.cells #[.int .i64 3, .int .i64 0, .string ⟨#[]⟩] 33)
            have HB5 := Lib.hid (hb5.trans (hb4.mono hb5.size))
            clear hb4 hb5
            go_wp2
            go_ret
            exact ⟨rfl, HB5.out⟩
          · rw [if_neg hfull] at hwa
            have ht4 : t ≠ 1023 := by omega
            have ht5 : nextC cs = t + 1 := by omega
            rw [hwa, ht5] at hwr haf
            obtain ⟨hgood, hfree⟩ := hwr rfl
            have hget := getC_put_self hr hgood hfree
            simp only [if_true] at haf
            rw [hwa, haf, ht5] at HDO
            have HG := Lib.hid hget
            have ht6 : decide (t = 1023) = false := by simpa using ht4
            have HDO2 := HDO
            clear HDO hwr haf hwa hfull hts hnb hget hgood hfree
            generalize putC cs ⟨t + 1, v⟩ = ds at *
            go_wp2_with fail
            refine HDO2.out.mono ?_
            rintro e w3 ⟨rfl, hl3, hk3⟩
            have HB3 := Lib.hid (Kept.ledger_below HBQ.out hk3 (fun j hj => by rcases hj with rfl | rfl <;> assumption))
            have HL3 := Lib.hid hl3
            clear hl3 hk3
            go_wp2_with fail
            have hb5 := HB3.out.alloc HB3.out.size (.cells #[.int .i64 1, .int .i64 (t + 1), .string v] 33)
            have hb6 : Below w3.heap.size w3 (w3.alloc (.cells #[.int .i64 1, .int .i64 (t + 1), .string v] 33)) := (Below.refl _ _).alloc (Nat.le_refl _) _
            refine (getLedger b mb ds (t + 1) _ (HL3.out.same (hb6.block b HL3.out.lt.1) (hb6.block mb HL3.out.lt.2))).mono ?_
            rintro e w4 ⟨rfl, hb7⟩
            have hrow : w4.heap[w3.heap.size]? = some (.cells #[.int .i64 1, .int .i64 (t + 1), .string v] 33 (0, 0)) := (hb7.block _ (by simp)).trans (heap_alloc_new _ _)
            have d0 := cell_of_row w4 _ 0 _ _ _ hrow
            have d1 := cell_of_row w4 _ 1 _ _ _ hrow
            have d2 := cell_of_row w4 _ 2 _ _ _ hrow
            have HB5 := Lib.hid (hb5.trans (hb7.mono hb5.size))
            rw [HG.out]
            clear hb5 hb6 hb7 hrow
            go_wp2_with fail
            go_ret
            exact ⟨rfl, HB5.out⟩
set_option maxRecDepth 100000 in
set_option maxHeartbeats 4000000 in
theorem behind_big (A : Option Addr) (c n : Nat) (os : List Op) (hn : n = os.length) (u : ByteArray) (hu : 64 < u.size) (hu2 : u.size ≤ 9223372036854775807) (w : World) (hl : os.length ≤ 9223372036854775806) (ha : Rd Op.cells 3 w w.heap.size A os) (hw : ∀ o ∈ os, o.value.size ≤ 9223372036854775807) :
    Calls Try.prog 4 #[.slice A n c, .string u] w fun e w' => e = .returned (.bool true) ∧ Below w.heap.size w w' := by
  subst hn
  have hg := guard_res
  have hvi : (64 : Int) < (u.size : Int) := by omega
  have hsl : ∀ W : World, (Instr.slice 9 (.string u) none (some (.int .i64 64)) none).run Try.prog W = .ok (.string (u.extract 0 64)) W := fun W => run_slice_string_h W 9 u Try.underlying9 .i64 64 (by omega) (by omega)
  have hv : (u.extract 0 64).size ≤ 64 := by simp; omega
  generalize u.extract 0 64 = v at *
  go_enter Try.func4, Try.ntmps4
  go_wp2_with fail
  refine (newLedger w).mono ?_
  rintro e w1 ⟨b, mb, rfl, hl1, hbb, hmb, hB1⟩
  have HL1 := Lib.hid hl1
  have HB1 := Lib.hid hB1
  have HA := Lib.hid ha
  have HW := Lib.hid hw
  clear hl1 hB1 ha hw
  go_wp2_with fail
  go_loopw [6] (fun i wr => ∃ k : Nat, k ≤ os.length ∧ i = .int .i64 k ∧ Ledger wr b mb (playC [] (os.take k)) ∧ Below w.heap.size w wr) (fun i _ => os.length - (intOf i).toNat)
  case atStart => exact ⟨0, by omega, rfl, by simpa [playC] using HL1.out, HB1.out⟩
  case round =>
    obtain ⟨k, hk, rfl, hlr, hbr⟩ := hrel
    by_cases h1 : k < os.length
    · obtain ⟨ad, rfl, _, hca⟩ := (HA.out.below hbr).at_ h1
      have g1 : (k:Int) < (os.length : Int) := by omega
      obtain ⟨c0, c1, c2⟩ := hca.three
      have hvk := HW.out os[k] (by simp)
      have hst := Lib.hid (playC_take_succ [] os k h1)
      have HLR := Lib.hid hlr
      have HBR := Lib.hid hbr
      clear hca hlr hbr
      generalize os[k] = o at *
      go_wp2_with fail
      refine (doLedger b mb _ o hvk wr HLR.out).mono ?_
      rintro e w2 ⟨rfl, hl2, hk2⟩
      have HL2 := Lib.hid hl2
      have HK2 := Lib.hid hk2
      clear hl2 hk2
      go_wp2
      go_roundw
      case rel => exact ⟨k + 1, by omega, by go_num, by rw [hst.out]; exact HL2.out, Kept.ledger_below HBR.out HK2.out (fun j hj => by rcases hj with rfl | rfl <;> assumption)⟩
      case measure => simp [intOf]; omega
    · have g1 : decide (k < os.length) = false := by simp; omega
      generalize playC [] (os.take k) = cs at *
      have hr := hlr.rising
      have HLR := Lib.hid hlr
      have HBR := Lib.hid hbr
      clear hlr hbr h1
      go_wp2_with fail
      go_loopw [7, 8] (fun s i wq => ∃ (j : Nat) (t : Int), j ≤ 1024 ∧ i = .int .i64 j ∧ s = .int .i64 t ∧ -1 ≤ t ∧ t < j ∧ Hid (∀ c ∈ cs, c.slot < j → c.slot ≤ t) ∧ Hid (t = -1 ∨ ∃ c ∈ cs, c.slot = t) ∧ Ledger wq b mb cs ∧ Below w.heap.size w wq) (fun _ i _ => 1024 - (intOf i).toNat)
      case atStart => exact ⟨0, -1, by omega, rfl, rfl, by omega, by omega, fun c hc h => by have := (hr.good c hc).1; omega, .inl rfl, HLR.out, HBR.out⟩
      case round =>
        obtain ⟨j, t, hj, rfl, rfl, ht0, ht1, ht2, ht3, hlq, hbq⟩ := hrel
        by_cases h2 : j < 1024
        · have g2 : (j:Int) < 1024 := by omega
          have HLQ := Lib.hid hlq
          have HBQ := Lib.hid hbq
          clear hlq hbq HLR HBR
          go_wp2_with fail
          refine (getLedger b mb cs j wr HLQ.out).mono ?_
          rintro e w3 ⟨rfl, hb3⟩
          have HB3 := Lib.hid hb3
          clear hb3
          cases hgc : getC cs j with
          | none =>
            have hno := getC_none.1 hgc
            have HNO := Lib.hid hno
            clear hgc hno
            go_wp2
            go_roundw
            case rel => exact ⟨j + 1, t, by omega, by go_num, rfl, by omega, by omega, fun c hc h => by
              have h3 := HNO.out c hc
              exact ht2.out c hc (by omega), ht3, HLQ.out.below HB3.out, HBQ.out.trans (HB3.out.mono HBQ.out.size)⟩
            case measure => simp [intOf]; omega
          | some x =>
            have hyes := getC_some hgc
            have HYES := Lib.hid hyes
            clear hgc hyes
            go_wp2
            go_roundw
            case rel => exact ⟨j + 1, j, by omega, by go_num, rfl, by omega, by omega, fun c hc h => by omega, .inr ⟨_, HYES.out, rfl⟩, HLQ.out.below HB3.out, HBQ.out.trans (HB3.out.mono HBQ.out.size)⟩
            case measure => simp [intOf]; omega
        · have hj2 : j = 1024 := by omega
          subst hj2
          have hts := greatest_is hr (fun c hc => ht2.out c hc (by have := (hr.good c hc).2.1; omega)) ht3.out
          have hnb := nextC_bounds hr
          have hwa := would_append (cs := cs) hv
          have hwr := would_written hr (o := ⟨2, 0, v⟩)
          have haf : after cs ⟨2, 0, v⟩ = if (would cs ⟨2, 0, v⟩).code = 1 then putC cs ⟨(would cs ⟨2, 0, v⟩).slot, (would cs ⟨2, 0, v⟩).value⟩ else cs := rfl
          have HDO := Lib.hid (doLedger b mb cs ⟨2, 0, v⟩ (by simp; omega) wr hlq)
          have HBQ := Lib.hid hbq
          clear ht2 ht3 hlq hbq HLR HBR
          by_cases hfull : nextC cs = 1024
          · rw [if_pos hfull] at hwa
            have ht4 : t = 1023 := by omega
            subst ht4
            have q3 := eqR3
            rw [hwa, show emp = ⟨#[]⟩ from rfl] at HDO
            have HDO2 := HDO
            clear HDO hwr haf hwa hfull hts hnb
            go_wp2_with fail
            refine HDO2.out.mono ?_
            rintro e w3 ⟨rfl, hl3, hk3⟩
            have HB3 := Lib.hid (Kept.ledger_below HBQ.out hk3 (fun j hj => by rcases hj with rfl | rfl <;> assumption))
            clear hl3 hk3
            go_wp2_with fail
            refine (works04 _).mono ?_
            rintro e w4 ⟨rfl, hb4⟩
            have hb5 := HB3.out.alloc HB3.out.size (.cells #[.int .i64 3, .int .i64 0, .string ⟨#[]⟩] 33)
            have HB5 := Lib.hid (hb5.trans (hb4.mono hb5.size))
            clear hb4 hb5
            go_wp2
            go_ret
            exact ⟨rfl, HB5.out⟩
          · rw [if_neg hfull] at hwa
            have ht4 : t ≠ 1023 := by omega
            have ht5 : nextC cs = t + 1 := by omega
            rw [hwa, ht5] at hwr haf
            obtain ⟨hgood, hfree⟩ := hwr rfl
            have hget := getC_put_self hr hgood hfree
            simp only [if_true] at haf
            rw [hwa, haf, ht5] at HDO
            have HG := Lib.hid hget
            have ht6 : decide (t = 1023) = false := by simpa using ht4
            have HDO2 := HDO
            clear HDO hwr haf hwa hfull hts hnb hget hgood hfree
            generalize putC cs ⟨t + 1, v⟩ = ds at *
            go_wp2_with fail
            refine HDO2.out.mono ?_
            rintro e w3 ⟨rfl, hl3, hk3⟩
            have HB3 := Lib.hid (Kept.ledger_below HBQ.out hk3 (fun j hj => by rcases hj with rfl | rfl <;> assumption))
            have HL3 := Lib.hid hl3
            clear hl3 hk3
            go_wp2_with fail
            have hb5 := HB3.out.alloc HB3.out.size (.cells #[.int .i64 1, .int .i64 (t + 1), .string v] 33)
            have hb6 : Below w3.heap.size w3 (w3.alloc (.cells #[.int .i64 1, .int .i64 (t + 1), .string v] 33)) := (Below.refl _ _).alloc (Nat.le_refl _) _
            refine (getLedger b mb ds (t + 1) _ (HL3.out.same (hb6.block b HL3.out.lt.1) (hb6.block mb HL3.out.lt.2))).mono ?_
            rintro e w4 ⟨rfl, hb7⟩
            have hrow : w4.heap[w3.heap.size]? = some (.cells #[.int .i64 1, .int .i64 (t + 1), .string v] 33 (0, 0)) := (hb7.block _ (by simp)).trans (heap_alloc_new _ _)
            have d0 := cell_of_row w4 _ 0 _ _ _ hrow
            have d1 := cell_of_row w4 _ 1 _ _ _ hrow
            have d2 := cell_of_row w4 _ 2 _ _ _ hrow
            have HB5 := Lib.hid (hb5.trans (hb7.mono hb5.size))
            rw [HG.out]
            clear hb5 hb6 hb7 hrow
            go_wp2_with fail
            go_ret
            exact ⟨rfl, HB5.out⟩

theorem behind_law (W : World) (A : Option Addr) (c n : Nat) (xs : List Op) (hn : n = xs.length) (_ : n ≤ c) (hrd : Rd Op.cells 3 W W.heap.size A xs) (hwf : ∀ o ∈ xs, o.wf) (hsz : xs.length * 32 ≤ 140737488351232) (v : ByteArray) (hv : v.size ≤ 9223372036854775807) :
    Calls Try.prog 4 #[.slice A n c, .string v] W fun e w' => e = .returned (.bool true) ∧ Below W.heap.size W w' := by
  by_cases h : v.size ≤ 64
  · exact behind_small A c n xs hn v h W (by omega) hrd (fun o ho => (hwf o ho).value)
  · exact behind_big A c n xs hn v (by omega) hv W (by omega) hrd (fun o ho => (hwf o ho).value)
end Go.Proofs.Ytdmeijemfneafaa
