/- oplog.fits: may an entry stand behind others, whose last numbers a map tells; the reference's entry. Conditions: sizes within Go's own limits. -/
import Derived.Test.YtbdcpoagdbkgeaaOpCheck
import Derived.Test.YtbdcpoagdbkgeaaMap
import Derived.Test.YtbdcpoagdbkgeaaLog
import Derived.Test.YtbdcpoagdbkgeaaPlain
import Derived.RegionTactic
import Derived.BigRegion
import Derived.WalkSpells
namespace Go.Proofs.Ytbdcpoagdbkgeaa
open Go.RowKit
set_option linter.unusedVariables false
set_option linter.unusedSimpArgs false

def evI (n : Int) : Value := .int .i64 n
theorem zeroInt (w : World) : (zeroValue 3).run Try.prog w = .ok (evI 0) w := by kernel_rfl
theorem undMapI : Try.prog.underlying 41 = some (.map 3 3) := Try.underlying41
theorem undIntI : Try.prog.underlying 3 = some (.int .i64) := Try.underlying3

set_option maxRecDepth 100000 in
theorem fits_prog (mb : Nat) (ps : List (Int × Int)) (x : Entry) (hv : x.op.value.size ≤ 9223372036854775807) (w : World) (hm : MapIs evI w mb ps) :
    Calls Try.prog 12 #[.map (some mb), .agg #[.int .i64 x.client, .int .i64 x.number, .int .i64 x.op.kind, .int .i64 x.op.slot, .string x.op.value]] w fun e w' => e = .returned (.int .i64 (fitM (look ps x.client) x)) ∧ Below w.heap.size w w' := by
  obtain ⟨r, hr⟩ : ∃ r, r = fitM (look ps x.client) x := ⟨_, rfl⟩
  have HR := Lib.hid hr
  rw [← hr]
  clear hr
  by_cases h0 : x.client < 0 ∨ 16 ≤ x.client
  · have e : r = 62 := by rw [HR.out]; simp [fitM, baseE, h0]
    rw [e]
    clear HR
    rcases h0 with h0 | h0
    · go_enter Try.func12, Try.ntmps12
      go_wp2_with fail
      go_ret
      exact ⟨rfl, (Below.refl _ _).alloc (Nat.le_refl _) _⟩
    · have h1 : decide (x.client < 0) = false := decide_eq_false (by omega)
      go_enter Try.func12, Try.ntmps12
      go_wp2_with fail
      go_ret
      exact ⟨rfl, (Below.refl _ _).alloc (Nat.le_refl _) _⟩
  have h1 : decide (x.client < 0) = false := decide_eq_false (by omega)
  have h2 : decide (16 ≤ x.client) = false := decide_eq_false (by omega)
  by_cases h3 : x.number < 1
  · have e : r = 63 := by rw [HR.out]; simp [fitM, baseE, h0, h3]
    rw [e]
    clear HR
    go_enter Try.func12, Try.ntmps12
    go_wp2_with fail
    go_ret
    exact ⟨rfl, (Below.refl _ _).alloc (Nat.le_refl _) _⟩
  have h4 : decide (x.number < 1) = false := decide_eq_false (by omega)
  have hbase : baseE x = checkOp x.op := by unfold baseE; rw [if_neg h0, if_neg h3]
  unfold fitM at HR
  rw [hbase] at HR
  clear hbase h0 h3
  obtain ⟨W0, hW0⟩ : ∃ W0, W0 = w.alloc (.cells #[.int .i64 x.client, .int .i64 x.number, .int .i64 x.op.kind, .int .i64 x.op.slot, .string x.op.value] 32) := ⟨_, rfl⟩
  have hb0 : Below w.heap.size w W0 := by rw [hW0]; exact (Below.refl _ _).alloc (Nat.le_refl _) _
  have k0 : W0.heap[w.heap.size]? = some (.cells #[.int .i64 x.client, .int .i64 x.number, .int .i64 x.op.kind, .int .i64 x.op.slot, .string x.op.value] 32 (0, 0)) := by rw [hW0]; exact heap_alloc_new _ _
  have hlt : w.heap.size < W0.heap.size := by rw [hW0]; simp
  have hm0 : MapIs evI W0 mb ps := hm.same (hb0.block mb hm.lt)
  go_enter Try.func12, Try.ntmps12
  go_wp2_with fail
  rw [← hW0]
  refine (check_prog x.op hv W0).mono ?_
  rintro e w1 ⟨rfl, hb1⟩
  have k1 := (hb1.block _ hlt).trans k0
  have d0 : w1.cell? ⟨w.heap.size, 0, none⟩ = some (.int .i64 x.client) := cell_of_row _ _ 0 _ _ _ k1
  have d1 : w1.cell? ⟨w.heap.size, 1, none⟩ = some (.int .i64 x.number) := cell_of_row _ _ 1 _ _ _ k1
  have hm1 : MapIs evI w1 mb ps := hm0.same (hb1.block mb hm0.lt)
  have hbw := hb0.trans (hb1.mono hb0.size)
  generalize checkOp x.op = q at *
  by_cases hq : q = 0
  · subst hq
    rw [if_neg (by simp)] at HR
    cases hl : look ps x.client with
    | none =>
      rw [hl] at HR
      have e : r = 0 := HR.out
      subst e
      clear HR
      go_wp2_with (at_lookup; refine wpList_lookup hm1 rfl _ _ true rfl undMapI undIntI (zeroInt _) rfl x.client rfl ?_; simp only [hl, Option.map_none, Option.getD_none, Option.isSome_none, evI])
      go_ret
      exact ⟨rfl, hbw⟩
    | some n =>
      rw [hl] at HR
      by_cases hn : x.number ≤ n
      · have e : r = 64 := by rw [HR.out]; simp [hn]
        subst e
        clear HR
        go_wp2_with (at_lookup; refine wpList_lookup hm1 rfl _ _ true rfl undMapI undIntI (zeroInt _) rfl x.client rfl ?_; simp only [hl, Option.map_some, Option.getD_some, Option.isSome_some, evI])
        go_ret
        exact ⟨rfl, hbw⟩
      · have e : r = 0 := by rw [HR.out]; simp [hn]
        subst e
        clear HR
        have hn' : decide (x.number ≤ n) = false := decide_eq_false hn
        go_wp2_with (at_lookup; refine wpList_lookup hm1 rfl _ _ true rfl undMapI undIntI (zeroInt _) rfl x.client rfl ?_; simp only [hl, Option.map_some, Option.getD_some, Option.isSome_some, evI])
        go_ret
        exact ⟨rfl, hbw⟩
  · rw [if_pos hq] at HR
    have e : r = q := HR.out
    subst e
    clear HR
    have hq' : (r == 0) = false := by simpa using hq
    go_wp2_with fail
    go_ret
    exact ⟨rfl, hbw⟩
end Go.Proofs.Ytbdcpoagdbkgeaa
