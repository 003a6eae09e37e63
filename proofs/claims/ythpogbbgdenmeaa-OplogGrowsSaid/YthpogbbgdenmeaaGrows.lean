/- OplogGrows answers true, whatever the arguments. Conditions: sizes within the form's own reach. -/
import Derived.Test.YthpogbbgdenmeaaGrown
import Derived.Test.YthpogbbgdenmeaaGrowPlain
import Derived.Test.YthpogbbgdenmeaaSplice
namespace Go.Proofs.Ythpogbbgdenmeaa
open Go.RowKit Go.Deep
set_option linter.unusedVariables false
set_option linter.unusedSimpArgs false

def GX (l : List Entry) (x : Entry) : Prop := (l = [] ∧ x = dflt) ∨ x ∈ l
theorem GX.val {l : List Entry} {x : Entry} (h : GX l x) (hg : GoodE l) : x.op.value.size ≤ 9223372036854775807 := by
  rcases h with ⟨_, rfl⟩ | h
  · decide
  · exact hg.vals x h

set_option maxRecDepth 100000 in
set_option maxHeartbeats 4000000 in
theorem grows_calls (A : Option Addr) (c n : Nat) (rs : List Raw) (room k : Int) (hroom : I64 room) (hk : I64 k) (hn : n = rs.length) (w : World) (hl : rs.length ≤ 9223372036854775806) (hw : ∀ r ∈ rs, r.wf) (ha : Rd Raw.cells 5 w w.heap.size A rs) :
    Calls Try.prog 8 #[.slice A n c, .int .i64 room, .int .i64 k] w fun e w' => e = .returned (.bool true) ∧ Below w.heap.size w w' := by
  subst hn
  have HA := Lib.hid ha
  clear ha
  go_enter Try.func8, Try.ntmps8
  go_wp2_with fail
  refine (size_calls room hroom w).mono ?_
  rintro e w' ⟨rfl, hw'⟩
  rw [hw']
  clear hw' w'
  have hR0 := Int.emod_nonneg room (by omega : (256 : Int) ≠ 0)
  have hR1 := Int.emod_lt_of_pos room (by omega : (0 : Int) < 256)
  obtain ⟨R, hR⟩ : ∃ R, R = 1 + room % 256 := ⟨_, rfl⟩
  rw [← hR]
  have hr1 : 1 ≤ R := by omega
  have hr2 : R ≤ 256 := by omega
  clear hR hR0 hR1
  dsimp only
  go_wp2_with fail
  refine (grown_calls A c rs.length rs R rfl hr1 hr2 w hl hw HA.out).mono ?_
  rintro e w1 ⟨v1, rfl, ⟨l, hm1, hg, hlen, _⟩, hb1⟩
  obtain ⟨A1, c1, rfl, hc1⟩ := hm1.form
  have HG := Lib.hid hg
  clear hg HA hw
  dsimp only
  go_wp2_with fail
  refine (works06 w1).mono ?_
  rintro e w2 ⟨rfl, hb2⟩
  have hm2 := hm1.below hb2 fun b q => (hm1.lt b q).2
  have hbw2 := hb1.trans (hb2.mono hb1.size)
  clear hm1 hb1 hb2
  dsimp only
  go_wp2_with fail
  refine (check_prog_log A1 c1 l.length l R rfl w2 (by omega) HG.out.vals (hm2.rd' encEntry.len)).mono ?_
  rintro e w3 ⟨rfl, hb3⟩
  rw [chkE_ok (chkE_zero.2 ⟨hr1, hr2, hlen, HG.out⟩)]
  have hm3 := hm2.below hb3 fun b q => (hm2.lt b q).2
  have hbw3 := hbw2.trans (hb3.mono hbw2.size)
  clear hm2 hbw2 hb3
  have HR3 := Lib.hid (hm3.rd' encEntry.len)
  clear hm3
  dsimp only
  go_upto_if 46 with fail
  go_cut [11] (fun s11 wx => s11 = .pointer (some ⟨w3.heap.size, 0, none⟩) ∧ ∃ x : Entry, Hid (GX l x) ∧ wx.heap[w3.heap.size]? = some (.cells #[.int .i64 x.client, .int .i64 x.number, .int .i64 x.op.kind, .int .i64 x.op.slot, .string x.op.value] 41 (0, 0)) ∧ Below w3.heap.size w3 wx)
  case first =>
    by_cases h0 : 0 < l.length
    · have h0' : decide (0 < l.length) = true := decide_eq_true h0
      have hq0 := Int.emod_nonneg k (by omega : (l.length : Int) - 1 + 1 ≠ 0)
      have hq1 := Int.emod_lt_of_pos k (by omega : 0 < (l.length : Int) - 1 + 1)
      have hwi := fun W => within_calls k ((l.length : Int) - 1) hk (by omega) (by omega) W
      obtain ⟨i, hi⟩ := Int.eq_ofNat_of_zero_le hq0
      rw [hi] at hq1
      have HWI : Hid (∀ W, Calls Try.prog 31 #[.int .i64 k, .int .i64 ((l.length : Int) - 1)] W fun e w' => e = .returned (.int .i64 (i : Int)) ∧ w' = W) := fun W => by
        have := hwi W
        rwa [hi] at this
      clear hwi hi hq0
      have hil : i < l.length := by omega
      obtain ⟨ad, rfl, had, hca⟩ := HR3.out.at_ hil
      obtain ⟨d0, d1, d2, d3, d4⟩ := hca.five
      have hx : Hid (GX l l[i]) := .inr (List.getElem_mem hil)
      clear hca
      generalize l[i] = x at *
      have hla : (ad.add (i * 5)).block < w3.heap.size := by rw [block_add]; exact had
      have g1 : (i : Int) < (l.length : Int) := by omega
      go_wp2_with fail
      refine (HWI.out _).mono ?_
      rintro e w' ⟨rfl, hw'⟩
      rw [hw']
      clear hw' w'
      dsimp only
      have W4 := fun o => (⟨(World.cell?_alloc_lt (w := w3) o _ hla).trans d0, (World.cell?_alloc_lt (w := w3) o ⟨(ad.add (i * 5)).block, (ad.add (i * 5)).off + 1, none⟩ hla).trans d1, (World.cell?_alloc_lt (w := w3) o ⟨(ad.add (i * 5)).block, (ad.add (i * 5)).off + 2, none⟩ hla).trans d2, (World.cell?_alloc_lt (w := w3) o ⟨(ad.add (i * 5)).block, (ad.add (i * 5)).off + 3, none⟩ hla).trans d3, (World.cell?_alloc_lt (w := w3) o ⟨(ad.add (i * 5)).block, (ad.add (i * 5)).off + 4, none⟩ hla).trans d4⟩ : _ ∧ _ ∧ _ ∧ _ ∧ _)
      obtain ⟨e0, e1, e2, e3, e4⟩ := W4 (.cells #[.int .i64 0, .int .i64 1, .int .i64 4, .int .i64 0, .string ⟨#[]⟩] 41)
      clear W4
      go_wp2_with fail
      go_meet
      exact ⟨rfl, x, hx, heap_alloc_new w3 _, (Below.refl _ w3).alloc (Nat.le_refl _) _⟩
    · have h0' : decide (0 < l.length) = false := decide_eq_false h0
      have hl0 : l = [] := List.eq_nil_of_length_eq_zero (by omega)
      have hx : Hid (GX l dflt) := .inl ⟨hl0, rfl⟩
      clear hl0
      go_wp2_with fail
      go_meet
      exact ⟨rfl, dflt, hx, heap_alloc_new w3 _, (Below.refl _ w3).alloc (Nat.le_refl _) _⟩
  case rest =>
    obtain ⟨rfl, x, hx, k4, hb4⟩ := hcut
    obtain ⟨w4, hw4⟩ : ∃ w4 : World, w4 = wc := ⟨_, rfl⟩
    subst hw4
    obtain ⟨zl, hzl⟩ : ∃ zl, zl = (if appE l R x = 0 then l ++ [x] else []) := ⟨_, rfl⟩
    have hll : zl.length ≤ l.length + 1 := by rw [hzl]; split <;> simp
    obtain ⟨z, hz⟩ : ∃ z, z = appE l R x := ⟨_, rfl⟩
    have hp := fun w1 r1 => append_prog A1 c1 l.length l R x rfl w1 (by omega) (hx.out.val HG.out) HG.out.vals r1
    have hr := fun w1 A2 r1 r2 => splice_prog A1 A2 c1 1 l.length 1 l [x] R ((l.length : Int) + 1) (by unfold I64; omega) rfl rfl hc1 (Nat.le_refl _) w1 (by omega) (by simp) HG.out.vals (by simpa using hx.out.val HG.out) r1 r2
    rw [spl_app HG.out hr1 hr2 hlen, spl_list] at hr
    rw [← hzl, ← hz] at hp hr
    have HP := Lib.hid hp
    have HS := Lib.hid hr
    have HZ := Lib.hid hz
    have HZL := Lib.hid hzl
    clear hp hr hz hzl
    have hlt4 : w3.heap.size < w4.heap.size := (Array.getElem?_eq_some_iff.1 k4).1
    have hbw4 := hbw3.trans (hb4.mono hbw3.size)
    have HR4 := Lib.hid ((HR3.out.below hb4).more hb4.size)
    have d0 : w4.cell? ⟨w3.heap.size, 0, none⟩ = some (.int .i64 x.client) := cell_of_row _ _ 0 _ _ _ k4
    have d1 : w4.cell? ⟨w3.heap.size, 1, none⟩ = some (.int .i64 x.number) := cell_of_row _ _ 1 _ _ _ k4
    have d2 : w4.cell? ⟨w3.heap.size, 2, none⟩ = some (.int .i64 x.op.kind) := cell_of_row _ _ 2 _ _ _ k4
    have d3 : w4.cell? ⟨w3.heap.size, 3, none⟩ = some (.int .i64 x.op.slot) := cell_of_row _ _ 3 _ _ _ k4
    have d4 : w4.cell? ⟨w3.heap.size, 4, none⟩ = some (.string x.op.value) := cell_of_row _ _ 4 _ _ _ k4
    clear HR3 hb4
    go_wp2_with fail
    refine (HP.out w4 HR4.out).mono ?_
    rintro e w5 ⟨v5, rfl, hm5, hb5⟩
    obtain ⟨A5, c5, rfl, hc5⟩ := hm5.form
    have k5 := (hb5.block _ hlt4).trans k4
    have hbw5 := hbw4.trans (hb5.mono hbw4.size)
    have HR5 := Lib.hid ((HR4.out.below hb5).more hb5.size)
    have e0 : w5.cell? ⟨w3.heap.size, 0, none⟩ = some (.int .i64 x.client) := cell_of_row _ _ 0 _ _ _ k5
    have e1 : w5.cell? ⟨w3.heap.size, 1, none⟩ = some (.int .i64 x.number) := cell_of_row _ _ 1 _ _ _ k5
    have e2 : w5.cell? ⟨w3.heap.size, 2, none⟩ = some (.int .i64 x.op.kind) := cell_of_row _ _ 2 _ _ _ k5
    have e3 : w5.cell? ⟨w3.heap.size, 3, none⟩ = some (.int .i64 x.op.slot) := cell_of_row _ _ 3 _ _ _ k5
    have e4 : w5.cell? ⟨w3.heap.size, 4, none⟩ = some (.string x.op.value) := cell_of_row _ _ 4 _ _ _ k5
    have HM5 := Lib.hid hm5
    have hlt5 : w3.heap.size < w5.heap.size := Nat.lt_of_lt_of_le hlt4 hb5.size
    clear HR4 HP d0 d1 d2 d3 d4 k4 hm5 hb5
    dsimp only
    go_wp2_with fail
    obtain ⟨w6, hw6⟩ : ∃ w6, w6 = w5.alloc (.cells #[.int .i64 x.client, .int .i64 x.number, .int .i64 x.op.kind, .int .i64 x.op.slot, .string x.op.value] 41) := ⟨_, rfl⟩
    have hb6 : Below w5.heap.size w5 w6 := by rw [hw6]; exact (Below.refl _ _).alloc (Nat.le_refl _) _
    have hr6 : Rd Entry.cells 5 w6 w6.heap.size (some ⟨w5.heap.size, 0, none⟩) [x] := by rw [hw6]; exact (rd_entry w5 x (B := w5.heap.size + 1) (by omega)).more (by simp)
    have k6 := (hb6.block _ hlt5).trans k5
    rw [← hw6]
    refine (HS.out w6 _ ((HR5.out.below hb6).more hb6.size) hr6).mono ?_
    rintro e w7 ⟨v7, rfl, hm7, hb7⟩
    obtain ⟨A7, c7, rfl, hc7⟩ := hm7.form
    have k7 := (hb7.block _ (Nat.lt_of_lt_of_le hlt5 hb6.size)).trans k6
    have hbw7 := (hbw5.trans (hb6.mono hbw5.size)).trans (hb7.mono (Nat.le_trans hbw5.size hb6.size))
    have hr5' : Hid (Rd Entry.cells 5 w7 w7.heap.size A5 zl) := ((((HM5.out.rd' encEntry.len).below hb6).more hb6.size).below hb7).more hb7.size
    have hr7 := Lib.hid (hm7.rd' encEntry.len)
    clear hw6 HR5 HS e0 e1 e2 e3 e4 k5 k6 hm7 hb7 hb6 hr6 HM5
    dsimp only
    go_wp2_with fail
    refine (sameTrue A5 A7 c5 c7 _ zl rfl w7 (by omega) hr5'.out hr7.out).mono ?_
    rintro e w' ⟨rfl, q1, rfl⟩
    by_cases hfull : (l.length : Int) = R
    · have e60 : z = 60 := HZ.out.trans (app_full HG.out hr1 hr2 hfull)
      have enil : zl = [] := by rw [HZL.out, ← HZ.out, e60]; rfl
      subst e60 enil
      have hf' : ((l.length : Int) == R) = true := by simpa using hfull
      clear HZ HZL hr5' hr7 hx
      dsimp only
      go_wp2_with fail
      go_ret
      exact ⟨rfl, below_drewN hbw7 _⟩
    · have hf' : ((l.length : Int) == R) = false := by simpa using hfull
      by_cases h0 : 0 < l.length
      · have hxl : x ∈ l := by
          rcases hx.out with ⟨q, _⟩ | q
          · rw [q] at h0; simp at h0
          · exact q
        have e64 : z = 64 := HZ.out.trans (app_twice HG.out hr1 hr2 (by omega) hxl)
        have enil : zl = [] := by rw [HZL.out, ← HZ.out, e64]; rfl
        subst e64 enil
        have h0' : decide (0 < l.length) = true := decide_eq_true h0
        clear HZ HZL hr5' hr7 hx hxl
        dsimp only
        go_wp2_with fail
        go_ret
        exact ⟨rfl, below_drewN hbw7 _⟩
      · have hl0 : l = [] := List.eq_nil_of_length_eq_zero (by omega)
        have h0' : decide (0 < l.length) = false := decide_eq_false h0
        have hxd : x = dflt := by
          rcases hx.out with ⟨_, q⟩ | q
          · exact q
          · rw [hl0] at q; simp at q
        have ez : z = 0 := by rw [HZ.out, hl0, hxd]; exact app_first hr1 hr2
        have ezl : zl = [x] := by rw [HZL.out, ← HZ.out, ez, hl0]; rfl
        subst ez ezl
        obtain ⟨ad, rfl, _, hca⟩ := hr5'.out.at_ (i := 0) (by simp)
        obtain ⟨p0, p1, p2, p3, p4⟩ := hca.five
        have f0 : w7.cell? ⟨w3.heap.size, 0, none⟩ = some (.int .i64 x.client) := cell_of_row _ _ 0 _ _ _ k7
        have f1 : w7.cell? ⟨w3.heap.size, 1, none⟩ = some (.int .i64 x.number) := cell_of_row _ _ 1 _ _ _ k7
        have f2 : w7.cell? ⟨w3.heap.size, 2, none⟩ = some (.int .i64 x.op.kind) := cell_of_row _ _ 2 _ _ _ k7
        have f3 : w7.cell? ⟨w3.heap.size, 3, none⟩ = some (.int .i64 x.op.slot) := cell_of_row _ _ 3 _ _ _ k7
        have f4 : w7.cell? ⟨w3.heap.size, 4, none⟩ = some (.string x.op.value) := cell_of_row _ _ 4 _ _ _ k7
        have ez : ad.add 0 = ad := by simp [Addr.add]
        simp only [List.getElem_cons_zero, Nat.zero_mul] at p0 p1 p2 p3 p4
        rw [ez] at p0 p1 p2 p3 p4
        have ga := eql_entry x x
        have hge := guard_entry
        simp only [decide_true] at ga
        clear HZ HZL hr5' hr7 hx hca hxd hl0 ez k7 HG
        dsimp only [List.length_cons, List.length_nil]
        go_wp2_with fail
        go_quiet (fail)
        go_wp2
        go_ret
        exact ⟨rfl, by first | exact below_drewN hbw7 _ | exact below_drewN (below_drewN hbw7 _) _⟩
theorem grows_law (W : World) (A0 : Option Addr) (c0 n0 : Nat) (xs0 : List Raw) (hn0 : n0 = xs0.length) (_ : n0 ≤ c0) (hr0 : Rd Raw.cells 5 W W.heap.size A0 xs0) (hw0 : ∀ x ∈ xs0, x.wf) (hs0 : xs0.length * 48 ≤ 140737488351232)
    (room : Int) (hroom : I64 room) (k : Int) (hk : I64 k) : Calls Try.prog 8 #[.slice A0 n0 c0, .int .i64 room, .int .i64 k] W fun e w' => e = .returned (.bool true) ∧ Below W.heap.size W w' :=
  grows_calls A0 c0 n0 xs0 room k hroom hk hn0 W (by omega) hw0 hr0
end Go.Proofs.Ythpogbbgdenmeaa
