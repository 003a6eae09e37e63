/- Rows of a client table: plain data, '==', SameRows. Conditions: Go lengths.
client.check and the reference's Log of layer 5: what a log's error is. Conditions: sizes within Go's own limits.
The reference of layer 5: Entry, Log, results, row, last, within. Conditions: sizes within Go's own limits.
The client table in plain lists: each client's last row. Conditions: none.
The reference of layer 5: row, last, within. Conditions: sizes within Go's own limits.
client.rows: a row for each of the first places, carried out. Conditions: sizes within Go's own limits.
client.Between and the reference's: rows of places. Conditions: sizes within Go's own limits. -/
import Derived.Test.YtnfilklgogaheaaEq
import Derived.Test.YtnfilklgogaheaaApp
import Derived.Test.YtnfilklgogaheaaOpsOf
import Derived.Deep.QuietTactic
import Derived.BigQuiet
import Derived.Deep.LoopGhost
import Derived.Test.YtnfilklgogaheaaCheck
import Derived.Deep.DeepFit
import Derived.Test.YtnfilklgogaheaaPut2
import Derived.Test.YtnfilklgogaheaaLog
import Derived.Deep.RegionHeld3
import Derived.IntWalk
namespace Go.Proofs.Ytnfilklgogaheaa
open Go.RowKit
set_option linter.unusedVariables false
set_option linter.unusedSimpArgs false

structure Row where
  client : Int
  number : Int
  place : Int
  done : Bool
  res : Res
deriving DecidableEq
def Row.cells (r : Row) : List Value := [.int .i64 r.client, .int .i64 r.number, .int .i64 r.place, .bool r.done, .int .i64 r.res.code, .int .i64 r.res.slot, .string r.res.value]
theorem encRow : Enc Row.cells 7 := ⟨fun _ => rfl, fun x u hu => by simp [Row.cells] at hu; rcases hu with rfl | rfl | rfl | rfl | rfl | rfl | rfl <;> rfl⟩
theorem rowRow : RowT Try.prog 76 90 7 64 := RowT.of (z := .agg #[.int .i64 0, .int .i64 0, .int .i64 0, .bool false, .int .i64 0, .int .i64 0, .string ⟨#[]⟩]) Try.underlying76 (by kernel_rfl) rfl (by omega)
theorem equalIn_row (d : Nat) (w : World) (x y : Row) : (Op.equalIn (d + 3) 90 (.agg #[.int .i64 x.client, .int .i64 x.number, .int .i64 x.place, .bool x.done, .int .i64 x.res.code, .int .i64 x.res.slot, .string x.res.value]) (.agg #[.int .i64 y.client, .int .i64 y.number, .int .i64 y.place, .bool y.done, .int .i64 y.res.code, .int .i64 y.res.slot, .string y.res.value])).run Try.prog w = .ok (decide (x = y)) w := by
  have e : decide (x = y) = (x.client == y.client && (x.number == y.number && (x.place == y.place && (x.done == y.done && decide (x.res = y.res))))) := by
    rw [Bool.eq_iff_iff]
    cases x; cases y; simp
  rw [e]
  refine eqA_of Try.underlying90 (by kernel_rfl) ?_
  refine eqf_cons (by rfl) (by go_simp; rfl) (by go_simp; rfl) (by go_simp) ?_
  refine eqf_cons (by rfl) (by go_simp; rfl) (by go_simp; rfl) (by go_simp) ?_
  refine eqf_cons (by rfl) (by go_simp; rfl) (by go_simp; rfl) (by go_simp) ?_
  refine eqf_cons (by rfl) (by go_simp; rfl) (by go_simp; rfl) (by go_simp) ?_
  exact eqf_last (by rfl) (by go_simp) (by go_simp) (equalIn_res d w x.res y.res)
theorem guard_row : Try.prog.eqGuardType Try.prog.depth 90 = false := by kernel_rfl
theorem neq_row (x y : Row) (w : World) : (binOp .neq 90 (.agg #[.int .i64 x.client, .int .i64 x.number, .int .i64 x.place, .bool x.done, .int .i64 x.res.code, .int .i64 x.res.slot, .string x.res.value]) (.agg #[.int .i64 y.client, .int .i64 y.number, .int .i64 y.place, .bool y.done, .int .i64 y.res.code, .int .i64 y.res.slot, .string y.res.value])).run Try.prog w = .ok (.bool (!decide (x = y))) w := by
  rw [run_neq_struct, equalIn_row 9997]; rfl

structure RowAt (w : World) (p : Addr) (r : Row) : Prop where
  c0 : w.cell? p = some (.int .i64 r.client)
  c1 : w.cell? ⟨p.block, p.off + 1, none⟩ = some (.int .i64 r.number)
  c2 : w.cell? ⟨p.block, p.off + 2, none⟩ = some (.int .i64 r.place)
  c3 : w.cell? ⟨p.block, p.off + 3, none⟩ = some (.bool r.done)
  c4 : w.cell? ⟨p.block, p.off + 4, none⟩ = some (.int .i64 r.res.code)
  c5 : w.cell? ⟨p.block, p.off + 5, none⟩ = some (.int .i64 r.res.slot)
  c6 : w.cell? ⟨p.block, p.off + 6, none⟩ = some (.string r.res.value)
theorem At.row {w : World} {p : Addr} {r : Row} (h : At w p r.cells) : RowAt w p r :=
  ⟨h 0 _ rfl, h 1 _ rfl, h 2 _ rfl, h 3 _ rfl, h 4 _ rfl, h 5 _ rfl, h 6 _ rfl⟩

set_option maxHeartbeats 800000 in
theorem sameRowsTrue (A B : Option Addr) (c d n : Nat) (xs : List Row) (hxn : n = xs.length) (w : World) (hn : xs.length ≤ 9223372036854775806) (ha : Rd Row.cells 7 w w.heap.size A xs) (hb : Rd Row.cells 7 w w.heap.size B xs) :
    Calls Try.prog 36 #[.slice A n c, .slice B n d] w fun e w' => e = .returned (.bool true) ∧ ∃ q, w' = w.drewN q := by
  subst hxn
  have HA := Lib.hid ha
  have HB := Lib.hid hb
  clear ha hb
  go_enter Try.func36, Try.ntmps36
  go_wp2
  go_loopw [5] (fun i wr => ∃ k : Nat, k ≤ xs.length ∧ i = .int .i64 k ∧ ∃ q, wr = w.drewN q) (fun i _ => xs.length - (intOf i).toNat)
  case atStart => exact ⟨0, by omega, rfl, 0, rfl⟩
  case round =>
    obtain ⟨k, hk, rfl, q, rfl⟩ := hrel
    by_cases h1 : k < xs.length
    · obtain ⟨ad, hA, _, hca⟩ := HA.out.at_ h1
      obtain ⟨bd, hB, _, hcb⟩ := HB.out.at_ h1
      subst hA; subst hB
      have g1 : (k:Int) < (xs.length : Int) := by omega
      obtain ⟨c0, c1, c2, c3, c4, c5, c6⟩ := hca.row
      obtain ⟨d0, d1, d2, d3, d4, d5, d6⟩ := hcb.row
      have he := neq_row xs[k] xs[k]
      simp only [decide_true, Bool.not_true] at he
      have hg := guard_row
      clear hca hcb
      generalize xs[k] = x at *
      go_wp2_with fail
      go_quiet (fail)
      go_wp2
      go_roundw
      case rel => exact ⟨k + 1, by omega, by go_num, (by first | exact ⟨_, rfl⟩ | exact drawn2 _ _ _)⟩
      case measure => simp [intOf]; omega
    · have g2 : decide ((k:Int) < (xs.length : Int)) = false := by simp; omega
      go_wp2
      go_ret
      exact ⟨rfl, _, rfl⟩

/-- The rows that the first entries make, carried out: from place p + 1 on, over these cells. -/
def rowsD : Nat → List Cell → List Entry → List Row
  | _, _, [] => []
  | p, cs, x :: xs => ⟨x.client, x.number, (p : Int) + 1, true, would cs x.op⟩ :: rowsD (p + 1) (after cs x.op) xs
theorem rowsD_length (xs : List Entry) : ∀ p cs, (rowsD p cs xs).length = xs.length := by
  induction xs with
  | nil => intro p cs; rfl
  | cons x xs ih => intro p cs; simp [rowsD, ih]
theorem rowsD_snoc (xs : List Entry) (x : Entry) : ∀ p cs, rowsD p cs (xs ++ [x]) = rowsD p cs xs ++ [⟨x.client, x.number, (p : Int) + xs.length + 1, true, would (playC cs (opsOf xs)) x.op⟩] := by
  induction xs with
  | nil => intro p cs; simp [rowsD, opsOf, playC]
  | cons y xs ih =>
    intro p cs
    simp only [List.cons_append, rowsD, ih, opsOf, List.map_cons, playC, List.length_cons]
    simp
    omega
theorem rowsD_get (xs : List Entry) : ∀ (p : Nat) (cs : List Cell) (i : Nat) (h : i < xs.length), (rowsD p cs xs)[i]? = some ⟨xs[i].client, xs[i].number, (p : Int) + i + 1, true, would (playC cs (opsOf (xs.take i))) xs[i].op⟩ := by
  induction xs with
  | nil => intro p cs i h; simp at h
  | cons y xs ih =>
    intro p cs i h
    cases i with
    | zero => simp [rowsD, opsOf, playC]
    | succ i =>
      have := ih (p + 1) (after cs y.op) i (by simpa using h)
      simp only [rowsD, List.getElem?_cons_succ, this, List.getElem_cons_succ, List.take_succ_cons, opsOf, List.map_cons, playC]
      simp
      omega
end Go.Proofs.Ytnfilklgogaheaa

namespace Go.Proofs.Ytnfilklgogaheaa
open Go.RowKit
set_option linter.unusedVariables false
set_option linter.unusedSimpArgs false

def logE (xs : List Entry) (room : Int) : Int := if room < xs.length then 60 else (badE xs).1
def entryE (c n : Int) : Int := if c < 0 ∨ 16 ≤ c then 62 else if n < 1 then 63 else 0
theorem baseE_of (x : Entry) : baseE x = if entryE x.client x.number ≠ 0 then entryE x.client x.number else checkOp x.op := by
  unfold baseE entryE
  split
  · simp
  · split <;> simp
theorem take_snoc5 {xs : List Entry} {k : Nat} (h : k < xs.length) : xs.take (k + 1) = xs.take k ++ [xs[k]] := List.take_succ_eq_append_getElem h
theorem logE_good {xs : List Entry} (h : GoodE xs) (hl : xs.length ≤ 256) : logE xs 256 = 0 := by
  unfold logE; rw [if_neg (by omega), badE_good h]
theorem good_logE {xs : List Entry} (h : logE xs 256 = 0) : GoodE xs ∧ xs.length ≤ 256 := by
  unfold logE at h
  by_cases hl : (256 : Int) < xs.length
  · rw [if_pos hl] at h; omega
  · rw [if_neg hl] at h
    refine ⟨fun i hi => ?_, by omega⟩
    refine Decidable.byContradiction fun hne => ?_
    -- the least bad place
    have : ∀ m, m ≤ xs.length → (∀ i (hi : i < xs.length), i < m → fitE (xs.take i) xs[i] = 0) ∨ (badE xs).1 ≠ 0 := by
      intro m
      induction m with
      | zero => intro _; left; intro i _ h; omega
      | succ m ih =>
        intro hm
        rcases ih (by omega) with h1 | h1
        · by_cases hz : fitE (xs.take m) xs[m] = 0
          · left
            intro i hi hlt
            by_cases e : i = m
            · subst e; exact hz
            · exact h1 i hi (by omega)
          · right
            have hg : GoodE (xs.take m) := fun i hi' => by
              simp at hi'
              rw [List.take_take, Nat.min_eq_left (by omega)]
              simpa using h1 i (by omega) (by omega)
            rw [badE_at m (by omega) hz hg]
            exact hz
        · exact .inr h1
    rcases this xs.length (Nat.le_refl _) with h1 | h1
    · exact hne (h1 i hi hi)
    · exact h1 h

theorem entry_client (c n : Int) (w : World) : Calls Try.prog 81 #[.int .i64 c, .int .i64 n] w fun e w' => e = .returned (.int .i64 (entryE c n)) ∧ w' = w := by
  unfold entryE
  by_cases h0 : c < 0
  · rw [if_pos (.inl h0)]
    go_enter Try.func81, Try.ntmps81
    go_wp2_with fail
    go_ret
    exact ⟨rfl, rfl⟩
  have h0' : decide (c < 0) = false := decide_eq_false h0
  by_cases h1 : 16 ≤ c
  · rw [if_pos (.inr h1)]
    go_enter Try.func81, Try.ntmps81
    go_wp2_with fail
    go_ret
    exact ⟨rfl, rfl⟩
  have h1' : decide (16 ≤ c) = false := decide_eq_false h1
  rw [if_neg (by omega)]
  by_cases h2 : n < 1
  · rw [if_pos h2]
    clear h0 h1
    go_enter Try.func81, Try.ntmps81
    go_wp2_with fail
    go_ret
    exact ⟨rfl, rfl⟩
  have h2' : decide (n < 1) = false := decide_eq_false h2
  rw [if_neg h2]
  clear h0 h1 h2
  go_enter Try.func81, Try.ntmps81
  go_wp2_with fail
  go_ret
  exact ⟨rfl, rfl⟩

theorem lastN_zero {xs : List Entry} (h : GoodE xs) (x : Entry) (hb : baseE x = 0) : (x.number ≤ (lastN xs x.client).getD 0) ↔ fitE xs x ≠ 0 := by
  have hn : 1 ≤ x.number := by
    unfold baseE at hb
    by_cases hc : x.client < 0 ∨ 16 ≤ x.client
    · rw [if_pos hc] at hb; omega
    · rw [if_neg hc] at hb
      by_cases hn : x.number < 1
      · rw [if_pos hn] at hb; omega
      · omega
  rw [← fitM_last h x]
  unfold fitM
  rw [if_neg (by simpa using hb)]
  cases lastN xs x.client with
  | none => simp; omega
  | some n => by_cases hh : x.number ≤ n <;> simp [hh]

set_option maxRecDepth 100000 in
set_option maxHeartbeats 4000000 in
theorem check_client (A : Option Addr) (c n : Nat) (xs : List Entry) (hn : n = xs.length) (w : World) (hl : xs.length ≤ 9223372036854775806) (hv : ∀ x ∈ xs, x.op.value.size ≤ 9223372036854775807) (ha : Rd Entry.cells 5 w w.heap.size A xs) :
    Calls Try.prog 69 #[.slice A n c] w fun e w' => e = .returned (.int .i64 (logE xs 256)) ∧ Below w.heap.size w w' := by
  subst hn
  have HA := Lib.hid ha
  have HV := Lib.hid hv
  clear ha hv
  by_cases hr3 : (256 : Int) < (xs.length : Int)
  · have e : logE xs 256 = 60 := by unfold logE; rw [if_pos hr3]
    rw [e]
    go_enter Try.func69, Try.ntmps69
    go_wp2_with fail
    go_ret
    exact ⟨rfl, Below.refl _ _⟩
  have hr3' : decide ((256 : Int) < (xs.length : Int)) = false := decide_eq_false hr3
  have hchk : Hid (logE xs 256 = (badE xs).1) := by show _ = _; unfold logE; rw [if_neg hr3]
  generalize logE xs 256 = CE at *
  have hmm := @run_makeMap Try.prog
  obtain ⟨W0, hW0⟩ : ∃ W0, W0 = w.alloc (.map #[] 0) := ⟨_, rfl⟩
  have hb0 : Below w.heap.size w W0 := by rw [hW0]; exact (Below.refl _ _).alloc (Nat.le_refl _) _
  have hm0 : MapIs evI W0 w.heap.size [] := by rw [hW0]; exact MapIs.new w
  have HM0 := Lib.hid hm0
  have HB0 := Lib.hid hb0
  have HW0 := Lib.hid hW0
  clear hm0 hb0 hW0 hr3
  go_enter Try.func69, Try.ntmps69
  go_wp2_with fail
  rw [← HW0.out]
  clear hmm hr3'
  go_loopw [5, 6, 7, 14] (fun _ _ _ i wr => ∃ k : Nat, k ≤ xs.length ∧ i = .int .i64 k ∧ Hid (GoodE (xs.take k)) ∧ Hid (∃ ps, MapIs evI wr w.heap.size ps ∧ tells (xs.take k) ps) ∧ Hid (Below w.heap.size w wr)) (fun _ _ _ i _ => xs.length - (intOf i).toNat)
  case atStart => exact ⟨0, by omega, rfl, (by show GoodE _; rw [List.take_zero]; exact GoodE.nil), ⟨[], HM0.out, fun c => rfl⟩, HB0.out⟩
  case round =>
    obtain ⟨k, hk, rfl, hgd, hmr, hbr⟩ := hrel
    by_cases hk1 : k < xs.length
    · obtain ⟨ad, hAd, _, hca⟩ := (HA.out.below hbr.out).at_ hk1
      subst hAd
      have g1 : (k:Int) < (xs.length : Int) := by omega
      obtain ⟨c0, c1, c2, c3, c4⟩ := hca.five
      have hvk := HV.out _ (List.getElem_mem hk1)
      have hbad := Lib.hid (badE_at k hk1)
      have hsn := Lib.hid (take_snoc5 hk1)
      obtain ⟨ps, hps, htl⟩ := hmr.out
      clear hca
      generalize xs[k] = y at *
      have hF : Hid (∀ v : Int, v = fitE (xs.take k) y → (v = 0 → GoodE (xs.take (k + 1))) ∧ (v ≠ 0 → CE = v)) := fun v hv => by
        subst hv
        exact ⟨fun h => by rw [hsn.out]; exact hgd.out.snoc h, fun h => by rw [hchk.out, hbad.out h hgd.out]⟩
      have hlook := htl y.client
      have HLZ := Lib.hid (lastN_zero hgd.out y)
      have HTL := Lib.hid htl
      have hfb : Hid (∀ q, baseE y = q → q ≠ 0 → fitE (xs.take k) y = q) := fun q hq h0 => by unfold fitE; rw [hq, if_pos h0]
      obtain ⟨w2, hw2⟩ : ∃ w2, w2 = wr.alloc (.cells #[.int .i64 y.client, .int .i64 y.number, .int .i64 y.op.kind, .int .i64 y.op.slot, .string y.op.value] 32) := ⟨_, rfl⟩
      have hb2 : Below wr.heap.size wr w2 := by rw [hw2]; exact (Below.refl _ _).alloc (Nat.le_refl _) _
      have k2 : w2.heap[wr.heap.size]? = some (.cells #[.int .i64 y.client, .int .i64 y.number, .int .i64 y.op.kind, .int .i64 y.op.slot, .string y.op.value] 32 (0, 0)) := by rw [hw2]; exact heap_alloc_new _ _
      have HB2 := Lib.hid (hbr.out.trans (hb2.mono hbr.out.size))
      have HM2 := Lib.hid (hps.same (hb2.block _ hps.lt))
      have HW2 := Lib.hid hw2
      have HMX : Hid (w.heap.size < wr.heap.size) := hps.lt
      have HS2 : Hid (w2.heap.size = wr.heap.size + 1) := by show _ = _; rw [hw2]; simp
      have K2 := Lib.hid k2
      have d0 : w2.cell? ⟨wr.heap.size, 0, none⟩ = some (.int .i64 y.client) := cell_of_row _ _ 0 _ _ _ k2
      have d1 : w2.cell? ⟨wr.heap.size, 1, none⟩ = some (.int .i64 y.number) := cell_of_row _ _ 1 _ _ _ k2
      have d2 : w2.cell? ⟨wr.heap.size, 2, none⟩ = some (.int .i64 y.op.kind) := cell_of_row _ _ 2 _ _ _ k2
      have d3 : w2.cell? ⟨wr.heap.size, 3, none⟩ = some (.int .i64 y.op.slot) := cell_of_row _ _ 3 _ _ _ k2
      have d4 : w2.cell? ⟨wr.heap.size, 4, none⟩ = some (.string y.op.value) := cell_of_row _ _ 4 _ _ _ k2
      obtain ⟨q1, hq1⟩ : ∃ q, q = entryE y.client y.number := ⟨_, rfl⟩
      obtain ⟨q2, hq2⟩ : ∃ q, q = checkOp y.op := ⟨_, rfl⟩
      have hbs := baseE_of y
      rw [← hq1, ← hq2] at hbs
      have HBS := Lib.hid hbs
      have HE := Lib.hid (entry_client y.client y.number w2)
      have HC := Lib.hid (fun W => check_prog y.op hvk W)
      rw [← hq1] at HE
      simp only [← hq2] at HC
      have HLK := Lib.hid hlook
      clear hbad htl hps hmr hbr hb2 k2 hw2 hq1 hq2 hbs hlook hgd
      by_cases h1 : q1 = 0
      rotate_left
      · have h1' : (q1 != 0) = true := by simpa using h1
        have hCE : CE = q1 := (hF.out q1 (hfb.out q1 (by rw [HBS.out, if_pos h1]) h1).symm).2 h1
        have HCE := Lib.hid hCE
        clear hCE h1 hF hfb HBS HLZ
        go_wp2_with fail
        rw [← HW2.out]
        refine HE.out.mono ?_
        rintro e w' ⟨rfl, hw'⟩
        rw [hw']
        dsimp only
        go_wp2_with fail
        go_ret
        exact ⟨ret_int' HCE.out.symm, HB2.out⟩
      subst h1
      go_wp2_with fail
      rw [← HW2.out]
      refine HE.out.mono ?_
      rintro e w' ⟨rfl, hw'⟩
      rw [hw']
      clear hw' w' HE
      dsimp only
      go_wp2_with fail
      refine (HC.out w2).mono ?_
      rintro e w3 ⟨rfl, hb3⟩
      have k3 := (hb3.block _ (by have := HS2.out; omega)).trans K2.out
      have e0 : w3.cell? ⟨wr.heap.size, 0, none⟩ = some (.int .i64 y.client) := cell_of_row _ _ 0 _ _ _ k3
      have e1 : w3.cell? ⟨wr.heap.size, 1, none⟩ = some (.int .i64 y.number) := cell_of_row _ _ 1 _ _ _ k3
      have HB3 := Lib.hid (HB2.out.trans (hb3.mono HB2.out.size))
      have hm3 : MapIs evI w3 w.heap.size ps := HM2.out.same (hb3.block _ HM2.out.lt)
      clear hb3 k3 d0 d1 d2 d3 d4 HC
      by_cases h2 : q2 = 0
      rotate_left
      · have h2' : (q2 != 0) = true := by simpa using h2
        have hCE : CE = q2 := (hF.out q2 (hfb.out q2 (by rw [HBS.out, if_neg (by simp)]) h2).symm).2 h2
        have HCE := Lib.hid hCE
        clear hCE h2 hF hfb HBS HLZ hm3
        dsimp only
        go_wp2_with fail
        go_ret
        exact ⟨ret_int' HCE.out.symm, HB3.out⟩
      subst h2
      have hb0 : baseE y = 0 := by rw [HBS.out]; rfl
      have hlz := HLZ.out hb0
      rw [← HLK.out] at hlz
      obtain ⟨z, hz⟩ : ∃ z, z = (look ps y.client).getD 0 := ⟨_, rfl⟩
      rw [← hz] at hlz
      have hval : ((look ps y.client).map evI).getD (evI 0) = .int .i64 z := by rw [hz]; cases look ps y.client <;> rfl
      have HVAL := Lib.hid hval
      have HM3 := Lib.hid hm3
      have HFT : Hid (fitE (xs.take k) y ≠ 0 → fitE (xs.take k) y = 64) := fun h => by
        unfold fitE at h ⊢
        rw [hb0] at h ⊢
        simp only [ne_eq, not_true_eq_false, if_false] at h ⊢
        split at h
        · rename_i h'; rw [if_pos h']
        · omega
      clear hval hz HLZ hfb HBS hb0
      by_cases h4 : y.number ≤ z
      · have hf := hlz.1 h4
        have HCE := Lib.hid ((hF.out 64 (HFT.out hf).symm).2 (by omega))
        clear hF HFT hf hlz
        dsimp only
        go_wp2_with (at_lookup; refine wpList_lookup hm3 rfl _ _ false rfl undMapI undIntI (zeroInt _) rfl y.client rfl ?_; rw [HVAL.out])
        go_ret
        exact ⟨ret_int' HCE.out.symm, below_drewN HB3.out 0⟩
      · have hf : fitE (xs.take k) y = 0 := by
          refine Decidable.byContradiction fun h => h4 (hlz.2 h)
        have HGN := Lib.hid ((hF.out 0 hf.symm).1 rfl)
        have h4' : decide (y.number ≤ z) = false := decide_eq_false h4
        clear hF HFT hf hlz h4
        dsimp only
        go_wp2_with (first
          | (at_lookup; refine wpList_lookup hm3 rfl _ _ false rfl undMapI undIntI (zeroInt _) rfl y.client rfl ?_; rw [HVAL.out])
          | (at_mapUpdate; refine wpList_update (ev := evI) HM3.out rfl _ _ _ rfl undMapI undIntI rfl y.client rfl y.number rfl ?_; intro w4 hm4 hg4 hs4; have HM4 := Lib.hid hm4; have HG4 := Lib.hid hg4; clear hm4 hg4))
        go_roundw
        case rel =>
          refine ⟨k + 1, by omega, by go_num, HGN.out, ⟨_, HM4.out, ?_⟩, ?_⟩
          · rw [hsn.out]; exact HTL.out.snoc y
          · exact HB3.out.grown HG4.out HB3.out.size (fun q e => by cases e; exact Nat.le_refl _)
        case measure => simp [intOf]; omega
    · have g1 : decide ((k:Int) < (xs.length : Int)) = false := by simp; omega
      have g2 : decide (k < xs.length) = false := by simp; omega
      have hg : CE = 0 := by
        have h := hgd.out
        rw [List.take_of_length_le (by omega)] at h
        rw [hchk.out, badE_good h]
      subst hg
      clear HA HV hchk
      go_wp2_with fail
      go_ret
      exact ⟨rfl, hbr.out⟩
end Go.Proofs.Ytnfilklgogaheaa

namespace Go.Proofs.Ytnfilklgogaheaa
open Go.RowKit
set_option linter.unusedVariables false
set_option linter.unusedSimpArgs false

set_option maxHeartbeats 1000000 in
theorem entry_ref5 (x : Entry) (hv : x.op.value.size ≤ 9223372036854775807) (w : World) : Calls Try.prog 78 #[.agg #[.int .i64 x.client, .int .i64 x.number, .int .i64 x.op.kind, .int .i64 x.op.slot, .string x.op.value]] w fun e w' => e = .returned (.int .i64 (baseE x)) ∧ Below w.heap.size w w' := by
  have hb0 : Below w.heap.size w (w.alloc (.cells #[.int .i64 x.client, .int .i64 x.number, .int .i64 x.op.kind, .int .i64 x.op.slot, .string x.op.value] 32)) := (Below.refl _ _).alloc (Nat.le_refl _) _
  have HB0 := Lib.hid hb0
  have HC := Lib.hid (fun W => check_ref x.op hv W)
  clear hb0 hv
  unfold baseE
  by_cases h0 : x.client < 0
  · rw [if_pos (.inl h0)]
    go_enter Try.func78, Try.ntmps78
    go_wp2_with fail
    go_ret
    exact ⟨rfl, HB0.out⟩
  have h0' : decide (x.client < 0) = false := decide_eq_false h0
  by_cases h1 : 16 ≤ x.client
  · rw [if_pos (.inr h1)]
    go_enter Try.func78, Try.ntmps78
    go_wp2_with fail
    go_ret
    exact ⟨rfl, HB0.out⟩
  have h1' : decide (16 ≤ x.client) = false := decide_eq_false h1
  rw [if_neg (by omega)]
  by_cases h2 : x.number < 1
  · rw [if_pos h2]
    clear h0 h1
    go_enter Try.func78, Try.ntmps78
    go_wp2_with fail
    go_ret
    exact ⟨rfl, HB0.out⟩
  have h2' : decide (x.number < 1) = false := decide_eq_false h2
  rw [if_neg h2]
  clear h0 h1 h2
  generalize checkOp x.op = q at *
  go_enter Try.func78, Try.ntmps78
  go_wp2_with fail
  refine (HC.out _).mono ?_
  rintro e w1 ⟨rfl, hb1⟩
  have HB1 := Lib.hid (HB0.out.trans (hb1.mono HB0.out.size))
  clear hb1
  dsimp only
  go_wp2_with fail
  go_ret
  exact ⟨rfl, HB1.out⟩

theorem twice_take_false {xs : List Entry} {i : Nat} {x : Entry} (h : ∀ k (hk : k < xs.length), k < i → ¬ (xs[k].client = x.client ∧ x.number ≤ xs[k].number)) : twice (xs.take i) x = false := by
  refine twice_false.2 fun y hy hc => ?_
  obtain ⟨k, hk, rfl⟩ := List.mem_iff_getElem.1 hy
  rw [List.getElem_take] at hc ⊢
  have hk' : k < i ∧ k < xs.length := by simp at hk; omega
  have := h k hk'.2 hk'.1
  omega
theorem twice_take_true {xs : List Entry} {i k : Nat} {x : Entry} (hk : k < xs.length) (hi : k < i) (h : xs[k].client = x.client ∧ x.number ≤ xs[k].number) : twice (xs.take i) x = true := by
  simp only [twice, List.any_eq_true]
  exact ⟨xs[k], List.mem_iff_getElem.2 ⟨k, by simp; omega, by rw [List.getElem_take]⟩, by simp [h.1, h.2]⟩

set_option maxRecDepth 100000 in
set_option maxHeartbeats 4000000 in
theorem log_ref5 (A : Option Addr) (c n : Nat) (xs : List Entry) (hn : n = xs.length) (w : World) (hl : xs.length ≤ 9223372036854775806) (hv : ∀ x ∈ xs, x.op.value.size ≤ 9223372036854775807) (ha : Rd Entry.cells 5 w w.heap.size A xs) :
    Calls Try.prog 40 #[.slice A n c, .int .i64 256] w fun e w' => e = .returned (.int .i64 (logE xs 256)) ∧ Below w.heap.size w w' := by
  subst hn
  have HA := Lib.hid ha
  have HV := Lib.hid hv
  clear ha hv
  by_cases hr3 : (256 : Int) < (xs.length : Int)
  · have e : logE xs 256 = 60 := by unfold logE; rw [if_pos hr3]
    rw [e]
    go_enter Try.func40, Try.ntmps40
    go_wp2_with fail
    go_ret
    exact ⟨rfl, Below.refl _ _⟩
  have hr3' : decide ((256 : Int) < (xs.length : Int)) = false := decide_eq_false hr3
  have hchk : Hid (logE xs 256 = (badE xs).1) := by show _ = _; unfold logE; rw [if_neg hr3]
  generalize logE xs 256 = CE at *
  clear hr3
  go_enter Try.func40, Try.ntmps40
  go_wp2_with fail
  clear hr3'
  go_loopw [5, 6, 7] (fun i _ _ wr => ∃ k : Nat, k ≤ xs.length ∧ i = .int .i64 k ∧ Hid (GoodE (xs.take k)) ∧ Hid (Below w.heap.size w wr)) (fun i _ _ _ => xs.length - (intOf i).toNat)
  case atStart => exact ⟨0, by omega, rfl, (by show GoodE _; rw [List.take_zero]; exact GoodE.nil), Below.refl _ _⟩
  case round =>
    obtain ⟨k, hk, rfl, hgd, hbr⟩ := hrel
    by_cases hk1 : k < xs.length
    · obtain ⟨ad, hAd, _, hca⟩ := (HA.out.below hbr.out).at_ hk1
      subst hAd
      have g1 : (k:Int) < (xs.length : Int) := by omega
      obtain ⟨c0, c1, c2, c3, c4⟩ := hca.five
      have hvk := HV.out _ (List.getElem_mem hk1)
      have hbad := Lib.hid (badE_at k hk1)
      have hsn := Lib.hid (take_snoc5 hk1)
      obtain ⟨y, hy⟩ : ∃ y, y = xs[k] := ⟨_, rfl⟩
      rw [← hy] at hvk c0 c1 c2 c3 c4
      have hF : Hid (∀ v : Int, v = fitE (xs.take k) y → (v = 0 → GoodE (xs.take (k + 1))) ∧ (v ≠ 0 → CE = v)) := fun v hv => by
        subst hv; subst hy
        exact ⟨fun h => by rw [hsn.out]; exact hgd.out.snoc h, fun h => by rw [hchk.out, hbad.out h hgd.out]⟩
      have HE := Lib.hid (entry_ref5 y hvk wr)
      have HY : Hid (xs[k]? = some y) := by show _ = _; rw [hy]; exact List.getElem?_eq_getElem hk1
      obtain ⟨q, hq⟩ : ∃ q, q = baseE y := ⟨_, rfl⟩
      rw [← hq] at HE
      have HQ := Lib.hid hq
      clear hca hy hbad hsn hgd hq
      go_wp2_with fail
      refine HE.out.mono ?_
      rintro e w3 ⟨rfl, hb3⟩
      have HB3 := Lib.hid (hbr.out.trans (hb3.mono hbr.out.size))
      clear hb3 hbr HE c0 c1 c2 c3 c4
      by_cases h1 : q = 0
      rotate_left
      · have h1' : (q != 0) = true := by simpa using h1
        have HCE := Lib.hid ((hF.out q (by unfold fitE; rw [← HQ.out, if_pos h1])).2 h1)
        clear h1 hF HQ
        dsimp only
        go_wp2_with fail
        go_ret
        exact ⟨ret_int' HCE.out.symm, HB3.out⟩
      subst h1
      have HFT : Hid (fitE (xs.take k) y = if twice (xs.take k) y then 64 else 0) := by show _ = _; unfold fitE; rw [← HQ.out]; simp
      clear HQ
      obtain ⟨y0, y1⟩ : (At w3 (ad.add (k * 5)) y.cells) ∧ True := by
        obtain ⟨ad', e, _, h⟩ := (HA.out.below HB3.out) k y HY.out
        cases e
        exact ⟨h, trivial⟩
      obtain ⟨c0, c1, c2, c3, c4⟩ := y0.five
      clear y0 y1 c2 c3 c4
      dsimp only
      go_wp2_with fail
      go_loopw [7] (fun i wq => ∃ j : Nat, j ≤ k ∧ i = .int .i64 j ∧ Hid (∀ t (ht : t < xs.length), t < j → ¬ (xs[t].client = y.client ∧ y.number ≤ xs[t].number)) ∧ ∃ q, wq = w3.drewN q) (fun i _ => k - (intOf i).toNat)
      case atStart => exact ⟨0, by omega, rfl, (fun t _ h => by omega), 0, rfl⟩
      case round =>
        obtain ⟨j, hj, rfl, hno, q, rfl⟩ := hrel
        by_cases hj1 : j < k
        · have hjx : j < xs.length := by omega
          obtain ⟨ad', hAd', _, hca'⟩ := (HA.out.below HB3.out).at_ hjx
          cases hAd'
          obtain ⟨d0, d1, d2, d3, d4⟩ := hca'.five
          have g3 : (j:Int) < (k : Int) := by omega
          have g4 : (j:Int) < (xs.length : Int) := by omega
          clear hca' d2 d3 d4
          by_cases h2 : xs[j].client = y.client
          · have h2' : (xs[j].client == y.client) = true := by simpa using h2
            by_cases h3 : y.number ≤ xs[j].number
            · have HCE := Lib.hid ((hF.out 64 (by rw [HFT.out, twice_take_true hjx hj1 ⟨h2, h3⟩]; rfl)).2 (by omega))
              clear h2 hno hF HFT
              generalize xs[j] = z at *
              go_wp2_with fail
              go_quiet (fail)
              go_wp2_with fail
              go_ret
              exact ⟨ret_int' HCE.out.symm, by first | exact below_drewN HB3.out _ | exact below_drewN (below_drewN HB3.out _) _⟩
            · have HNO : Hid (∀ t (ht : t < xs.length), t < j + 1 → ¬ (xs[t].client = y.client ∧ y.number ≤ xs[t].number)) := fun t ht htj => by
                by_cases e : t = j
                · subst e; exact fun h => h3 h.2
                · exact hno.out t ht (by omega)
              have h3' : decide (y.number ≤ xs[j].number) = false := decide_eq_false h3
              clear h2 h3 hno
              generalize xs[j] = z at *
              go_wp2_with fail
              go_quiet (fail)
              go_wp2_with fail
              go_roundw
              case rel => exact ⟨j + 1, by omega, by go_num, HNO.out, (by first | exact ⟨_, rfl⟩ | exact drawn2 _ _ _)⟩
              case measure => simp [intOf]; omega
          · have HNO : Hid (∀ t (ht : t < xs.length), t < j + 1 → ¬ (xs[t].client = y.client ∧ y.number ≤ xs[t].number)) := fun t ht htj => by
              by_cases e : t = j
              · subst e; exact fun h => h2 h.1
              · exact hno.out t ht (by omega)
            have h2' : (xs[j].client == y.client) = false := by simpa using h2
            clear h2 hno d1 c1
            generalize xs[j] = z at *
            go_wp2_with fail
            go_quiet (fail)
            go_wp2_with fail
            go_roundw
            case rel => exact ⟨j + 1, by omega, by go_num, HNO.out, (by first | exact ⟨_, rfl⟩ | exact drawn2 _ _ _)⟩
            case measure => simp [intOf]; omega
        · have g3 : decide ((j:Int) < (k : Int)) = false := by simp; omega
          have g4 : decide (j < k) = false := by simp; omega
          have HGN := Lib.hid ((hF.out 0 (by rw [HFT.out, twice_take_false (fun t ht htk => hno.out t ht (by omega))]; rfl)).1 rfl)
          clear hno hF HFT c0 c1
          go_wp2_with fail
          go_roundw
          case rel => exact ⟨k + 1, by omega, by go_num, HGN.out, below_drewN HB3.out _⟩
          case measure => simp [intOf]; omega
    · have g1 : decide ((k:Int) < (xs.length : Int)) = false := by simp; omega
      have g2 : decide (k < xs.length) = false := by simp; omega
      have hg : CE = 0 := by
        have h := hgd.out
        rw [List.take_of_length_le (by omega)] at h
        rw [hchk.out, badE_good h]
      subst hg
      clear HA HV hchk
      go_wp2_with fail
      go_ret
      exact ⟨rfl, hbr.out⟩

def MadeRes (w : World) (os : List Op) (e : Ending) (w' : World) : Prop := ∃ v, e = .returned v ∧ Made Res.cells 3 58 w.heap.size w' v (playR [] os) ∧ Below w.heap.size w w'
set_option maxRecDepth 100000 in
set_option maxHeartbeats 2000000 in
theorem results_ref5 (A : Option Addr) (c n : Nat) (xs : List Entry) (m : Nat) (hn : n = xs.length) (hm : m ≤ xs.length) (w : World) (hl : (xs.length + 1) * 48 ≤ 140737488355328) (hv : ∀ x ∈ xs, x.op.value.size ≤ 9223372036854775807) (ha : Rd Entry.cells 5 w w.heap.size A xs) :
    Calls Try.prog 77 #[.slice A n c, .int .i64 m] w (MadeRes w (opsOf (xs.take m))) := by
  subst hn
  have HA := Lib.hid ha
  have HVO : Hid (∀ o ∈ opsOf (xs.take m), o.value.size ≤ 9223372036854775807) := fun o ho => by
    obtain ⟨x, hx, rfl⟩ := List.mem_map.1 ho
    exact hv x (List.mem_of_mem_take hx)
  have HLN : Hid ((opsOf (xs.take m)).length * 32 ≤ 140737488355328) := by show _ ≤ _; rw [opsOf_length]; simp; omega
  clear ha hv
  go_enter Try.func77, Try.ntmps77
  go_wp2_with fail
  go_loopg [5, 6] m (fun g o i wr => ∃ (k : Nat) (A1 : Option Addr) (c1 : Nat), g + k = m ∧ i = .int .i64 k ∧ o = .slice A1 k c1 ∧ Hid (Made Op.cells 3 30 w.heap.size wr (.slice A1 k c1) (opsOf (xs.take k))) ∧ Hid (Below w.heap.size w wr))
  case atStart => exact ⟨0, none, 0, by omega, rfl, rfl, Made.nil _ _ _, Below.refl _ _⟩
  case round =>
    obtain ⟨k, A1, c1, hgk, rfl, rfl, hmd, hbr⟩ := hrel
    by_cases h1 : k < m
    · have hkx : k < xs.length := by omega
      obtain ⟨ad, hAd, _, hca⟩ := (HA.out.below hbr.out).at_ hkx
      subst hAd
      have g1 : (k:Int) < (m : Int) := by omega
      have g2 : (k:Int) < (xs.length : Int) := by omega
      obtain ⟨e0, e1, e2, e3, e4⟩ := hca.five
      have hst := Lib.hid (opsOf_take_succ hkx)
      clear hca e0 e1
      generalize xs[k] = x at *
      have hkl : (opsOf (xs.take k)).length = k := by rw [opsOf_length]; simp; omega
      have hsz := hbr.out.size
      have hmd1 := Lib.hid (hmd.out.alloc (.cells #[.int .i64 x.op.kind, .int .i64 x.op.slot, .string x.op.value] 30))
      have hrd1 := Lib.hid (rd_one encOp wr x.op #[.int .i64 x.op.kind, .int .i64 x.op.slot, .string x.op.value] rfl 30)
      have HKL := Lib.hid hkl
      clear hkl
      go_wp2_with (at_builtin; go_loud (refine wpList_app (v := .slice A1 k c1) (xs := opsOf (xs.take k)) (ys := [x.op]) rowOp encOp rfl (.tmp 14) (.tmp 20) rfl w.heap.size rfl hmd1.out rfl rfl hrd1.out (by rw [HKL.out]; simp only [List.length_singleton]; omega) (by rw [HKL.out]; unfold maxLen; simp only [List.length_singleton]; omega) (by simp; omega) ?_); intro v5 w5 hm5 hg5 hat5; rw [← hst.out] at hm5; have HM5 := Lib.hid hm5; have HG5 := Lib.hid hg5; clear hm5 hg5 hat5)
      go_roundg (m - (k + 1))
      case rel =>
        have hm5 := HM5.out
        obtain ⟨A5, c5, rfl, hc5⟩ := hm5.form
        have hb5 : Below w.heap.size w w5 := (hbr.out.alloc hsz _).grown HG5.out (by simp; omega) (fun q e => (hmd.out.lt q e).1)
        have hlk : (opsOf (xs.take (k + 1))).length = k + 1 := by rw [opsOf_length]; simp; omega
        rw [hlk] at hm5 ⊢
        exact ⟨k + 1, A5, c5, by omega, by go_num, rfl, hm5, hb5⟩
      case measure => omega
    · have g1 : decide (k < m) = false := by simp; omega
      have g2 : decide ((k : Int) < (m : Int)) = false := by simp; omega
      obtain rfl : k = m := by omega
      have hlk : k = (opsOf (xs.take k)).length := by rw [opsOf_length]; simp; omega
      have HRP := Lib.hid (replay_ref A1 c1 k (opsOf (xs.take k)) hlk wr HLN.out HVO.out (hmd.out.rd' encOp.len))
      clear hlk HA hmd HLN HVO
      generalize opsOf (xs.take k) = os at *
      go_wp2_with fail
      refine HRP.out.mono ?_
      rintro e w2 ⟨A2, c2, v2, rfl, hr2, hm2, hb2⟩
      have HB2 := Lib.hid (hbr.out.trans (hb2.mono hbr.out.size))
      have HM2 := Lib.hid (hm2.base' hbr.out.size)
      clear hr2 hm2 hb2 HRP hbr
      dsimp only
      go_wp2_with fail
      go_ret
      exact ⟨_, rfl, HM2.out, HB2.out⟩
end Go.Proofs.Ytnfilklgogaheaa

namespace Go.Proofs.Ytnfilklgogaheaa
set_option linter.unusedVariables false
set_option linter.unusedSimpArgs false

def zeroR : Res := ⟨0, 0, ⟨#[]⟩⟩
/-- Rows of entries that are not carried out, from place p + 1 on. -/
def rowsP : Nat → List Entry → List Row
  | _, [] => []
  | p, x :: xs => ⟨x.client, x.number, (p : Int) + 1, false, zeroR⟩ :: rowsP (p + 1) xs
theorem rowsP_length (xs : List Entry) : ∀ p, (rowsP p xs).length = xs.length := by
  induction xs with
  | nil => intro p; rfl
  | cons x xs ih => intro p; simp [rowsP, ih]
theorem rowsP_snoc (xs : List Entry) (x : Entry) : ∀ p, rowsP p (xs ++ [x]) = rowsP p xs ++ [⟨x.client, x.number, (p : Int) + xs.length + 1, false, zeroR⟩] := by
  induction xs with
  | nil => intro p; simp [rowsP]
  | cons y xs ih => intro p; simp only [List.cons_append, rowsP, ih, List.length_cons]; simp; omega
theorem rowsP_get (xs : List Entry) : ∀ (p i : Nat) (h : i < xs.length), (rowsP p xs)[i]? = some ⟨xs[i].client, xs[i].number, (p : Int) + i + 1, false, zeroR⟩ := by
  induction xs with
  | nil => intro p i h; simp at h
  | cons y xs ih =>
    intro p i h
    cases i with
    | zero => simp [rowsP]
    | succ i =>
      have := ih (p + 1) i (by simpa using h)
      simp only [rowsP, List.getElem?_cons_succ, this, List.getElem_cons_succ]
      simp; omega
/-- A row of each place, the first m carried out. -/
def allR (xs : List Entry) (m : Nat) : List Row := rowsD 0 [] (xs.take m) ++ rowsP m (xs.drop m)
theorem allR_length (xs : List Entry) (m : Nat) : (allR xs m).length = xs.length := by
  unfold allR; rw [List.length_append, rowsD_length, rowsP_length, ← List.length_append, List.take_append_drop]
def rowOf (xs : List Entry) (m i : Nat) (h : i < xs.length) : Row := ⟨xs[i].client, xs[i].number, (i : Int) + 1, decide (i < m), if i < m then would (playC [] (opsOf (xs.take i))) xs[i].op else zeroR⟩
theorem allR_get (xs : List Entry) (m i : Nat) (hm : m ≤ xs.length) (h : i < xs.length) : (allR xs m)[i]? = some (rowOf xs m i h) := by
  unfold allR rowOf
  by_cases hi : i < m
  · have hl : i < (xs.take m).length := by simp; omega
    rw [List.getElem?_append_left (by rw [rowsD_length]; exact hl), rowsD_get _ _ _ _ hl]
    simp [hi, List.take_take, Nat.min_eq_left (Nat.le_of_lt hi)]
  · have hl : i - m < (xs.drop m).length := by simp; omega
    rw [List.getElem?_append_right (by rw [rowsD_length]; simp; omega), rowsD_length]
    have e : i - (xs.take m).length = i - m := by simp; omega
    rw [e, rowsP_get _ _ _ hl]
    simp [hi]
    refine ⟨?_, ?_, by omega⟩ <;> congr 2 <;> omega

def lastR (rs : List Row) (c : Int) : Option Row := rs.foldl (fun o r => if r.client = c then some r else o) none
theorem lastR_snoc (rs : List Row) (r : Row) (c : Int) : lastR (rs ++ [r]) c = if r.client = c then some r else lastR rs c := by simp [lastR]
def tellsR (rs : List Row) (ps : List (Int × Row)) : Prop := ∀ c, look ps c = lastR rs c
theorem tellsR.nil : tellsR [] [] := fun c => rfl
theorem tellsR.snoc {rs : List Row} {ps : List (Int × Row)} (h : tellsR rs ps) (r : Row) : tellsR (rs ++ [r]) (setP ps r.client r) := fun c => by
  rw [look_setP, lastR_snoc, h c]
theorem lastR_client {rs : List Row} {c : Int} {r : Row} (h : lastR rs c = some r) : r.client = c ∧ r ∈ rs := by
  revert h
  refine snoc_ind (p := fun rs => lastR rs c = some r → r.client = c ∧ r ∈ rs) ?_ ?_ rs
  · intro h; simp [lastR] at h
  · intro rs x ih h
    rw [lastR_snoc] at h
    by_cases hc : x.client = c
    · rw [if_pos hc] at h; cases h; exact ⟨hc, by simp⟩
    · rw [if_neg hc] at h
      obtain ⟨h1, h2⟩ := ih h
      exact ⟨h1, by simp [h2]⟩
/-- The place of a client's last entry; 0: none. -/
def lastFrom : Nat → Nat → List Entry → Int → Nat
  | _, a, [], _ => a
  | p, a, x :: xs, c => lastFrom (p + 1) (if x.client = c then p + 1 else a) xs c
def lastP (xs : List Entry) (c : Int) : Nat := lastFrom 0 0 xs c
theorem lastFrom_snoc (xs : List Entry) (x : Entry) (c : Int) : ∀ p a, lastFrom p a (xs ++ [x]) c = if x.client = c then p + xs.length + 1 else lastFrom p a xs c := by
  induction xs with
  | nil => intro p a; simp [lastFrom]
  | cons y xs ih => intro p a; simp only [List.cons_append, lastFrom, ih, List.length_cons]; split <;> omega
theorem lastP_snoc (xs : List Entry) (x : Entry) (c : Int) : lastP (xs ++ [x]) c = if x.client = c then xs.length + 1 else lastP xs c := by
  unfold lastP; rw [lastFrom_snoc]; simp
theorem lastP_le (xs : List Entry) (c : Int) : lastP xs c ≤ xs.length := by
  refine snoc_ind (p := fun xs => lastP xs c ≤ xs.length) (by simp [lastP, lastFrom]) (fun xs x ih => ?_) xs
  rw [lastP_snoc]
  split <;> simp <;> omega
theorem lastR_all {xs : List Entry} {rs : List Row} (hl : rs.length = xs.length) (hc : ∀ i (h : i < xs.length) (h' : i < rs.length), rs[i].client = xs[i].client) (c : Int) : lastR rs c = if lastP xs c = 0 then none else rs[lastP xs c - 1]? := by
  refine (snoc_ind (p := fun xs => ∀ rs : List Row, rs.length = xs.length → (∀ i (h : i < xs.length) (h' : i < rs.length), rs[i].client = xs[i].client) → lastR rs c = if lastP xs c = 0 then none else rs[lastP xs c - 1]?) ?_ ?_ xs) rs hl hc
  · intro rs hl _
    obtain rfl : rs = [] := List.eq_nil_of_length_eq_zero (by simpa using hl)
    simp [lastR, lastP, lastFrom]
  · intro xs x ih rs hl hc
    obtain ⟨ss, s, rfl⟩ : ∃ ss s, rs = ss ++ [s] := by
      have hne : rs ≠ [] := by rintro rfl; simp at hl
      exact ⟨rs.dropLast, rs.getLast hne, (List.dropLast_concat_getLast hne).symm⟩
    have hl' : ss.length = xs.length := by simpa using hl
    have hs : s.client = x.client := by
      have := hc xs.length (by simp) (by simp [hl'])
      rw [List.getElem_append_right (by omega), List.getElem_append_right (by omega)] at this
      simpa [hl'] using this
    have h1 := ih ss hl' (fun i h h' => by
      have := hc i (by simp; omega) (by simp; omega)
      rwa [List.getElem_append_left h', List.getElem_append_left h] at this)
    rw [lastR_snoc, lastP_snoc, hs]
    by_cases hx : x.client = c
    · rw [if_pos hx, if_pos hx, if_neg (by omega)]
      rw [List.getElem?_append_right (by omega)]
      simp [hl']
    · rw [if_neg hx, if_neg hx, h1]
      by_cases h0 : lastP xs c = 0
      · rw [if_pos h0, if_pos h0]
      · have := lastP_le xs c
        rw [if_neg h0, if_neg h0, List.getElem?_append_left (by omega)]
/-- The table: client by client. -/
def tableE (xs : List Entry) (m : Nat) : List Row := (List.range 16).filterMap fun (c : Nat) => lastR (allR xs m) c
theorem allR_client {xs : List Entry} {m : Nat} (hm : m ≤ xs.length) (i : Nat) (h : i < xs.length) (h' : i < (allR xs m).length) : (allR xs m)[i].client = xs[i].client := by
  have := allR_get xs m i hm h
  rw [List.getElem?_eq_getElem h'] at this
  rw [Option.some.inj this]
  rfl
theorem lastR_row {xs : List Entry} {m : Nat} (hm : m ≤ xs.length) (c : Int) : lastR (allR xs m) c = if h : lastP xs c = 0 then none else some (rowOf xs m (lastP xs c - 1) (by have := lastP_le xs c; omega)) := by
  rw [lastR_all (allR_length xs m) (allR_client hm) c]
  by_cases h : lastP xs c = 0
  · rw [if_pos h, dif_pos h]
  · rw [if_neg h, dif_neg h]
    exact allR_get xs m _ hm _
theorem range_sorted (n : Nat) : (List.range n).Pairwise (· < ·) := List.pairwise_lt_range
theorem tableE_sorted (xs : List Entry) (m : Nat) : (tableE xs m).Pairwise (fun a b => a.client < b.client) := by
  unfold tableE
  rw [List.pairwise_filterMap]
  refine (range_sorted 16).imp fun {a b} hab x hx y hy => ?_
  have h1 := (lastR_client hx).1
  have h2 := (lastR_client hy).1
  omega
theorem mem_tableE {xs : List Entry} {m : Nat} (hg : GoodE xs) (hm : m ≤ xs.length) (r : Row) : r ∈ tableE xs m ↔ ∃ c, lastR (allR xs m) c = some r := by
  unfold tableE
  rw [List.mem_filterMap]
  constructor
  · rintro ⟨c, _, h⟩; exact ⟨_, h⟩
  · rintro ⟨c, h⟩
    obtain ⟨h1, h2⟩ := lastR_client h
    obtain ⟨i, hi, e⟩ := List.mem_iff_getElem.1 h2
    have hix : i < xs.length := by rw [allR_length] at hi; exact hi
    have h3 := allR_client hm i hix hi
    rw [e, h1] at h3
    have hb := (fitE_zero.1 (hg i hix)).1
    unfold baseE at hb
    by_cases hc : xs[i].client < 0 ∨ 16 ≤ xs[i].client
    · rw [if_pos hc] at hb; omega
    · refine ⟨c.toNat, by simp; omega, ?_⟩
      rw [show ((c.toNat : Nat) : Int) = c by omega]
      exact h
theorem table_is {xs : List Entry} {m : Nat} (hg : GoodE xs) (hm : m ≤ xs.length) {ps : List (Int × Row)} (hn : (ps.map (·.1)).Nodup) (ht : tellsR (allR xs m) ps) {ys : List Row} (hp : ys.Perm (ps.map (·.2))) (hs : ys.Pairwise (fun a b => a.client ≤ b.client)) : ys = tableE xs m := by
  have hkey : ∀ p ∈ ps, p.2.client = p.1 := fun p hp => by
    have h1 := (mem_look hn p.1 p.2).1 hp
    rw [ht] at h1
    exact (lastR_client h1).1
  have hcl : (ps.map (·.2)).Pairwise (fun a b => a.client ≠ b.client) := by
    rw [List.pairwise_map]
    have h1 := List.pairwise_map.1 hn
    refine h1.imp_of_mem fun {a b} ha hb h => ?_
    rw [hkey a ha, hkey b hb]
    exact h
  have hyc : ys.Pairwise (fun a b => a.client ≠ b.client) := (hp.pairwise_iff (fun {a b} h e => h e.symm)).2 hcl
  have hst : ys.Pairwise (fun a b => a.client < b.client) := by
    refine (hs.and hyc).imp fun {a b} h => ?_
    obtain ⟨h1, h2⟩ := h
    omega
  have hnd : ys.Nodup := hst.imp fun {a b} h e => by subst e; omega
  have hnd2 : (tableE xs m).Nodup := (tableE_sorted xs m).imp fun {a b} h e => by subst e; omega
  have hperm : ys.Perm (tableE xs m) := by
    refine (List.perm_ext_iff_of_nodup hnd hnd2).2 fun r => ?_
    rw [mem_tableE hg hm, hp.mem_iff]
    constructor
    · intro h
      obtain ⟨p, hp', rfl⟩ := List.mem_map.1 h
      exact ⟨p.1, by rw [← ht]; exact (mem_look hn p.1 p.2).1 hp'⟩
    · rintro ⟨c, h⟩
      rw [← ht] at h
      exact List.mem_map.2 ⟨(c, r), (mem_look hn c r).2 h, rfl⟩
  exact hperm.eq_of_pairwise (le := fun a b => a.client < b.client) (fun a b _ _ h1 h2 => by omega) hst (tableE_sorted xs m)
theorem tableE_length (xs : List Entry) (m : Nat) : (tableE xs m).length ≤ 16 := by
  unfold tableE
  exact Nat.le_trans (List.length_filterMap_le _ _) (by simp)
end Go.Proofs.Ytnfilklgogaheaa

namespace Go.Proofs.Ytnfilklgogaheaa
open Go.RowKit
set_option linter.unusedVariables false
set_option linter.unusedSimpArgs false

def withinE (xs : List Entry) (m : Int) : Int := if logE xs 256 = 0 ∧ (m < 0 ∨ (xs.length : Int) < m) then 50 else logE xs 256

theorem within_ref5 (A : Option Addr) (c n : Nat) (xs : List Entry) (m : Int) (hn : n = xs.length) (w : World) (hl : xs.length ≤ 9223372036854775806) (hv : ∀ x ∈ xs, x.op.value.size ≤ 9223372036854775807) (ha : Rd Entry.cells 5 w w.heap.size A xs) :
    Calls Try.prog 73 #[.slice A n c, .int .i64 m] w fun e w' => e = .returned (.int .i64 (withinE xs m)) ∧ Below w.heap.size w w' := by
  subst hn
  have HL := Lib.hid (log_ref5 A c xs.length xs rfl w hl hv ha)
  clear ha hv
  unfold withinE
  generalize logE xs 256 = q at *
  by_cases hq : q = 0
  · subst hq
    by_cases h0 : m < 0
    · rw [if_pos ⟨rfl, .inl h0⟩]
      go_enter Try.func73, Try.ntmps73
      go_wp2_with fail
      refine HL.out.mono ?_
      rintro e w1 ⟨rfl, hb1⟩
      have HB1 := Lib.hid hb1
      clear hb1
      dsimp only
      go_wp2_with fail
      go_ret
      exact ⟨rfl, HB1.out⟩
    · have h0' : decide (m < 0) = false := decide_eq_false h0
      by_cases h1 : (xs.length : Int) < m
      · rw [if_pos ⟨rfl, .inr h1⟩]
        clear h0
        go_enter Try.func73, Try.ntmps73
        go_wp2_with fail
        refine HL.out.mono ?_
        rintro e w1 ⟨rfl, hb1⟩
        have HB1 := Lib.hid hb1
        clear hb1
        dsimp only
        go_wp2_with fail
        go_ret
        exact ⟨rfl, HB1.out⟩
      · have h1' : decide ((xs.length : Int) < m) = false := decide_eq_false h1
        rw [if_neg (by omega)]
        clear h0 h1
        go_enter Try.func73, Try.ntmps73
        go_wp2_with fail
        refine HL.out.mono ?_
        rintro e w1 ⟨rfl, hb1⟩
        have HB1 := Lib.hid hb1
        clear hb1
        dsimp only
        go_wp2_with fail
        go_ret
        exact ⟨rfl, HB1.out⟩
  · have hq' : (q == 0) = false := by simpa using hq
    rw [if_neg (by omega)]
    clear hq
    go_enter Try.func73, Try.ntmps73
    go_wp2_with fail
    refine HL.out.mono ?_
    rintro e w1 ⟨rfl, hb1⟩
    have HB1 := Lib.hid hb1
    clear hb1
    dsimp only
    go_wp2_with fail
    go_ret
    exact ⟨rfl, HB1.out⟩

theorem lastP_take {xs : List Entry} {k : Nat} (h : k < xs.length) (c : Int) : lastP (xs.take (k + 1)) c = if xs[k].client = c then k + 1 else lastP (xs.take k) c := by
  rw [List.take_succ_eq_append_getElem h, lastP_snoc]
  simp [Nat.min_eq_left (Nat.le_of_lt h)]
theorem last_ref5 (A : Option Addr) (c n : Nat) (xs : List Entry) (ca : Int) (hn : n = xs.length) (w : World) (hl : xs.length ≤ 9223372036854775806) (ha : Rd Entry.cells 5 w w.heap.size A xs) :
    Calls Try.prog 74 #[.slice A n c, .int .i64 ca] w fun e w' => e = .returned (.int .i64 (lastP xs ca)) ∧ w = w' := by
  subst hn
  have HA := Lib.hid ha
  clear ha
  go_enter Try.func74, Try.ntmps74
  go_wp2_with fail
  go_loopw [5, 6] (fun p i wr => ∃ k : Nat, k ≤ xs.length ∧ i = .int .i64 k ∧ p = .int .i64 (lastP (xs.take k) ca) ∧ w = wr) (fun _ i _ => xs.length - (intOf i).toNat)
  case atStart => exact ⟨0, by omega, rfl, rfl, rfl⟩
  case round =>
    obtain ⟨k, hk, rfl, rfl, hw⟩ := hrel
    subst hw
    by_cases h1 : k < xs.length
    · obtain ⟨ad, hAd, _, hca⟩ := HA.out.at_ h1
      subst hAd
      obtain ⟨c0, c1, c2, c3, c4⟩ := hca.five
      have g1 : (k:Int) < (xs.length : Int) := by omega
      have hst := Lib.hid (lastP_take h1 ca)
      clear hca c1 c2 c3 c4
      by_cases h2 : xs[k].client = ca
      · have h2' : (xs[k].client == ca) = true := by simpa using h2
        have hs : Hid (lastP (xs.take (k + 1)) ca = k + 1) := by show _ = _; rw [hst.out, if_pos h2]
        clear h2 hst
        generalize xs[k] = y at *
        go_wp2_with fail
        go_roundw
        case rel => exact ⟨k + 1, by omega, by go_num, by rw [hs.out]; go_num, by first | rfl | trivial⟩
        case measure => simp [intOf]; omega
      · have h2' : (xs[k].client == ca) = false := by simpa using h2
        have hs : Hid (lastP (xs.take (k + 1)) ca = lastP (xs.take k) ca) := by show _ = _; rw [hst.out, if_neg h2]
        clear h2 hst
        generalize xs[k] = y at *
        go_wp2_with fail
        go_roundw
        case rel => exact ⟨k + 1, by omega, by go_num, by rw [hs.out], by first | rfl | trivial⟩
        case measure => simp [intOf]; omega
    · have g1 : decide ((k:Int) < (xs.length : Int)) = false := by simp; omega
      have g2 : decide (k < xs.length) = false := by simp; omega
      have he : Hid (lastP (xs.take k) ca = lastP xs ca) := by show _ = _; rw [List.take_of_length_le (by omega)]
      clear HA
      go_wp2_with fail
      go_ret
      exact ⟨ret_int' (by rw [he.out]), rfl⟩

theorem sizeRow : (Try.prog.info? 90).map (·.size) = some 7 := by kernel_rfl
theorem row_end {fn : Func} {p : Tmp} (hres : fn.results = #[.cell p 90]) {R : Ending → World → Prop} {a : Act} {w : World} {B : Nat} {r : Row} {T : TypeId} (hp : a.tmps.getD p undef = .pointer (some ⟨B, 0, none⟩)) (hd : a.defers = [])
    (h : w.heap[B]? = some (.cells #[.int .i64 r.client, .int .i64 r.number, .int .i64 r.place, .bool r.done, .int .i64 r.res.code, .int .i64 r.res.slot, .string r.res.value] T (0, 0))) (hR : R (.returned (.agg #[.int .i64 r.client, .int .i64 r.number, .int .i64 r.place, .bool r.done, .int .i64 r.res.code, .int .i64 r.res.slot, .string r.res.value])) w) : bodyPost Try.prog fn R .ret a w :=
  bodyPost_ret (results_cell_row hres a.tmps w B T _ (0, 0) _ hp h Try.underlying90 rfl sizeRow) hd hR

theorem row7 {w : World} {B : Nat} {a b c d e f g : Value} {T : TypeId} (h : w.heap[B]? = some (.cells #[a, b, c, d, e, f, g] T (0, 0))) (a' b' c' d' e' f' g' : Value) :
    (((((((w.setCell ⟨B, 0, none⟩ a').setCell ⟨B, 1, none⟩ b').setCell ⟨B, 2, none⟩ c').setCell ⟨B, 3, none⟩ d').setCell ⟨B, 4, none⟩ e').setCell ⟨B, 5, none⟩ f').setCell ⟨B, 6, none⟩ g').heap[B]? = some (.cells #[a', b', c', d', e', f', g'] T (0, 0)) := by
  rw [heap_setCell_same _ _ _ _ _ _ (heap_setCell_same _ _ _ _ _ _ (heap_setCell_same _ _ _ _ _ _ (heap_setCell_same _ _ _ _ _ _ (heap_setCell_same _ _ _ _ _ _ (heap_setCell_same _ _ _ _ _ _ (heap_setCell_same _ _ _ _ _ _ h))))))]
  rfl
theorem below7 {N : Nat} {W w : World} {B : Nat} (h : Below N W w) (hB : N ≤ B) (a b c d e f g : Value) :
    Below N W (((((((w.setCell ⟨B, 0, none⟩ a).setCell ⟨B, 1, none⟩ b).setCell ⟨B, 2, none⟩ c).setCell ⟨B, 3, none⟩ d).setCell ⟨B, 4, none⟩ e).setCell ⟨B, 5, none⟩ f).setCell ⟨B, 6, none⟩ g) :=
  ((((((h.setCell (p := ⟨B, 0, none⟩) hB a).setCell (p := ⟨B, 1, none⟩) hB b).setCell (p := ⟨B, 2, none⟩) hB c).setCell (p := ⟨B, 3, none⟩) hB d).setCell (p := ⟨B, 4, none⟩) hB e).setCell (p := ⟨B, 5, none⟩) hB f).setCell (p := ⟨B, 6, none⟩) hB g
structure Cells7 (W : World) (B : Nat) (a b c d e f g : Value) : Prop where
  c0 : W.cell? ⟨B, 0, none⟩ = some a
  c1 : W.cell? ⟨B, 1, none⟩ = some b
  c2 : W.cell? ⟨B, 2, none⟩ = some c
  c3 : W.cell? ⟨B, 3, none⟩ = some d
  c4 : W.cell? ⟨B, 4, none⟩ = some e
  c5 : W.cell? ⟨B, 5, none⟩ = some f
  c6 : W.cell? ⟨B, 6, none⟩ = some g
  f0 : W.frozen? ⟨B, 0, none⟩ = false
  f1 : W.frozen? ⟨B, 1, none⟩ = false
  f2 : W.frozen? ⟨B, 2, none⟩ = false
  f3 : W.frozen? ⟨B, 3, none⟩ = false
  f4 : W.frozen? ⟨B, 4, none⟩ = false
  f5 : W.frozen? ⟨B, 5, none⟩ = false
  f6 : W.frozen? ⟨B, 6, none⟩ = false
theorem cells7 {W : World} {B : Nat} {a b c d e f g : Value} {T : TypeId} (h : W.heap[B]? = some (.cells #[a, b, c, d, e, f, g] T (0, 0))) : Cells7 W B a b c d e f g :=
  ⟨cell_of_row W B 0 _ _ _ h, cell_of_row W B 1 _ _ _ h, cell_of_row W B 2 _ _ _ h, cell_of_row W B 3 _ _ _ h, cell_of_row W B 4 _ _ _ h, cell_of_row W B 5 _ _ _ h, cell_of_row W B 6 _ _ _ h,
   frozen_of_row W B 0 _ _ h, frozen_of_row W B 1 _ _ h, frozen_of_row W B 2 _ _ h, frozen_of_row W B 3 _ _ h, frozen_of_row W B 4 _ _ h, frozen_of_row W B 5 _ _ h, frozen_of_row W B 6 _ _ h⟩

set_option maxRecDepth 100000 in
set_option maxHeartbeats 4000000 in
theorem row_ref5F (A : Option Addr) (c n : Nat) (xs : List Entry) (pl p : Nat) (hpl : pl = p + 1) (hn : n = xs.length) (hp : p < xs.length) (w : World) (hl : xs.length ≤ 9223372036854775806) (ha : Rd Entry.cells 5 w w.heap.size A xs) :
    Calls Try.prog 75 #[.slice A n c, .int .i64 pl, .bool false] w fun e w' => e = .returned (.agg #[.int .i64 xs[p].client, .int .i64 xs[p].number, .int .i64 pl, .bool false, .int .i64 0, .int .i64 0, .string ⟨#[]⟩]) ∧ Below w.heap.size w w' := by
  subst hn
  obtain ⟨W0, hW0⟩ : ∃ W0, W0 = w.alloc (.cells #[.int .i64 0, .int .i64 0, .int .i64 0, .bool false, .int .i64 0, .int .i64 0, .string ⟨#[]⟩] 90) := ⟨_, rfl⟩
  have hb0 : Below w.heap.size w W0 := by rw [hW0]; exact (Below.refl _ _).alloc (Nat.le_refl _) _
  have hs0 : W0.heap.size = w.heap.size + 1 := by rw [hW0]; simp
  have k0 : W0.heap[w.heap.size]? = some (.cells #[.int .i64 0, .int .i64 0, .int .i64 0, .bool false, .int .i64 0, .int .i64 0, .string ⟨#[]⟩] 90 (0, 0)) := by rw [hW0]; exact heap_alloc_new _ _
  obtain ⟨ad, hAd, had, hca⟩ := (ha.below hb0).at_ hp
  subst hAd
  obtain ⟨c0, c1, _, _, _⟩ := hca.five
  have k1 : IntKind.i64.wrap ((pl : Int) - 1) = (p : Int) := by rw [show ((pl : Int) - 1) = (p : Int) by omega]; exact IntWalk.i64_in _ (by omega)
  have k2 : (p : Int) < (xs.length : Int) := by omega
  have HW0 := Lib.hid hW0
  have K0 := Lib.hid k0
  have HB0 := Lib.hid hb0
  have HS0 := Lib.hid hs0
  have HPL := Lib.hid hpl
  clear hW0 k0 hb0 hs0 hca ha hpl
  obtain ⟨y, hy⟩ : ∃ y, y = xs[p] := ⟨_, rfl⟩
  rw [← hy] at c0 c1 ⊢
  clear hy
  go_enter Try.func75, Try.ntmps75
  go_wp2_with fail
  rw [← HW0.out]
  go_region_held3 (fun W => W.cell? (ad.add (p * 5)) = some (.int .i64 y.client) ∧ W.cell? ⟨(ad.add (p * 5)).block, (ad.add (p * 5)).off + 1, none⟩ = some (.int .i64 y.number))
    (go_keep)
    (fail)
  obtain ⟨W1, hW1⟩ : ∃ W1, W1 = (W0.alloc (.cells #[.int .i64 y.client, .int .i64 y.number, .int .i64 pl, .bool false, .int .i64 0, .int .i64 0, .string ⟨#[]⟩] 90)).drew := ⟨_, rfl⟩
  rw [← hW1]
  have j1 : W1.heap[W0.heap.size]? = some (.cells #[.int .i64 y.client, .int .i64 y.number, .int .i64 pl, .bool false, .int .i64 0, .int .i64 0, .string ⟨#[]⟩] 90 (0, 0)) := by rw [hW1]; exact heap_alloc_new W0 _
  have j0 : W1.heap[w.heap.size]? = some (.cells #[.int .i64 0, .int .i64 0, .int .i64 0, .bool false, .int .i64 0, .int .i64 0, .string ⟨#[]⟩] 90 (0, 0)) := by rw [hW1]; exact (heap_alloc_old W0 _ (by have := HS0.out; omega)).trans K0.out
  have HB1 : Hid (Below w.heap.size w W1) := by
    have h1 : Below w.heap.size w (W0.alloc (.cells #[.int .i64 y.client, .int .i64 y.number, .int .i64 pl, .bool false, .int .i64 0, .int .i64 0, .string ⟨#[]⟩] 90)) := HB0.out.alloc (by have := HS0.out; omega) _
    rw [hW1]
    exact ⟨h1.os, h1.tape, h1.output, h1.size, h1.block⟩
  obtain ⟨p0, p1, p2, p3, p4, p5, p6, q0, q1, q2, q3, q4, q5, q6⟩ := cells7 j1
  obtain ⟨r0, r1, r2, r3, r4, r5, r6, s0, s1, s2, s3, s4, s5, s6⟩ := cells7 j0
  have J0 := Lib.hid j0
  clear j1 j0 hW1 c0 c1 k1 k2 HW0 q0 q1 q2 q3 q4 q5 q6
  go_wp2_with fail
  exact row_end (r := ⟨y.client, y.number, pl, false, ⟨0, 0, ⟨#[]⟩⟩⟩) Try.results75 rfl rfl (row7 (B := w.heap.size) J0.out _ _ _ _ _ _ _) ⟨rfl, below7 HB1.out (Nat.le_refl _) _ _ _ _ _ _ _⟩

set_option maxRecDepth 100000 in
set_option maxHeartbeats 4000000 in
theorem row_ref5T (A : Option Addr) (c n : Nat) (xs : List Entry) (pl p : Nat) (hpl : pl = p + 1) (hn : n = xs.length) (hp : p < xs.length) (w : World) (hl : (xs.length + 1) * 48 ≤ 140737488355328) (hv : ∀ x ∈ xs, x.op.value.size ≤ 9223372036854775807) (ha : Rd Entry.cells 5 w w.heap.size A xs) (r : Res) (hr : r = would (playC [] (opsOf (xs.take p))) xs[p].op) :
    Calls Try.prog 75 #[.slice A n c, .int .i64 pl, .bool true] w fun e w' => e = .returned (.agg #[.int .i64 xs[p].client, .int .i64 xs[p].number, .int .i64 pl, .bool true, .int .i64 r.code, .int .i64 r.slot, .string r.value]) ∧ Below w.heap.size w w' := by
  subst hn
  obtain ⟨W0, hW0⟩ : ∃ W0, W0 = w.alloc (.cells #[.int .i64 0, .int .i64 0, .int .i64 0, .bool false, .int .i64 0, .int .i64 0, .string ⟨#[]⟩] 90) := ⟨_, rfl⟩
  have hb0 : Below w.heap.size w W0 := by rw [hW0]; exact (Below.refl _ _).alloc (Nat.le_refl _) _
  have hs0 : W0.heap.size = w.heap.size + 1 := by rw [hW0]; simp
  have k0 : W0.heap[w.heap.size]? = some (.cells #[.int .i64 0, .int .i64 0, .int .i64 0, .bool false, .int .i64 0, .int .i64 0, .string ⟨#[]⟩] 90 (0, 0)) := by rw [hW0]; exact heap_alloc_new _ _
  obtain ⟨ad, hAd, had, hca⟩ := (ha.below hb0).at_ hp
  subst hAd
  obtain ⟨c0, c1, _, _, _⟩ := hca.five
  have k1 : IntKind.i64.wrap ((pl : Int) - 1) = (p : Int) := by rw [show ((pl : Int) - 1) = (p : Int) by omega]; exact IntWalk.i64_in _ (by omega)
  have k2 : (p : Int) < (xs.length : Int) := by omega
  have hres : (playR [] (opsOf (xs.take pl)))[p]? = some r := by
    rw [hpl, opsOf_take_succ hp, playR_append, List.getElem?_append_right (by rw [playR_length, opsOf_length]; simp; omega), playR_length, opsOf_length, hr]
    simp [playR, Nat.min_eq_left (Nat.le_of_lt hp)]
  have HRS := Lib.hid hres
  have HRL : Hid ((playR [] (opsOf (xs.take pl))).length = pl) := by show _ = _; rw [playR_length, opsOf_length]; simp; omega
  have HRF := Lib.hid (fun W (hW : Below w.heap.size w W) => results_ref5 (some ad) c xs.length xs pl rfl (by omega) W hl hv ((ha.below hW).more hW.size))
  have HW0 := Lib.hid hW0
  have K0 := Lib.hid k0
  have HB0 := Lib.hid hb0
  have HS0 := Lib.hid hs0
  have HPL := Lib.hid hpl
  clear hW0 k0 hb0 hs0 hca ha hpl hr hres hv
  obtain ⟨y, hy⟩ : ∃ y, y = xs[p] := ⟨_, rfl⟩
  rw [← hy] at c0 c1 ⊢
  clear hy
  go_enter Try.func75, Try.ntmps75
  go_wp2_with fail
  rw [← HW0.out]
  go_region_held3 (fun W => W.cell? (ad.add (p * 5)) = some (.int .i64 y.client) ∧ W.cell? ⟨(ad.add (p * 5)).block, (ad.add (p * 5)).off + 1, none⟩ = some (.int .i64 y.number))
    (go_keep)
    (fail)
  obtain ⟨W1, hW1⟩ : ∃ W1, W1 = (W0.alloc (.cells #[.int .i64 y.client, .int .i64 y.number, .int .i64 pl, .bool true, .int .i64 0, .int .i64 0, .string ⟨#[]⟩] 90)).drew := ⟨_, rfl⟩
  rw [← hW1]
  have j1 : W1.heap[W0.heap.size]? = some (.cells #[.int .i64 y.client, .int .i64 y.number, .int .i64 pl, .bool true, .int .i64 0, .int .i64 0, .string ⟨#[]⟩] 90 (0, 0)) := by rw [hW1]; exact heap_alloc_new W0 _
  have j0 : W1.heap[w.heap.size]? = some (.cells #[.int .i64 0, .int .i64 0, .int .i64 0, .bool false, .int .i64 0, .int .i64 0, .string ⟨#[]⟩] 90 (0, 0)) := by rw [hW1]; exact (heap_alloc_old W0 _ (by have := HS0.out; omega)).trans K0.out
  have HB1 : Hid (Below w.heap.size w W1) := by
    have h1 : Below w.heap.size w (W0.alloc (.cells #[.int .i64 y.client, .int .i64 y.number, .int .i64 pl, .bool true, .int .i64 0, .int .i64 0, .string ⟨#[]⟩] 90)) := HB0.out.alloc (by have := HS0.out; omega) _
    rw [hW1]
    exact ⟨h1.os, h1.tape, h1.output, h1.size, h1.block⟩
  have hs1 : W1.heap.size = W0.heap.size + 1 := by rw [hW1]; simp [World.drew]
  have J0 := Lib.hid j0
  have J1 := Lib.hid j1
  have HS1 := Lib.hid hs1
  clear j1 j0 hW1 c0 c1 k1 k2 HW0 hs1
  go_wp2_with fail
  refine (HRF.out W1 HB1.out).mono ?_
  rintro e w2 ⟨v2, rfl, hm2, hb2⟩
  obtain ⟨A2, c2, rfl, _⟩ := hm2.form
  obtain ⟨ae, hAe, _, hce⟩ := (hm2.rd' encRes.len) p r HRS.out
  subst hAe
  rw [HRL.out]
  obtain ⟨d0, d1, d2⟩ := hce.three
  have j0 := (hb2.block _ (by have := HS0.out; have := HS1.out; omega)).trans J0.out
  have j1 := (hb2.block _ (by have := HS1.out; omega)).trans J1.out
  have HB2 := Lib.hid (HB1.out.trans (hb2.mono HB1.out.size))
  obtain ⟨p0, p1, p2, p3, p4, p5, p6, q0, q1, q2, q3, q4, q5, q6⟩ := cells7 j1
  have hne : w.heap.size ≠ W0.heap.size := by have := HS0.out; omega
  have k1 : IntKind.i64.wrap ((pl : Int) - 1) = (p : Int) := by rw [show ((pl : Int) - 1) = (p : Int) by have := HPL.out; omega]; exact IntWalk.i64_in _ (by omega)
  have hpl1 : (1 : Int) ≤ (pl : Int) := by have := HPL.out; omega
  have hpl2 : (pl : Int) ≤ 9223372036854775806 := by have := HPL.out; omega
  have hpl3 : (pl : Int) - 1 = (p : Int) := by have := HPL.out; omega
  have hpl4 : (p : Int) < (pl : Int) := by omega
  have hpl5 : p < pl := by omega
  have J0' := Lib.hid j0
  have J1' := Lib.hid j1
  -- behind the three stores
  have m1 : (((w2.setCell ⟨W0.heap.size, 4, none⟩ (.int .i64 r.code)).setCell ⟨W0.heap.size, 5, none⟩ (.int .i64 r.slot)).setCell ⟨W0.heap.size, 6, none⟩ (.string r.value)).heap[W0.heap.size]? = some (.cells #[.int .i64 y.client, .int .i64 y.number, .int .i64 pl, .bool true, .int .i64 r.code, .int .i64 r.slot, .string r.value] 90 (0, 0)) := by
    rw [heap_setCell_same _ _ _ _ _ _ (heap_setCell_same _ _ _ _ _ _ (heap_setCell_same _ _ _ _ _ _ j1))]; rfl
  have m0 : (((w2.setCell ⟨W0.heap.size, 4, none⟩ (.int .i64 r.code)).setCell ⟨W0.heap.size, 5, none⟩ (.int .i64 r.slot)).setCell ⟨W0.heap.size, 6, none⟩ (.string r.value)).heap[w.heap.size]? = some (.cells #[.int .i64 0, .int .i64 0, .int .i64 0, .bool false, .int .i64 0, .int .i64 0, .string ⟨#[]⟩] 90 (0, 0)) := by
    rw [Below.heap_setCell _ _ _ _ (by simpa using hne), Below.heap_setCell _ _ _ _ (by simpa using hne), Below.heap_setCell _ _ _ _ (by simpa using hne)]; exact j0
  have M0 := Lib.hid m0
  obtain ⟨x0, x1, x2, x3, x4, x5, x6, _, _, _, _, _, _, _⟩ := cells7 m1
  obtain ⟨r0, r1, r2, r3, r4, r5, r6, s0, s1, s2, s3, s4, s5, s6⟩ := cells7 m0
  have HB3 : Hid (Below w.heap.size w (((w2.setCell ⟨W0.heap.size, 4, none⟩ (.int .i64 r.code)).setCell ⟨W0.heap.size, 5, none⟩ (.int .i64 r.slot)).setCell ⟨W0.heap.size, 6, none⟩ (.string r.value))) :=
    ((HB2.out.setCell (p := ⟨W0.heap.size, 4, none⟩) (by have := HS0.out; simp; omega) _).setCell (p := ⟨W0.heap.size, 5, none⟩) (by have := HS0.out; simp; omega) _).setCell (p := ⟨W0.heap.size, 6, none⟩) (by have := HS0.out; simp; omega) _
  clear hm2 hb2 hce j0 j1 m0 m1 HRF J0 J1 HB1 hne
  dsimp only
  go_wp2_with fail
  exact row_end (r := ⟨y.client, y.number, pl, true, r⟩) Try.results75 rfl rfl (row7 (B := w.heap.size) M0.out _ _ _ _ _ _ _) ⟨rfl, below7 HB3.out (Nat.le_refl _) _ _ _ _ _ _ _⟩
end Go.Proofs.Ytnfilklgogaheaa

namespace Go.Proofs.Ytnfilklgogaheaa
open Go.RowKit
set_option linter.unusedVariables false
set_option linter.unusedSimpArgs false

def MadeRows (w : World) (rs : List Row) (e : Ending) (w' : World) : Prop := ∃ v, e = .returned v ∧ Made Row.cells 7 90 w.heap.size w' v rs ∧ Below w.heap.size w w'

theorem Kept.ledger_below5 {S : Nat → Prop} {w w1 w2 : World} (h : Below w.heap.size w w1) (k : Kept S w1 w2) (hs : ∀ j, S j → w.heap.size ≤ j) : Below w.heap.size w w2 :=
  ⟨k.os.trans h.os, k.tape.trans h.tape, k.output.trans h.output, Nat.le_trans h.size k.size, fun j hj => (k.block j (Nat.lt_of_lt_of_le hj h.size) (fun q => by have := hs j q; omega)).trans (h.block j hj)⟩
theorem rowsD_take {xs : List Entry} {k : Nat} (h : k < xs.length) : rowsD 0 [] (xs.take (k + 1)) = rowsD 0 [] (xs.take k) ++ [⟨xs[k].client, xs[k].number, (k : Int) + 1, true, would (playC [] (opsOf (xs.take k))) xs[k].op⟩] := by
  rw [List.take_succ_eq_append_getElem h, rowsD_snoc]
  simp [Nat.min_eq_left (Nat.le_of_lt h)]
theorem playC_opsOf_take {xs : List Entry} {k : Nat} (h : k < xs.length) : playC [] (opsOf (xs.take (k + 1))) = after (playC [] (opsOf (xs.take k))) xs[k].op := by
  rw [opsOf_take_succ h, playC_append]; rfl

set_option maxRecDepth 100000 in
set_option maxHeartbeats 8000000 in
theorem rows_prog (A : Option Addr) (c n : Nat) (xs : List Entry) (m : Nat) (hn : n = xs.length) (hm : m ≤ xs.length) (hc : n ≤ c) (w : World) (hl : xs.length ≤ 256) (hv : ∀ x ∈ xs, x.op.value.size ≤ 9223372036854775807) (ha : Rd Entry.cells 5 w w.heap.size A xs) :
    Calls Try.prog 70 #[.slice A n c, .int .i64 m] w (MadeRows w (rowsD 0 [] (xs.take m))) := by
  subst hn
  have HA := Lib.hid ha
  have HV := Lib.hid hv
  have g4 : m ≤ c := by omega
  clear ha hv
  go_enter Try.func70, Try.ntmps70
  go_wp2_with fail
  refine (newLedger w).mono ?_
  rintro e w1 ⟨b, mb, rfl, hl1, hbb, hmb, hB1⟩
  have HL1 := Lib.hid hl1
  have HB1 := Lib.hid hB1
  have HBM := Lib.hid (And.intro hbb hmb)
  clear hl1 hB1 hbb hmb
  dsimp only
  go_wp2_with fail
  go_loopg [5, 7, 8, 14] m (fun g o _ _ i wr => ∃ (k : Nat) (A1 : Option Addr) (c1 : Nat), g + k = m ∧ i = .int .i64 k ∧ o = .slice A1 k c1 ∧ Hid (Made Row.cells 7 90 w.heap.size wr (.slice A1 k c1) (rowsD 0 [] (xs.take k))) ∧ Hid (∀ q, (Value.slice A1 k c1).ownBlock = some q → q ≠ b ∧ q ≠ mb) ∧ Hid (Ledger wr b mb (playC [] (opsOf (xs.take k)))) ∧ Hid (Below w.heap.size w wr))
  case atStart => exact ⟨0, none, 0, by omega, rfl, rfl, Made.nil _ _ _, (fun q hq => by simp [Value.ownBlock] at hq), (show Ledger w1 b mb (playC [] (opsOf (xs.take 0))) by simpa [playC, opsOf] using HL1.out), HB1.out⟩
  case round =>
    obtain ⟨k, A1, c1, hgk, rfl, rfl, hmd, hown, hlr, hbr⟩ := hrel
    by_cases h1 : k < m
    · have hkx : k < xs.length := by omega
      obtain ⟨ad, hAd, _, hca⟩ := (HA.out.below hbr.out).at_ hkx
      subst hAd
      have g1 : (k:Int) < (m : Int) := by omega
      obtain ⟨c0, cc1, c2, c3, c4⟩ := hca.five
      have hvk := HV.out _ (List.getElem_mem hkx)
      have hst := Lib.hid (rowsD_take hkx)
      have hsp := Lib.hid (playC_opsOf_take hkx)
      clear hca
      generalize xs[k] = y at *
      generalize playC [] (opsOf (xs.take k)) = ds at *
      obtain ⟨r, hr⟩ : ∃ r, r = would ds y.op := ⟨_, rfl⟩
      rw [← hr] at hst
      obtain ⟨w2, hw2⟩ : ∃ w2, w2 = wr.alloc (.cells #[.int .i64 y.client, .int .i64 y.number, .int .i64 y.op.kind, .int .i64 y.op.slot, .string y.op.value] 32) := ⟨_, rfl⟩
      have hb2 : Below wr.heap.size wr w2 := by rw [hw2]; exact (Below.refl _ _).alloc (Nat.le_refl _) _
      have k2 : w2.heap[wr.heap.size]? = some (.cells #[.int .i64 y.client, .int .i64 y.number, .int .i64 y.op.kind, .int .i64 y.op.slot, .string y.op.value] 32 (0, 0)) := by rw [hw2]; exact heap_alloc_new _ _
      have hs2 : w2.heap.size = wr.heap.size + 1 := by rw [hw2]; simp
      have hlt := hlr.out.lt
      have hdo := doLedger b mb ds y.op hvk
      rw [← hr] at hdo
      have HDO := Lib.hid (fun W (hW : Ledger W b mb ds) => hdo W hW)
      have HL2 := Lib.hid (hlr.out.below hb2)
      have HM2 := Lib.hid (hmd.out.below hb2 fun q e => (hmd.out.lt q e).2)
      have HB2 := Lib.hid (hbr.out.trans (hb2.mono hbr.out.size))
      have HRL : Hid ((rowsD 0 [] (xs.take k)).length = k) := by show _ = _; rw [rowsD_length]; simp; omega
      have HW2 := Lib.hid hw2
      have HLT : Hid (b < wr.heap.size ∧ mb < wr.heap.size) := hlt
      have KEY : Hid (∀ W : World, W.heap[wr.heap.size]? = some (.cells #[.int .i64 y.client, .int .i64 y.number, .int .i64 y.op.kind, .int .i64 y.op.slot, .string y.op.value] 32 (0, 0)) → W.cell? ⟨wr.heap.size, 0, none⟩ = some (.int .i64 y.client) ∧ W.cell? ⟨wr.heap.size, 1, none⟩ = some (.int .i64 y.number) ∧ W.cell? ⟨wr.heap.size, 2, none⟩ = some (.int .i64 y.op.kind) ∧ W.cell? ⟨wr.heap.size, 3, none⟩ = some (.int .i64 y.op.slot) ∧ W.cell? ⟨wr.heap.size, 4, none⟩ = some (.string y.op.value)) := fun W h =>
        ⟨cell_of_row _ _ 0 _ _ _ h, cell_of_row _ _ 1 _ _ _ h, cell_of_row _ _ 2 _ _ _ h, cell_of_row _ _ 3 _ _ _ h, cell_of_row _ _ 4 _ _ _ h⟩
      have HK2 := Lib.hid k2
      have HOL : Hid (∀ q, (Value.slice A1 k c1).ownBlock = some q → q < wr.heap.size) := fun q hq => (hmd.out.lt q hq).2
      have HSZ : Hid (w2.heap.size = wr.heap.size + 1) := hs2
      obtain ⟨d0, d1, d2, d3, d4⟩ := KEY.out w2 HK2.out
      have k1 : IntKind.i64.wrap ((k : Int) + 1) = (k : Int) + 1 := IntWalk.i64_in _ (by omega)
      clear hr hw2 hb2 k2 hs2 hlt hdo hlr hbr hmd
      go_wp2_with fail
      rw [← HW2.out]
      go_region_held3 (fun W => W.cell? ⟨wr.heap.size, 0, none⟩ = some (.int .i64 y.client) ∧ W.cell? ⟨wr.heap.size, 1, none⟩ = some (.int .i64 y.number) ∧ W.cell? ⟨wr.heap.size, 2, none⟩ = some (.int .i64 y.op.kind) ∧ W.cell? ⟨wr.heap.size, 3, none⟩ = some (.int .i64 y.op.slot) ∧ W.cell? ⟨wr.heap.size, 4, none⟩ = some (.string y.op.value))
        (first
          | exact KEY.out _ HK5.out
          | exact KEY.out _ HK3.out
          | go_keep)
        (first
          | (go_at_call 42
             refine (HDO.out _ (by exact HL2.out)).mono ?_
             rintro e w3 ⟨rfl, hl3, hk3⟩
             have hk3' : Kept (LedS b mb) w2 w3 := ⟨hk3.os, hk3.tape, hk3.output, hk3.size, hk3.block⟩
             have HK3 := Lib.hid ((hk3'.block wr.heap.size (by have := HSZ.out; omega) (fun q => by have := HLT.out; rcases q with q | q <;> omega)).trans HK2.out)
             have HL3 := Lib.hid hl3
             have HS3 : Hid (w2.heap.size ≤ w3.heap.size) := hk3'.size
             have HB3 := Lib.hid (Kept.ledger_below5 HB2.out hk3' (fun j q => by have := HBM.out; rcases q with q | q <;> omega))
             have HM3 : Hid (Made Row.cells 7 90 w.heap.size w3 (.slice A1 k c1) (rowsD 0 [] (xs.take k))) := HM2.out.same fun q hq => hk3'.block q (HM2.out.lt q hq).2 (fun e => by have h5 := hown.out q hq; rcases e with e | e <;> omega)
             clear hl3 hk3 hk3')
          | (refine step_app (v := .slice A1 k c1) (xs := rowsD 0 [] (xs.take k)) (ys := [⟨y.client, y.number, (k : Int) + 1, true, r⟩]) rowRow encRow rfl (.tmp 19) (.tmp 31) rfl w.heap.size rfl (by exact HM3.out.alloc _) rfl rfl (by exact rd_one encRow w3 ⟨y.client, y.number, (k : Int) + 1, true, r⟩ #[.int .i64 y.client, .int .i64 y.number, .int .i64 ((k : Int) + 1), .bool true, .int .i64 r.code, .int .i64 r.slot, .string r.value] rfl 90) (by rw [HRL.out]; simp only [List.length_singleton]; omega) (by rw [HRL.out]; unfold maxLen; simp only [List.length_singleton]; omega) (by have := HB3.out.size; simp; omega) ?_
             intro v5 w5 hm5 hg5 hat5
             rw [← hst.out] at hm5
             have HK5 := Lib.hid ((hg5.block wr.heap.size (by have := HS3.out; have := HSZ.out; simp; omega) (fun e => by have := HOL.out _ e.symm; omega)).trans ((heap_alloc_old w3 _ (by have := HS3.out; have := HSZ.out; omega)).trans HK3.out))
             have HM5 := Lib.hid hm5
             have HG5 := Lib.hid hg5
             have HAT5 := Lib.hid hat5
             clear hm5 hg5 hat5))
      clear k1
      go_wp2_with fail
      go_roundg (m - (k + 1))
      case rel =>
        have hm5 := HM5.out
        obtain ⟨A5, c5, rfl, hc5⟩ := hm5.form
        have hlk : (rowsD 0 [] (xs.take (k + 1))).length = k + 1 := by rw [rowsD_length]; simp; omega
        have hl5e : ∀ q, (Value.slice A5 (k + 1) c5).ownBlock = some q → q ≠ b ∧ q ≠ mb := fun q hq => by
          have hq' : (Value.slice A5 (rowsD 0 [] (xs.take (k + 1))).length c5).ownBlock = some q := by rw [hlk]; exact hq
          rcases HAT5.out with e | e
          · exact hown.out q (by rw [← e]; exact hq')
          · rw [e] at hq'
            injection hq' with hq'
            have := HL3.out.lt
            simp at hq'
            omega
        have hblk : ∀ q, q < w3.heap.size → (Value.slice A1 k c1).ownBlock ≠ some q → w5.heap[q]? = w3.heap[q]? := fun q hq hne => (HG5.out.block q (by simp; omega) (fun e => hne e.symm)).trans (heap_alloc_old _ _ hq)
        have hl5 : Ledger w5 b mb (playC [] (opsOf (xs.take (k + 1)))) := by
          rw [hsp.out]
          exact HL3.out.same (hblk b HL3.out.lt.1 (fun e => (hown.out b e).1 rfl)) (hblk mb HL3.out.lt.2 (fun e => (hown.out mb e).2 rfl))
        have hb5 : Below w.heap.size w w5 := (HB3.out.alloc HB3.out.size _).grown HG5.out (by simp; have := HB3.out.size; omega) (fun q e => (HM2.out.lt q e).1)
        rw [hlk] at hm5 ⊢
        exact ⟨k + 1, A5, c5, by omega, by go_num, rfl, hm5, hl5e, hl5, hb5⟩
      case measure => omega
    · have g1 : decide (k < m) = false := by simp; omega
      have g2 : decide ((k : Int) < (m : Int)) = false := by simp; omega
      obtain rfl : k = m := by omega
      clear HA HV hown hlr
      go_wp2_with fail
      go_ret
      exact ⟨_, rfl, hmd.out, hbr.out⟩
end Go.Proofs.Ytnfilklgogaheaa

namespace Go.Proofs.Ytnfilklgogaheaa
open Go.RowKit
set_option linter.unusedVariables false
set_option linter.unusedSimpArgs false

/-- The rows behind f, up to t. -/
def betweenE (xs : List Entry) (f t : Nat) : List Row := (rowsD 0 [] (xs.take t)).drop f
def inRange (xs : List Entry) (f t : Int) : Prop := 0 ≤ f ∧ f ≤ xs.length ∧ 0 ≤ t ∧ t ≤ xs.length ∧ f ≤ t
def MadeRows2 (w : World) (rs : List Row) (e : Ending) (w' : World) : Prop := ∃ A c, e = .returned (.tuple #[.slice A rs.length c, .int .i64 0]) ∧ Made Row.cells 7 90 w.heap.size w' (.slice A rs.length c) rs ∧ Below w.heap.size w w'

theorem range_cases {xs : List Entry} {f t : Int} (h : ¬ inRange xs f t) : f < 0 ∨ (¬ f < 0 ∧ (xs.length : Int) < f) ∨ (¬ f < 0 ∧ ¬ (xs.length : Int) < f ∧ t < 0) ∨ (¬ f < 0 ∧ ¬ (xs.length : Int) < f ∧ ¬ t < 0 ∧ (xs.length : Int) < t) ∨ (¬ f < 0 ∧ ¬ (xs.length : Int) < f ∧ ¬ t < 0 ∧ ¬ (xs.length : Int) < t ∧ t < f) := by
  unfold inRange at h
  omega

set_option maxRecDepth 100000 in
theorem between_err (A : Option Addr) (c n : Nat) (xs : List Entry) (f t : Int) (hn : n = xs.length) (w : World) (hl : xs.length ≤ 9223372036854775806) (hv : ∀ x ∈ xs, x.op.value.size ≤ 9223372036854775807) (ha : Rd Entry.cells 5 w w.heap.size A xs) (he : logE xs 256 ≠ 0) :
    Calls Try.prog 38 #[.slice A n c, .int .i64 f, .int .i64 t] w fun e w' => e = .returned (.tuple #[.slice none 0 0, .int .i64 (logE xs 256)]) ∧ Below w.heap.size w w' := by
  subst hn
  have HC := Lib.hid (check_client A c xs.length xs rfl w hl hv ha)
  clear ha hv
  generalize logE xs 256 = q at *
  have h1 : (q != 0) = true := by simpa using he
  clear he
  go_enter Try.func38, Try.ntmps38
  go_wp2_with fail
  refine HC.out.mono ?_
  rintro e w1 ⟨rfl, hb1⟩
  have HB1 := Lib.hid hb1
  clear hb1
  dsimp only
  go_wp2_with fail
  go_ret2
  exact ⟨rfl, HB1.out⟩
set_option maxRecDepth 100000 in
theorem between_errR (A : Option Addr) (c n : Nat) (xs : List Entry) (f t : Int) (hn : n = xs.length) (w : World) (hl : xs.length ≤ 9223372036854775806) (hv : ∀ x ∈ xs, x.op.value.size ≤ 9223372036854775807) (ha : Rd Entry.cells 5 w w.heap.size A xs) (he : logE xs 256 ≠ 0) :
    Calls Try.prog 39 #[.slice A n c, .int .i64 f, .int .i64 t] w fun e w' => e = .returned (.tuple #[.slice none 0 0, .int .i64 (logE xs 256)]) ∧ Below w.heap.size w w' := by
  subst hn
  have HC := Lib.hid (log_ref5 A c xs.length xs rfl w hl hv ha)
  clear ha hv
  generalize logE xs 256 = q at *
  have h1 : (q != 0) = true := by simpa using he
  clear he
  go_enter Try.func39, Try.ntmps39
  go_wp2_with fail
  refine HC.out.mono ?_
  rintro e w1 ⟨rfl, hb1⟩
  have HB1 := Lib.hid hb1
  clear hb1
  dsimp only
  go_wp2_with fail
  go_ret2
  exact ⟨rfl, HB1.out⟩

set_option maxRecDepth 100000 in
set_option maxHeartbeats 1000000 in
theorem between_bad (A : Option Addr) (c n : Nat) (xs : List Entry) (f t : Int) (hn : n = xs.length) (w : World) (hl : xs.length ≤ 9223372036854775806) (hv : ∀ x ∈ xs, x.op.value.size ≤ 9223372036854775807) (ha : Rd Entry.cells 5 w w.heap.size A xs) (he : logE xs 256 = 0) (hr : ¬ inRange xs f t) :
    Calls Try.prog 38 #[.slice A n c, .int .i64 f, .int .i64 t] w fun e w' => e = .returned (.tuple #[.slice none 0 0, .int .i64 50]) ∧ Below w.heap.size w w' := by
  subst hn
  have HC := Lib.hid (check_client A c xs.length xs rfl w hl hv ha)
  clear ha hv
  rw [he] at HC
  clear he
  have hcs := range_cases hr
  clear hr
  rcases hcs with h | ⟨h1, h⟩ | ⟨h1, h2, h⟩ | ⟨h1, h2, h3, h⟩ | ⟨h1, h2, h3, h4, h⟩
  all_goals
    try have h1' : decide (f < 0) = false := decide_eq_false h1
    try have h2' : decide ((xs.length : Int) < f) = false := decide_eq_false h2
    try have h3' : decide (t < 0) = false := decide_eq_false h3
    try have h4' : decide ((xs.length : Int) < t) = false := decide_eq_false h4
    try clear h1
    try clear h2
    try clear h3
    try clear h4
    go_enter Try.func38, Try.ntmps38
    go_wp2_with fail
    refine HC.out.mono ?_
    rintro e w1 ⟨rfl, hb1⟩
    have HB1 := Lib.hid hb1
    clear hb1
    dsimp only
    go_wp2_with fail
    go_ret2
    exact ⟨rfl, HB1.out⟩
set_option maxRecDepth 100000 in
set_option maxHeartbeats 1000000 in
theorem between_badR (A : Option Addr) (c n : Nat) (xs : List Entry) (f t : Int) (hn : n = xs.length) (w : World) (hl : xs.length ≤ 9223372036854775806) (hv : ∀ x ∈ xs, x.op.value.size ≤ 9223372036854775807) (ha : Rd Entry.cells 5 w w.heap.size A xs) (he : logE xs 256 = 0) (hr : ¬ inRange xs f t) :
    Calls Try.prog 39 #[.slice A n c, .int .i64 f, .int .i64 t] w fun e w' => e = .returned (.tuple #[.slice none 0 0, .int .i64 50]) ∧ Below w.heap.size w w' := by
  subst hn
  have HC := Lib.hid (log_ref5 A c xs.length xs rfl w hl hv ha)
  clear ha hv
  rw [he] at HC
  clear he
  have hcs := range_cases hr
  clear hr
  rcases hcs with h | ⟨h1, h⟩ | ⟨h1, h2, h⟩ | ⟨h1, h2, h3, h⟩ | ⟨h1, h2, h3, h4, h⟩
  all_goals
    try have h1' : decide (f < 0) = false := decide_eq_false h1
    try have h2' : decide ((xs.length : Int) < f) = false := decide_eq_false h2
    try have h3' : decide (t < 0) = false := decide_eq_false h3
    try have h4' : decide ((xs.length : Int) < t) = false := decide_eq_false h4
    try clear h1
    try clear h2
    try clear h3
    try clear h4
    go_enter Try.func39, Try.ntmps39
    go_wp2_with fail
    refine HC.out.mono ?_
    rintro e w1 ⟨rfl, hb1⟩
    have HB1 := Lib.hid hb1
    clear hb1
    dsimp only
    go_wp2_with fail
    go_ret2
    exact ⟨rfl, HB1.out⟩

set_option maxRecDepth 100000 in
set_option maxHeartbeats 2000000 in
theorem between_ok (A : Option Addr) (c n : Nat) (xs : List Entry) (f t : Nat) (hn : n = xs.length) (hc : n ≤ c) (w : World) (hv : ∀ x ∈ xs, x.op.value.size ≤ 9223372036854775807) (ha : Rd Entry.cells 5 w w.heap.size A xs) (he : logE xs 256 = 0) (hft : f ≤ t) (ht : t ≤ xs.length) :
    Calls Try.prog 38 #[.slice A n c, .int .i64 f, .int .i64 t] w (MadeRows2 w (betweenE xs f t)) := by
  subst hn
  have hl := (good_logE he).2
  have HC := Lib.hid (check_client A c xs.length xs rfl w (by omega) hv ha)
  rw [he] at HC
  have HR := Lib.hid (fun W (hW : Below w.heap.size w W) => rows_prog A c xs.length xs t rfl ht hc W hl hv ((ha.below hW).more hW.size))
  have HRL : Hid ((rowsD 0 [] (xs.take t)).length = t) := by show _ = _; rw [rowsD_length]; simp; omega
  have HBL : Hid ((betweenE xs f t).length = t - f) := by show _ = _; unfold betweenE; rw [List.length_drop, HRL.out]
  have h1' : decide ((f : Int) < 0) = false := by simp
  have h2' : decide ((xs.length : Int) < (f : Int)) = false := by simp; omega
  have h2n : decide (xs.length < f) = false := by simp; omega
  have h3' : decide ((t : Int) < 0) = false := by simp
  have h4' : decide ((xs.length : Int) < (t : Int)) = false := by simp; omega
  have h4n : decide (xs.length < t) = false := by simp; omega
  have h5' : decide ((t : Int) < (f : Int)) = false := by simp; omega
  have h5n : decide (t < f) = false := by simp; omega
  have htl : t ≤ 256 := by omega
  clear ha hv he
  go_enter Try.func38, Try.ntmps38
  go_wp2_with fail
  refine HC.out.mono ?_
  rintro e w1 ⟨rfl, hb1⟩
  have HB1 := Lib.hid hb1
  clear hb1 HC
  dsimp only
  go_wp2_with fail
  refine (HR.out w1 HB1.out).mono ?_
  rintro e w2 ⟨v2, rfl, hm2, hb2⟩
  obtain ⟨A2, c2, rfl, hc2⟩ := hm2.form
  have hr2 := hm2.rd' encRow.len
  have HD : Hid (Rd Row.cells 7 w2 w2.heap.size (A2.map (·.add (f * 7))) (betweenE xs f t)) := hr2.drop f
  have HB2 := Lib.hid (HB1.out.trans (hb2.mono HB1.out.size))
  have hrl := HRL.out
  rw [hrl] at hc2 ⊢
  have htc : t ≤ c2 := hc2
  clear hm2 hb2 hr2 HR HB1 h1' h2' h2n h3' h4' h4n h5' h5n hrl
  have hlm : t - f ≤ maxLen := by unfold maxLen; omega
  by_cases hcf : c2 = f
  · have hte : t = f := by omega
    have HE : Hid (betweenE xs f t = []) := by
      have := HBL.out
      exact List.eq_nil_of_length_eq_zero (by omega)
    dsimp only
    go_wp2_with (at_builtin; refine wpList_app (v := .slice none 0 0) (xs := []) (ys := ([] : List Row)) rowRow encRow rfl (.const (.slice none 0 0)) (.tmp 41) rfl w.heap.size rfl (Made.nil _ _ _) rfl rfl (Rd.nil (w := w2) (B := w2.heap.size)) (by simp) (by simp) (by have := HB2.out.size; omega) ?_; intro v5 w5 hm5 hg5 hat5)
    go_ret2
    simp only [List.nil_append] at hm5
    obtain ⟨A5, c5, rfl, _⟩ := hm5.form
    rw [← HE.out] at hm5
    refine ⟨A5, c5, ?_, hm5, HB2.out.grown hg5 HB2.out.size (by simp [Value.ownBlock])⟩
    rw [HE.out]
    rfl
  · have hcf' : (c2 == f) = false := by simpa using hcf
    dsimp only
    go_wp2_with (at_builtin; refine wpList_app (v := .slice none 0 0) (xs := []) (ys := betweenE xs f t) rowRow encRow rfl (.const (.slice none 0 0)) (.tmp 41) rfl w.heap.size rfl (Made.nil _ _ _) rfl HBL.out.symm HD.out (by rw [HBL.out]; simp; omega) (by rw [HBL.out]; simp; omega) (by have := HB2.out.size; omega) ?_; intro v5 w5 hm5 hg5 hat5)
    go_ret2
    simp only [List.nil_append] at hm5
    obtain ⟨A5, c5, rfl, _⟩ := hm5.form
    exact ⟨A5, c5, rfl, hm5, HB2.out.grown hg5 HB2.out.size (by simp [Value.ownBlock])⟩

theorem betweenE_get {xs : List Entry} {f t i : Nat} (ht : t ≤ xs.length) (h : f + i < t) : (betweenE xs f t)[i]? = some ⟨(xs[f + i]'(by omega)).client, (xs[f + i]'(by omega)).number, ((f + i : Nat) : Int) + 1, true, would (playC [] (opsOf (xs.take (f + i)))) (xs[f + i]'(by omega)).op⟩ := by
  unfold betweenE
  rw [List.getElem?_drop, rowsD_get _ _ _ _ (by simp; omega)]
  simp [List.take_take, Nat.min_eq_left (Nat.le_of_lt h)]
theorem betweenE_take {xs : List Entry} {f t k : Nat} (ht : t ≤ xs.length) (h : f + k < t) : (betweenE xs f t).take (k + 1) = (betweenE xs f t).take k ++ [⟨(xs[f + k]'(by omega)).client, (xs[f + k]'(by omega)).number, ((f + k : Nat) : Int) + 1, true, would (playC [] (opsOf (xs.take (f + k)))) (xs[f + k]'(by omega)).op⟩] := by
  have hg := betweenE_get ht h
  obtain ⟨hk, e⟩ := List.getElem?_eq_some_iff.1 hg
  rw [List.take_succ_eq_append_getElem hk, e]
theorem playR_at {xs : List Entry} {t i : Nat} (ht : t ≤ xs.length) (h : i < t) : (playR [] (opsOf (xs.take t)))[i]? = some (would (playC [] (opsOf (xs.take i))) (xs[i]'(by omega)).op) := by
  have e : xs.take t = xs.take (i + 1) ++ (xs.take t).drop (i + 1) := by
    have := List.take_append_drop (i + 1) (xs.take t)
    rw [List.take_take, Nat.min_eq_left h] at this
    exact this.symm
  have e2 : opsOf (xs.take t) = opsOf (xs.take (i + 1)) ++ opsOf ((xs.take t).drop (i + 1)) := by
    conv => lhs; rw [e]
    simp [opsOf]
  rw [e2, playR_append, List.getElem?_append_left (by rw [playR_length, opsOf_length]; simp; omega), opsOf_take_succ (by omega), playR_append, List.getElem?_append_right (by rw [playR_length, opsOf_length]; simp; omega), playR_length, opsOf_length]
  have : i - (xs.take i).length = 0 := by simp; omega
  rw [this]
  rfl

set_option maxRecDepth 100000 in
set_option maxHeartbeats 8000000 in
theorem between_okR (A : Option Addr) (c n : Nat) (xs : List Entry) (f t : Nat) (hn : n = xs.length) (w : World) (hv : ∀ x ∈ xs, x.op.value.size ≤ 9223372036854775807) (ha : Rd Entry.cells 5 w w.heap.size A xs) (he : logE xs 256 = 0) (hft : f ≤ t) (ht : t ≤ xs.length) :
    Calls Try.prog 39 #[.slice A n c, .int .i64 f, .int .i64 t] w (MadeRows2 w (betweenE xs f t)) := by
  subst hn
  have hl := (good_logE he).2
  have HC := Lib.hid (log_ref5 A c xs.length xs rfl w (by omega) hv ha)
  rw [he] at HC
  have HR := Lib.hid (fun W (hW : Below w.heap.size w W) => results_ref5 A c xs.length xs t rfl ht W (by omega) hv ((ha.below hW).more hW.size))
  have HBL : Hid ((betweenE xs f t).length = t - f) := by show _ = _; unfold betweenE; rw [List.length_drop, rowsD_length]; simp; omega
  have HRL : Hid ((playR [] (opsOf (xs.take t))).length = t) := by show _ = _; rw [playR_length, opsOf_length]; simp; omega
  have HROW := Lib.hid (fun (pl p : Nat) (hpl : pl = p + 1) (hp : p < xs.length) W (hW : Below w.heap.size w W) => row_ref5F A c xs.length xs pl p hpl rfl hp W (by omega) ((ha.below hW).more hW.size))
  have h1' : decide ((f : Int) < 0) = false := by simp
  have h2' : decide ((xs.length : Int) < (f : Int)) = false := by simp; omega
  have h2n : decide (xs.length < f) = false := by simp; omega
  have h3' : decide ((t : Int) < 0) = false := by simp
  have h4' : decide ((xs.length : Int) < (t : Int)) = false := by simp; omega
  have h4n : decide (xs.length < t) = false := by simp; omega
  have h5' : decide ((t : Int) < (f : Int)) = false := by simp; omega
  have h5n : decide (t < f) = false := by simp; omega
  have htl : t ≤ 256 := by omega
  clear ha hv he
  go_enter Try.func39, Try.ntmps39
  go_wp2_with fail
  refine HC.out.mono ?_
  rintro e w1 ⟨rfl, hb1⟩
  have HB1 := Lib.hid hb1
  clear hb1 HC
  dsimp only
  go_wp2_with fail
  refine (HR.out w1 HB1.out).mono ?_
  rintro e w2 ⟨v2, rfl, hm2, hb2⟩
  obtain ⟨A2, c2, rfl, _⟩ := hm2.form
  have HR2 := Lib.hid (hm2.rd' encRes.len)
  have HB2 := Lib.hid (HB1.out.trans (hb2.mono HB1.out.size))
  rw [HRL.out]
  clear hm2 hb2 HR HB1 h1' h2' h2n h3' h4' h4n h5' h5n
  dsimp only
  go_wp2_with fail
  go_loopg [10, 11, 12] (t - f) (fun g o i _ wr => ∃ (k : Nat) (A1 : Option Addr) (c1 pl : Nat), g + k = t - f ∧ Hid (pl = f + k + 1) ∧ i = .int .i64 pl ∧ o = .slice A1 k c1 ∧ Hid (Made Row.cells 7 90 w2.heap.size wr (.slice A1 k c1) ((betweenE xs f t).take k)) ∧ Hid (Below w2.heap.size w2 wr))
  case atStart => exact ⟨0, none, 0, f + 1, by omega, rfl, by simp, rfl, Made.nil _ _ _, Below.refl _ _⟩
  case round =>
    obtain ⟨k, A1, c1, pl, hgk, hpl, rfl, rfl, hmd, hbr⟩ := hrel
    by_cases h1 : k < t - f
    · have hfk : f + k < t := by omega
      have hplt : pl ≤ t := by have := hpl.out; omega
      have g1 : decide ((pl : Int) ≤ (t : Int)) = true := by simp; omega
      have hst := Lib.hid (betweenE_take ht hfk)
      have hpr := playR_at ht hfk
      have HRO := Lib.hid (HROW.out pl (f + k) (by have := hpl.out; omega) (by omega) wr (HB2.out.trans (hbr.out.mono HB2.out.size)))
      have hszr := hbr.out.size
      obtain ⟨ae, hAe, _, hce⟩ := ((HR2.out.below hbr.out).more hszr) (f + k) _ hpr
      have HAE : Hid (ae.block < w2.heap.size) := by obtain ⟨ae', e', h', _⟩ := HR2.out (f + k) _ hpr; rw [hAe] at e'; cases e'; exact h'
      subst hAe
      have HCE := Lib.hid hce
      clear hce hpr
      have hfx : f + k < xs.length := by omega
      generalize xs[f + k] = y at *
      generalize would (playC [] (opsOf (xs.take (f + k)))) y.op = r at *
      obtain ⟨p, hp⟩ : ∃ p, p = f + k := ⟨_, rfl⟩
      rw [← hp] at HCE hst
      have hpl2 : pl = p + 1 := by have := hpl.out; omega
      have HPL2 := Lib.hid hpl2
      have k1 : (pl : Int) - 1 = (p : Int) := by omega
      have k2 : (1 : Int) ≤ (pl : Int) := by omega
      have k3 : (pl : Int) ≤ 256 := by omega
      have k4 : (p : Int) < (t : Int) := by omega
      have k5 : p < t := by omega
      have HP := Lib.hid hp
      have HKL : Hid (((betweenE xs f t).take k).length = k) := by show _ = _; rw [List.length_take, HBL.out]; omega
      clear hp hpl2
      go_wp2_with fail
      refine HRO.out.mono ?_
      rintro e w3 ⟨rfl, hb3⟩
      obtain ⟨w4, hw4⟩ : ∃ w4, w4 = w3.alloc (.cells #[.int .i64 y.client, .int .i64 y.number, .int .i64 pl, .bool true, .int .i64 r.code, .int .i64 r.slot, .string r.value] 90) := ⟨_, rfl⟩
      have HB3 := Lib.hid (hbr.out.trans (hb3.mono hszr))
      have HM3 := Lib.hid (hmd.out.below hb3 fun q e => (hmd.out.lt q e).2)
      have hce3 := HCE.out.keep (w' := w3) fun q hq => hb3.cell (p := q) (by rw [hq, block_add]; have := HAE.out; omega)
      obtain ⟨d0, d1, d2⟩ := hce3.three
      have hlt3 : (ae.add (p * 3)).block < w3.heap.size := by rw [block_add]; have := HAE.out; have := hb3.size; omega
      clear hb3 hce3 HRO
      have hmd4 := Lib.hid ((HM3.out.alloc (.cells #[.int .i64 y.client, .int .i64 y.number, .int .i64 pl, .bool true, .int .i64 r.code, .int .i64 r.slot, .string r.value] 90)).alloc (.cells #[.int .i64 y.client, .int .i64 y.number, .int .i64 pl, .bool true, .int .i64 r.code, .int .i64 r.slot, .string r.value] 90))
      have hrd4 := rd_one encRow (w3.alloc (.cells #[.int .i64 y.client, .int .i64 y.number, .int .i64 pl, .bool true, .int .i64 r.code, .int .i64 r.slot, .string r.value] 90)) ⟨y.client, y.number, (pl : Int), true, r⟩ #[.int .i64 y.client, .int .i64 y.number, .int .i64 pl, .bool true, .int .i64 r.code, .int .i64 r.slot, .string r.value] rfl 90
      rw [show (w3.alloc (.cells #[.int .i64 y.client, .int .i64 y.number, .int .i64 pl, .bool true, .int .i64 r.code, .int .i64 r.slot, .string r.value] 90)).heap.size = w3.heap.size + 1 by simp] at hrd4
      replace hrd4 := Lib.hid hrd4
      have hpe : ((f + k : Nat) : Int) + 1 = (pl : Int) := by have := hpl.out; omega
      have hst2 : Hid ((betweenE xs f t).take (k + 1) = (betweenE xs f t).take k ++ [⟨y.client, y.number, (pl : Int), true, r⟩]) := by
        show _ = _
        rw [hst.out]
        congr 3
        have := HP.out; omega
      clear hpe hst hw4 w4
      dsimp only
      go_wp2_with (at_builtin; go_loud (refine wpList_app (v := .slice A1 k c1) (xs := (betweenE xs f t).take k) (ys := [⟨y.client, y.number, (pl : Int), true, r⟩]) rowRow encRow rfl (.tmp 61) (.tmp 63) rfl w2.heap.size rfl hmd4.out rfl rfl hrd4.out (by rw [HKL.out]; simp only [List.length_singleton]; omega) (by rw [HKL.out]; unfold maxLen; simp only [List.length_singleton]; omega) (by have := HB3.out.size; simp; omega) ?_); intro v5 w5 hm5 hg5 hat5; rw [← hst2.out] at hm5; have HM5 := Lib.hid hm5; have HG5 := Lib.hid hg5; clear hm5 hg5 hat5)
      go_roundg (t - f - (k + 1))
      case rel =>
        have hm5 := HM5.out
        obtain ⟨A5, c5, rfl, hc5⟩ := hm5.form
        have hlk : ((betweenE xs f t).take (k + 1)).length = k + 1 := by rw [List.length_take, HBL.out]; omega
        have hb5 : Below w2.heap.size w2 w5 := ((HB3.out.alloc HB3.out.size _).alloc (by have := HB3.out.size; simp; omega) _).grown HG5.out (by have := HB3.out.size; simp; omega) (fun q e => (HM3.out.lt q e).1)
        rw [hlk] at hm5 ⊢
        exact ⟨k + 1, A5, c5, pl + 1, by omega, by have := hpl.out; show _ = _; omega, by go_num, rfl, hm5, hb5⟩
      case measure => omega
    · have hple : pl = t + 1 := by have := hpl.out; omega
      subst hple
      have g1 : decide ((t : Int) + 1 ≤ (t : Int)) = false := decide_eq_false (by omega)
      have g2 : decide (((t + 1 : Nat) : Int) ≤ (t : Int)) = false := decide_eq_false (by omega)
      have hk : k = t - f := by omega
      have hall : (betweenE xs f t).take k = betweenE xs f t := List.take_of_length_le (by rw [HBL.out]; omega)
      rw [hall] at hmd
      have hkl : k = (betweenE xs f t).length := by rw [HBL.out]; exact hk
      have HKL := Lib.hid hkl
      clear hk hall hkl HR2 HRL HROW
      go_wp2_with fail
      go_ret2
      have hkk := HKL.out
      subst hkk
      exact ⟨A1, c1, rfl, hmd.out.base' HB2.out.size, HB2.out.trans (hbr.out.mono HB2.out.size)⟩
end Go.Proofs.Ytnfilklgogaheaa
