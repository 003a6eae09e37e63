/- Playing on: cells stay, results stay, what was written is counted. Plain lists. Conditions: none.
SameCells, SameResults of the plain package. Conditions: lengths are Go lengths.
OplogPlays answers true, whatever the arguments. Conditions: sizes within the form's own reach. -/
import Derived.Test.YtnfilklgogaheaaCells3
import Derived.Test.YtnfilklgogaheaaOpsOf
import Derived.Test.YtnfilklgogaheaaEq
import Derived.Test.YtnfilklgogaheaaApp
import Derived.Deep.QuietTactic
import Derived.BigQuiet
import Derived.Deep.LoopGhost
import Derived.Test.YtnfilklgogaheaaGrown
namespace Go.Proofs.Ytnfilklgogaheaa
set_option linter.unusedVariables false
set_option linter.unusedSimpArgs false
theorem sub_putC (cs : List Cell) (c : Cell) : cs.Sublist (putC cs c) := by
  induction cs with
  | nil => exact List.nil_sublist _
  | cons d ds ih =>
    unfold putC
    split
    · exact (List.Sublist.refl _).cons _
    · exact ih.cons_cons _
theorem sub_after (cs : List Cell) (o : Op) : cs.Sublist (after cs o) := by
  unfold after
  split
  · exact sub_putC _ _
  · exact List.Sublist.refl _
theorem sub_play (cs : List Cell) (os : List Op) : cs.Sublist (playC cs os) := by
  induction os generalizing cs with
  | nil => exact List.Sublist.refl _
  | cons o os ih => exact (sub_after cs o).trans (ih (after cs o))
theorem sub_take (os : List Op) {n m : Nat} (h : n ≤ m) : (playC [] (os.take n)).Sublist (playC [] (os.take m)) := by
  have e : os.take m = os.take n ++ (os.take m).drop n := by
    have := List.take_append_drop n (os.take m)
    rw [List.take_take, Nat.min_eq_left h] at this
    exact this.symm
  rw [e, playC_append]
  exact sub_play _ _
theorem res_take (os : List Op) {n m : Nat} (h : n ≤ m) (hm : m ≤ os.length) : (playR [] (os.take m)).take n = playR [] (os.take n) := by
  have e : os.take m = os.take n ++ (os.take m).drop n := by
    have := List.take_append_drop n (os.take m)
    rw [List.take_take, Nat.min_eq_left h] at this
    exact this.symm
  rw [e, playR_append]
  have hl : (playR [] (os.take n)).length = n := by rw [playR_length]; simp; omega
  generalize playR [] (os.take n) = rs at *
  subst hl
  exact List.take_left
def wrotes (rs : List Res) : Nat := (rs.filter fun r => r.code == 1).length
theorem wrotes_snoc (rs : List Res) (r : Res) : wrotes (rs ++ [r]) = wrotes rs + if r.code = 1 then 1 else 0 := by
  unfold wrotes
  rw [List.filter_append]
  by_cases h : r.code = 1 <;> simp [List.filter_cons, h]
theorem wrotes_play (cs : List Cell) (os : List Op) : (playC cs os).length = cs.length + wrotes (playR cs os) := by
  induction os generalizing cs with
  | nil => rfl
  | cons o os ih =>
    simp only [playC, playR]
    rw [ih]
    have e : wrotes (would cs o :: playR (after cs o) os) = (if (would cs o).code = 1 then 1 else 0) + wrotes (playR (after cs o) os) := by
      unfold wrotes
      rw [List.filter_cons]
      by_cases h : (would cs o).code = 1
      · simp [h]; omega
      · simp [h]
    rw [e]
    unfold after
    split
    · rw [putC_length]; omega
    · omega
/-- The two lists gone over side by side. -/
theorem side_eq {a c : List Cell} (hc : Rising c) {k i : Nat} (hs : (a.drop k).Sublist (c.drop i)) (hk : k < a.length) (hi : i < c.length) (he : a[k].slot = c[i].slot) : a[k] = c[i] ∧ (a.drop (k + 1)).Sublist (c.drop (i + 1)) := by
  rw [List.drop_eq_getElem_cons hk, List.drop_eq_getElem_cons hi] at hs
  have hr : Rising (c.drop i) := ⟨hc.sorted.sublist (List.drop_sublist _ _), fun d hd => hc.good d (List.mem_of_mem_drop hd)⟩
  rw [List.drop_eq_getElem_cons hi] at hr
  generalize a[k] = x at *
  generalize c[i] = y at *
  cases hs with
  | cons _ h =>
    have := (List.pairwise_cons.1 hr.sorted).1 _ (h.subset (List.mem_cons_self ..))
    omega
  | cons_cons _ h => exact ⟨rfl, h⟩
theorem side_ne {a c : List Cell} {k i : Nat} (hs : (a.drop k).Sublist (c.drop i)) (hi : i < c.length) (he : ∀ (hk : k < a.length), a[k].slot ≠ c[i].slot) : (a.drop k).Sublist (c.drop (i + 1)) := by
  by_cases hk : k < a.length
  · have h0 := he hk
    rw [List.drop_eq_getElem_cons hk, List.drop_eq_getElem_cons hi] at hs
    rw [List.drop_eq_getElem_cons hk]
    generalize hx : a[k] = x at *
    generalize hy : c[i] = y at *
    cases hs with
    | cons _ h => exact h
    | cons_cons _ h => exact absurd rfl h0
  · rw [List.drop_eq_nil_of_le (by omega)]
    exact List.nil_sublist _
theorem side_end {a c : List Cell} {k i : Nat} (hs : (a.drop k).Sublist (c.drop i)) (hi : c.length ≤ i) : a.length ≤ k := by
  rw [List.drop_eq_nil_of_le hi] at hs
  have := List.sublist_nil.1 hs
  have := congrArg List.length this
  simp at this
  omega
theorem opsOf_take (xs : List Entry) (k : Nat) : opsOf (xs.take k) = (opsOf xs).take k := by simp [opsOf, List.map_take]
end Go.Proofs.Ytnfilklgogaheaa

namespace Go.Proofs.Ytnfilklgogaheaa
open Go.RowKit
set_option linter.unusedVariables false
set_option linter.unusedSimpArgs false

set_option maxHeartbeats 400000 in
theorem sameCells (A B : Option Addr) (c d n m : Nat) (xs ys : List Cell) (hxn : n = xs.length) (hym : m = ys.length) (w : World) (hn : xs.length ≤ 9223372036854775807) (hm : ys.length ≤ 9223372036854775807) (ha : Rd Cell.cells 2 w w.heap.size A xs) (hb : Rd Cell.cells 2 w w.heap.size B ys) :
    Calls Try.prog 20 #[.slice A n c, .slice B m d] w fun e w' => e = .returned (.bool (decide (xs = ys))) ∧ ∃ q, w' = w.drewN q := by
  subst hxn; subst hym
  by_cases hl : xs.length = ys.length
  · have hq : ((xs.length : Int) == (ys.length : Int)) = true := by simp; omega
    have hq' : ((xs.length : Int) != (ys.length : Int)) = false := by simp; omega
    have hle : ys.length ≤ xs.length := by omega
    have HL := Lib.hid hl
    clear hl
    go_enter Try.func20, Try.ntmps20
    go_wp2
    go_loopw [5] (fun i wr => ∃ k : Nat, k ≤ xs.length ∧ i = .int .i64 k ∧ xs.take k = ys.take k ∧ ∃ q, wr = w.drewN q) (fun i _ => xs.length - (intOf i).toNat)
    case atStart => exact ⟨0, by omega, rfl, by simp, 0, rfl⟩
    case round =>
      obtain ⟨k, hk, rfl, hc, q, rfl⟩ := hrel
      have HC := Lib.hid hc
      clear hc
      by_cases h1 : k < xs.length
      · have h2 : k < ys.length := by have := HL.out; omega
        obtain ⟨ad, rfl, _, hca⟩ := ha.at_ h1
        obtain ⟨bd, rfl, _, hcb⟩ := hb.at_ h2
        have g1 : (k:Int) < (xs.length : Int) := by omega
        have g2 : (k:Int) < (ys.length : Int) := by omega
        obtain ⟨c0, c1⟩ := hca.two
        obtain ⟨d0, d1⟩ := hcb.two
        clear hca hcb ha hb
        have he := neq_cell xs[k] ys[k]
        have hg := guard_cell
        by_cases hxy : xs[k] = ys[k]
        · have hd : decide (xs[k] = ys[k]) = true := by simpa using hxy
          have hs : Hid (xs.take (k + 1) = ys.take (k + 1)) := by
            rw [List.take_succ_eq_append_getElem h1, List.take_succ_eq_append_getElem h2, HC.out, hxy]
            exact rfl
          rw [hd] at he
          clear hxy hd
          generalize xs[k] = x at *
          generalize ys[k] = y at *
          go_wp2_with fail
          go_quiet (fail)
          go_wp2
          go_roundw
          case rel => exact ⟨k + 1, by omega, by go_num, hs.out, (by first | exact ⟨_, rfl⟩ | exact drawn2 _ _ _)⟩
          case measure => simp [intOf]; omega
        · have hd : decide (xs[k] = ys[k]) = false := by simpa using hxy
          have hs : Hid (¬ xs = ys) := fun e => hxy (by subst e; rfl)
          rw [hd] at he
          clear hxy hd
          generalize xs[k] = x at *
          generalize ys[k] = y at *
          go_wp2_with fail
          go_quiet (fail)
          go_wp2
          go_ret
          exact ⟨ret_bool' (by simpa using hs.out), (by first | exact ⟨_, rfl⟩ | exact drawn2 _ _ _)⟩
      · have g2 : decide ((k:Int) < (xs.length : Int)) = false := by simp; omega
        have hs : Hid (xs = ys) := by
          have h3 := HC.out
          rwa [List.take_of_length_le (by omega), List.take_of_length_le (by have := HL.out; omega)] at h3
        clear ha hb
        go_wp2
        go_ret
        exact ⟨ret_bool' (by simpa using hs.out), _, rfl⟩
  · have hq : ((xs.length : Int) == (ys.length : Int)) = false := by simp; omega
    have hq' : ((xs.length : Int) != (ys.length : Int)) = true := by simp; omega
    have hs : Hid (¬ xs = ys) := fun e => hl (by rw [e])
    clear hl ha hb
    go_enter Try.func20, Try.ntmps20
    go_wp2
    go_ret
    exact ⟨ret_bool' (by simpa using hs.out), 0, rfl⟩
theorem sameCellsTrue (A B : Option Addr) (c d n : Nat) (xs : List Cell) (hxn : n = xs.length) (w : World) (hn : xs.length ≤ 9223372036854775807) (ha : Rd Cell.cells 2 w w.heap.size A xs) (hb : Rd Cell.cells 2 w w.heap.size B xs) :
    Calls Try.prog 20 #[.slice A n c, .slice B n d] w fun e w' => e = .returned (.bool true) ∧ ∃ q, w' = w.drewN q :=
  (sameCells A B c d n n xs xs hxn hxn w hn hn ha hb).mono fun _ _ ⟨he, hw⟩ => ⟨by rw [he]; simp, hw⟩
set_option maxHeartbeats 400000 in
theorem sameResults (A B : Option Addr) (c d n m : Nat) (xs ys : List Res) (hxn : n = xs.length) (hym : m = ys.length) (w : World) (hn : xs.length ≤ 9223372036854775807) (hm : ys.length ≤ 9223372036854775807) (ha : Rd Res.cells 3 w w.heap.size A xs) (hb : Rd Res.cells 3 w w.heap.size B ys) :
    Calls Try.prog 21 #[.slice A n c, .slice B m d] w fun e w' => e = .returned (.bool (decide (xs = ys))) ∧ ∃ q, w' = w.drewN q := by
  subst hxn; subst hym
  by_cases hl : xs.length = ys.length
  · have hq : ((xs.length : Int) == (ys.length : Int)) = true := by simp; omega
    have hq' : ((xs.length : Int) != (ys.length : Int)) = false := by simp; omega
    have hle : ys.length ≤ xs.length := by omega
    have HL := Lib.hid hl
    clear hl
    go_enter Try.func21, Try.ntmps21
    go_wp2
    go_loopw [5] (fun i wr => ∃ k : Nat, k ≤ xs.length ∧ i = .int .i64 k ∧ xs.take k = ys.take k ∧ ∃ q, wr = w.drewN q) (fun i _ => xs.length - (intOf i).toNat)
    case atStart => exact ⟨0, by omega, rfl, by simp, 0, rfl⟩
    case round =>
      obtain ⟨k, hk, rfl, hc, q, rfl⟩ := hrel
      have HC := Lib.hid hc
      clear hc
      by_cases h1 : k < xs.length
      · have h2 : k < ys.length := by have := HL.out; omega
        obtain ⟨ad, rfl, _, hca⟩ := ha.at_ h1
        obtain ⟨bd, rfl, _, hcb⟩ := hb.at_ h2
        have g1 : (k:Int) < (xs.length : Int) := by omega
        have g2 : (k:Int) < (ys.length : Int) := by omega
        obtain ⟨c0, c1, c2⟩ := hca.three
        obtain ⟨d0, d1, d2⟩ := hcb.three
        clear hca hcb ha hb
        have he := neq_res xs[k] ys[k]
        have hg := guard_res
        by_cases hxy : xs[k] = ys[k]
        · have hd : decide (xs[k] = ys[k]) = true := by simpa using hxy
          have hs : Hid (xs.take (k + 1) = ys.take (k + 1)) := by
            rw [List.take_succ_eq_append_getElem h1, List.take_succ_eq_append_getElem h2, HC.out, hxy]
            exact rfl
          rw [hd] at he
          clear hxy hd
          generalize xs[k] = x at *
          generalize ys[k] = y at *
          go_wp2_with fail
          go_quiet (fail)
          go_wp2
          go_roundw
          case rel => exact ⟨k + 1, by omega, by go_num, hs.out, (by first | exact ⟨_, rfl⟩ | exact drawn2 _ _ _)⟩
          case measure => simp [intOf]; omega
        · have hd : decide (xs[k] = ys[k]) = false := by simpa using hxy
          have hs : Hid (¬ xs = ys) := fun e => hxy (by subst e; rfl)
          rw [hd] at he
          clear hxy hd
          generalize xs[k] = x at *
          generalize ys[k] = y at *
          go_wp2_with fail
          go_quiet (fail)
          go_wp2
          go_ret
          exact ⟨ret_bool' (by simpa using hs.out), (by first | exact ⟨_, rfl⟩ | exact drawn2 _ _ _)⟩
      · have g2 : decide ((k:Int) < (xs.length : Int)) = false := by simp; omega
        have hs : Hid (xs = ys) := by
          have h3 := HC.out
          rwa [List.take_of_length_le (by omega), List.take_of_length_le (by have := HL.out; omega)] at h3
        clear ha hb
        go_wp2
        go_ret
        exact ⟨ret_bool' (by simpa using hs.out), _, rfl⟩
  · have hq : ((xs.length : Int) == (ys.length : Int)) = false := by simp; omega
    have hq' : ((xs.length : Int) != (ys.length : Int)) = true := by simp; omega
    have hs : Hid (¬ xs = ys) := fun e => hl (by rw [e])
    clear hl ha hb
    go_enter Try.func21, Try.ntmps21
    go_wp2
    go_ret
    exact ⟨ret_bool' (by simpa using hs.out), 0, rfl⟩
theorem sameResultsTrue (A B : Option Addr) (c d n : Nat) (xs : List Res) (hxn : n = xs.length) (w : World) (hn : xs.length ≤ 9223372036854775807) (ha : Rd Res.cells 3 w w.heap.size A xs) (hb : Rd Res.cells 3 w w.heap.size B xs) :
    Calls Try.prog 21 #[.slice A n c, .slice B n d] w fun e w' => e = .returned (.bool true) ∧ ∃ q, w' = w.drewN q :=
  (sameResults A B c d n n xs xs hxn hxn w hn hn ha hb).mono fun _ _ ⟨he, hw⟩ => ⟨by rw [he]; simp, hw⟩
end Go.Proofs.Ytnfilklgogaheaa

namespace Go.Proofs.Ytnfilklgogaheaa
open Go.RowKit Go.Deep
set_option linter.unusedVariables false
set_option linter.unusedSimpArgs false

set_option maxRecDepth 100000 in
set_option maxHeartbeats 8000000 in
theorem plays6_calls (A : Option Addr) (c n : Nat) (rs : List Raw) (x y : Int) (hx : I64 x) (hy : I64 y) (hn : n = rs.length) (w : World) (hl : rs.length ≤ 9223372036854775806) (hw : ∀ r ∈ rs, r.wf) (ha : Rd Raw.cells 5 w w.heap.size A rs) :
    Calls Try.prog 5 #[.slice A n c, .int .i64 x, .int .i64 y] w fun e w' => e = .returned (.bool true) ∧ Below w.heap.size w w' := by
  subst hn
  have HGR := Lib.hid (grown_calls A c rs.length rs 256 rfl (by omega) (by omega) w hl hw ha)
  have HX := Lib.hid hx
  have HY := Lib.hid hy
  clear ha hw hl hx hy
  go_enter Try.func5, Try.ntmps5
  go_wp2_with fail
  refine HGR.out.mono ?_
  rintro e w1 ⟨v1, rfl, ⟨l, hm1, hg, hlen, _⟩, hb1⟩
  obtain ⟨A1, c1, rfl, hc1⟩ := hm1.form
  have HV : Hid (∀ o ∈ opsOf l, o.value.size ≤ 9223372036854775807) := fun o ho => by
    obtain ⟨e, he, rfl⟩ := List.mem_map.1 ho
    exact hg.vals e he
  have HVE := Lib.hid hg.vals
  have HR1 := Lib.hid (hm1.rd' encEntry.len)
  have HB1 := Lib.hid hb1
  clear hm1 hb1 hg HGR
  dsimp only
  go_wp2_with fail
  refine (works06 w1).mono ?_
  rintro e w2 ⟨rfl, hb2⟩
  have HR2 := Lib.hid ((HR1.out.below hb2).more hb2.size)
  have HB2 := Lib.hid (HB1.out.trans (hb2.mono HB1.out.size))
  clear hb2 HR1 HB1
  dsimp only
  go_wp2_with fail
  have h0 : 0 ≤ x % ((l.length : Int) + 1) := Int.emod_nonneg _ (by omega)
  have h1 : x % ((l.length : Int) + 1) < (l.length : Int) + 1 := Int.emod_lt_of_pos _ (by omega)
  obtain ⟨p, hp⟩ : ∃ p : Nat, x % ((l.length : Int) + 1) = (p : Int) := ⟨(x % ((l.length : Int) + 1)).toNat, by omega⟩
  have hpl : (p : Int) ≤ (l.length : Int) := by omega
  have HW1 := Lib.hid (within_calls x l.length HX.out (by omega) (by omega) w2)
  rw [hp] at HW1
  clear h0 h1 hp
  refine HW1.out.mono ?_
  rintro e w' ⟨rfl, hw'⟩
  rw [hw']
  clear hw' w' HW1
  dsimp only
  go_wp2_with fail
  obtain ⟨N, hN⟩ : ∃ N : Nat, (l.length : Int) - (p : Int) = (N : Int) := ⟨((l.length : Int) - (p : Int)).toNat, by omega⟩
  rw [hN]
  have h0 : 0 ≤ y % ((N : Int) + 1) := Int.emod_nonneg _ (by omega)
  have h1 : y % ((N : Int) + 1) < (N : Int) + 1 := Int.emod_lt_of_pos _ (by omega)
  obtain ⟨q, hq⟩ : ∃ q : Nat, y % ((N : Int) + 1) = (q : Int) := ⟨(y % ((N : Int) + 1)).toNat, by omega⟩
  have HW2 := Lib.hid (within_calls y N HY.out (by omega) (by omega) w2)
  rw [hq] at HW2
  obtain ⟨m, hm⟩ : ∃ m : Nat, (p : Int) + (q : Int) = (m : Int) := ⟨p + q, by omega⟩
  have hpm : p ≤ m := by omega
  have hml : m ≤ l.length := by omega
  have hql : (q : Int) ≤ 256 := by omega
  have hpl2 : (p : Int) ≤ 256 := by omega
  have HM := Lib.hid hm
  have HPM := Lib.hid (And.intro hpm hml)
  have HLN := Lib.hid hlen
  clear h0 h1 hq hN hm hpm hml hpl
  refine HW2.out.mono ?_
  rintro e w' ⟨rfl, hw'⟩
  rw [hw']
  clear hw' w' HW2
  dsimp only
  go_wp2_with fail
  rw [HM.out]
  clear hql hpl2
  have HB := Lib.hid (show (l.length + 1) * 48 ≤ 140737488355328 by have := HLN.out; omega)
  have HP1 := Lib.hid (replay6_prog A1 c1 l.length l p rfl (by have := HPM.out; omega) (by omega) w2 HB.out HVE.out HR2.out)
  have HSUB := Lib.hid (sub_take (opsOf l) HPM.out.1)
  have HRES := Lib.hid (res_take (opsOf l) HPM.out.1 (by rw [opsOf_length]; exact HPM.out.2))
  have HWR := Lib.hid (wrotes_play [] ((opsOf l).take m))
  have HRI := Lib.hid (playC_rising (os := (opsOf l).take m) Rising.nil)
  have HLb : Hid ((playR [] ((opsOf l).take p)).length = p) := by show _ = _; rw [playR_length]; simp [opsOf_length]; have := HPM.out; omega
  have HLd : Hid ((playR [] ((opsOf l).take m)).length = m) := by show _ = _; rw [playR_length]; simp [opsOf_length]; have := HPM.out; omega
  have HP2 := Lib.hid (fun W (hW : Below w2.heap.size w2 W) => replay6_prog A1 c1 l.length l m rfl HPM.out.2 (by omega) W HB.out HVE.out ((HR2.out.below hW).more hW.size))
  simp only [opsOf_take] at HP1 HP2
  unfold ReplayPost2 at HP1 HP2
  generalize playC [] ((opsOf l).take p) = ca at *
  generalize playR [] ((opsOf l).take p) = ra at *
  generalize playC [] ((opsOf l).take m) = cb at *
  generalize playR [] ((opsOf l).take m) = rb at *
  have hla := HLb.out
  have hld := HLd.out
  rw [hla] at HP1
  simp only [hld] at HP2
  clear hla hld HR2
  refine HP1.out.mono ?_
  rintro e w3 ⟨A3, c3, A4, c4, rfl, hm3, hm4, hb3⟩
  have HB3 := Lib.hid (HB2.out.trans (hb3.mono HB2.out.size))
  have HR3 := Lib.hid (hm3.rd' encCell.len)
  have HR4 := Lib.hid (hm4.rd' encRes.len)
  have HN3 := Lib.hid (HP2.out w3 hb3)
  clear hm3 hm4 hb3 HP1 HP2
  dsimp only
  go_wp2_with fail
  refine HN3.out.mono ?_
  rintro e w4 ⟨A5, c5, A6, c6, rfl, hm5, hm6, hb4⟩
  have HB4 := Lib.hid (HB3.out.trans (hb4.mono HB3.out.size))
  have HR5 := Lib.hid (hm5.rd' encCell.len)
  have HR6 := Lib.hid (hm6.rd' encRes.len)
  have HR3' := Lib.hid ((HR3.out.below hb4).more hb4.size)
  have hbeg : Rd Res.cells 3 w4 w4.heap.size A6 ra := by
    have := HR6.out.take p
    rwa [HRES.out] at this
  have HSR := Lib.hid (sameResultsTrue A6 A4 c6 c4 p ra HLb.out.symm w4 (by have := HLb.out; have := HPM.out; omega) hbeg ((HR4.out.below hb4).more hb4.size))
  obtain ⟨A6', c6', he6, hc6⟩ := hm6.form
  have hmc : m ≤ c6 := by injection he6 with e1 e2 e3; have := HLd.out; omega
  have hpc : p ≤ c6 := by have := HPM.out; omega
  clear hm5 hm6 hb4 hbeg HN3 HR3 HR4 he6 hc6
  dsimp only
  go_wp2_with fail
  refine HSR.out.mono ?_
  rintro e w' ⟨rfl, q6, rfl⟩
  clear HSR
  dsimp only
  go_wp2_with fail
  have hcb := rising_length HRI.out
  have hca : ca.length ≤ 1024 := Nat.le_trans HSUB.out.length_le hcb
  go_loopw [15, 16] (fun x y wr => ∃ (k i : Nat), k ≤ ca.length ∧ i ≤ cb.length ∧ x = .int .i64 k ∧ y = .int .i64 i ∧ Hid ((ca.drop k).Sublist (cb.drop i)) ∧ ∃ q, wr = w4.drewN q) (fun _ y _ => cb.length - (intOf y).toNat)
  case atStart => exact ⟨0, 0, by omega, by omega, rfl, rfl, by show List.Sublist _ _; simpa using HSUB.out, q6, rfl⟩
  case round =>
    obtain ⟨k, i, hk, hi, rfl, rfl, hsub, q, rfl⟩ := hrel
    by_cases h1 : i < cb.length
    · obtain ⟨ad, hAd, _, hcc⟩ := HR5.out.at_ h1
      subst hAd
      obtain ⟨c0, cc1⟩ := hcc.two
      have g1 : (i:Int) < (cb.length : Int) := by omega
      clear hcc
      by_cases h2 : k < ca.length
      · obtain ⟨ae, hAe, _, hce⟩ := HR3'.out.at_ h2
        subst hAe
        obtain ⟨d0, dd1⟩ := hce.two
        have g2 : (k:Int) < (ca.length : Int) := by omega
        clear hce
        by_cases h3 : ca[k].slot = cb[i].slot
        · obtain ⟨hcell, hnext⟩ := side_eq HRI.out hsub.out h2 h1 h3
          have HNX := Lib.hid hnext
          have hne := neq_cell cb[i] cb[i]
          simp only [decide_true, Bool.not_true] at hne
          have hgc := guard_cell
          rw [hcell] at d0 dd1
          clear h3 hcell hnext hsub
          generalize cb[i] = z at *
          go_wp2_with fail
          go_quiet (fail)
          go_wp2_with fail
          go_quiet (fail)
          go_wp2_with fail
          go_roundw
          case rel => exact ⟨k + 1, i + 1, by omega, by omega, by go_num, by go_num, HNX.out, (by first | exact ⟨_, rfl⟩ | exact drawn2 _ _ _ | exact ⟨_, by rw [World.drewN_drewN, World.drewN_drewN]⟩)⟩
          case measure => simp [intOf]; omega
        · have HNX := Lib.hid (side_ne hsub.out h1 (fun _ => h3))
          have h3' : (ca[k].slot == cb[i].slot) = false := by simpa using h3
          clear h3 hsub dd1 cc1
          generalize ca[k] = z at *
          generalize cb[i] = z' at *
          go_wp2_with fail
          go_quiet (fail)
          go_wp2_with fail
          go_roundw
          case rel => exact ⟨k, i + 1, by omega, by omega, rfl, by go_num, HNX.out, (by first | exact ⟨_, rfl⟩ | exact drawn2 _ _ _)⟩
          case measure => simp [intOf]; omega
      · have HNX := Lib.hid (side_ne hsub.out h1 (fun h => absurd h h2))
        have g2 : decide ((k:Int) < (ca.length : Int)) = false := by simp; omega
        have g3 : decide (k < ca.length) = false := by simp; omega
        clear hsub
        generalize cb[i] = z at *
        go_wp2_with fail
        go_quiet (fail)
        go_wp2_with fail
        go_roundw
        case rel => exact ⟨k, i + 1, by omega, by omega, rfl, by go_num, HNX.out, (by first | exact ⟨_, rfl⟩ | exact drawn2 _ _ _)⟩
        case measure => simp [intOf]; omega
    · have g1 : decide ((i:Int) < (cb.length : Int)) = false := by simp; omega
      have g2 : decide (i < cb.length) = false := by simp; omega
      have hke := side_end hsub.out (by omega)
      obtain rfl : k = ca.length := by omega
      have hmr : m ≤ 256 := by have := HPM.out; have := HLN.out; omega
      have HLD := Lib.hid HLb
      clear hsub hke h1 hk HSUB HRES
      go_wp2_with fail
      go_loopw [17, 18] (fun x y wr => ∃ (j : Nat), j ≤ m ∧ y = .int .i64 j ∧ x = .int .i64 (wrotes (rb.take j)) ∧ wr = w4.drewN q) (fun _ y _ => m - (intOf y).toNat)
      case atStart => exact ⟨0, by omega, rfl, rfl, rfl⟩
      case round =>
        obtain ⟨j, hj, rfl, rfl, rfl⟩ := hrel
        have hwb : wrotes (rb.take j) ≤ j := by
          unfold wrotes
          exact Nat.le_trans (List.length_filter_le _ _) (by simp; omega)
        by_cases h2 : j < m
        · have hjr : j < rb.length := by have := HLd.out; omega
          obtain ⟨ad, hAd, _, hcc⟩ := HR6.out.at_ hjr
          subst hAd
          obtain ⟨c0, cc1, cc2⟩ := hcc.three
          have g3 : (j:Int) < (m : Int) := by omega
          have hsn := wrotes_snoc (rb.take j) rb[j]
          rw [← List.take_succ_eq_append_getElem hjr] at hsn
          have HSN := Lib.hid hsn
          clear hcc hsn
          generalize rb[j] = r at *
          generalize wrotes (rb.take j) = W at *
          by_cases h3 : r.code = 1
          · have h3' : (r.code == 1) = true := by simpa using h3
            have HS2 : Hid (wrotes (rb.take (j + 1)) = W + 1) := by show _ = _; rw [HSN.out, if_pos h3]
            clear h3 HSN
            go_wp2_with fail
            go_roundw
            case rel => exact ⟨j + 1, by omega, by go_num, by rw [HS2.out]; go_num, by first | rfl | trivial⟩
            case measure => simp [intOf]; omega
          · have h3' : (r.code == 1) = false := by simpa using h3
            have HS2 : Hid (wrotes (rb.take (j + 1)) = W) := by show _ = _; rw [HSN.out, if_neg h3]; rfl
            clear h3 HSN
            go_wp2_with fail
            go_roundw
            case rel => exact ⟨j + 1, by omega, by go_num, by rw [HS2.out], by first | rfl | trivial⟩
            case measure => simp [intOf]; omega
        · have g3 : decide ((j:Int) < (m : Int)) = false := by simp; omega
          have g4 : decide (j < m) = false := by simp; omega
          have he : cb.length = wrotes (rb.take j) := by
            have h3 := HLd.out
            have h4 := HWR.out
            rw [List.take_of_length_le (by omega)]
            simpa using h4
          clear HLd HWR HR6 HR5 HR3' HRI
          go_wp2_with fail
          go_ret
          exact ⟨ret_bool' (by simp [he]), below_drewN HB4.out _⟩

theorem plays6_law (W : World) (A : Option Addr) (c n : Nat) (xs : List Raw) (hn : n = xs.length) (_ : n ≤ c) (hrd : Rd Raw.cells 5 W W.heap.size A xs) (hwf : ∀ o ∈ xs, o.wf) (hsz : xs.length * 48 ≤ 140737488351232) (x : Int) (hx : I64 x) (y : Int) (hy : I64 y) :
    Calls Try.prog 5 #[.slice A n c, .int .i64 x, .int .i64 y] W fun e w' => e = .returned (.bool true) ∧ Below W.heap.size W w' :=
  plays6_calls A c n xs x y hx hy hn W (by omega) hwf hrd
end Go.Proofs.Ytnfilklgogaheaa
