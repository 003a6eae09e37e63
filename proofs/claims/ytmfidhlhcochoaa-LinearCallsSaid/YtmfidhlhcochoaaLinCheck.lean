/- linear.Check answers checkL. Conditions: Go lengths. -/
import Derived.Test.YtmfidhlhcochoaaLinM1
import Derived.Test.YtmfidhlhcochoaaLedCells
namespace Go.Proofs.Ytmfidhlhcochoaa
open Go.RowKit
set_option linter.unusedVariables false
set_option linter.unusedSimpArgs false

def keyOf (x : Call) : Int × Int := (x.client, x.number)
theorem sameKey_eq (x y : Call) : sameKey x y = decide (keyOf x = keyOf y) := by
  rw [Bool.eq_iff_iff]; simp [sameKey, keyOf]
/-- The map tells the keys of the first k calls. -/
structure Have (ps : List ((Int × Int) × Int)) (l : List Call) (k : Nat) : Prop where
  yes : ∀ q v, lookK ps q = some v → 0 < v ∧ ∃ j, ∃ (h : j < l.length), j < k ∧ keyOf l[j] = q ∧ v = (j:Int) + 1
  no : ∀ q, lookK ps q = none → ∀ j (h : j < l.length), j < k → keyOf l[j] ≠ q
theorem Have.nil (l : List Call) : Have [] l 0 := ⟨fun q v h => by simp [lookK] at h, fun q _ j h hj => absurd hj (Nat.not_lt_zero j)⟩
theorem Have.snoc {ps : List ((Int × Int) × Int)} {l : List Call} {k : Nat} (h : Have ps l k) (hk : k < l.length) : Have (setK ps (keyOf l[k]) ((k:Int) + 1)) l (k + 1) := by
  refine ⟨fun q v hv => ?_, fun q hq j hj hjk => ?_⟩
  · rw [lookK_setK] at hv
    by_cases e : keyOf l[k] = q
    · rw [if_pos e] at hv
      injection hv with hv
      exact ⟨by omega, k, hk, by omega, e, hv.symm⟩
    · rw [if_neg e] at hv
      obtain ⟨h1, j, h2, h3, h4⟩ := h.yes q v hv
      exact ⟨h1, j, h2, by omega, h4⟩
  · rw [lookK_setK] at hq
    by_cases e : keyOf l[k] = q
    · rw [if_pos e] at hq; cases hq
    · rw [if_neg e] at hq
      by_cases ej : j = k
      · subst ej; exact e
      · exact h.no q hq j hj (by omega)
theorem check_bad {l : List Call} {k : Nat} (h : k < l.length) (hb : goodC l[k] = false ∨ ∃ j, ∃ (hj : j < k), sameKey l[j] l[k] = true) : checkL l = 180 := by
  unfold checkL
  rw [if_neg]
  intro hg
  obtain ⟨h1, h2⟩ := hg k h
  rcases hb with hb | ⟨j, hj, hb⟩
  · rw [h1] at hb; cases hb
  · rw [h2 j hj] at hb; cases hb
theorem check_good {l : List Call} (h : GoodL l) : checkL l = 0 := if_pos h
/-- The first k calls may be a history. -/
def GoodK (l : List Call) (k : Nat) : Prop := ∀ i (h : i < l.length), i < k → goodC l[i] = true ∧ ∀ j (hj : j < i), sameKey l[j] l[i] = false
theorem GoodK.snoc {l : List Call} {k : Nat} (h : GoodK l k) (hk : k < l.length) (hg : goodC l[k] = true) (hn : ∀ j (hj : j < k), sameKey l[j] l[k] = false) : GoodK l (k + 1) := fun i hi hik => by
  by_cases e : i = k
  · subst e; exact ⟨hg, hn⟩
  · exact h i hi (by omega)
/-- Two blocks laid in a row, told cell by cell behind what kept them. -/
theorem two_boxes {wr w2 : World} {a b : Array Value} {T U : TypeId} (hb : Below ((wr.alloc (.cells a T)).alloc (.cells b U)).heap.size ((wr.alloc (.cells a T)).alloc (.cells b U)) w2) : w2.heap[wr.heap.size]? = some (.cells a T (0, 0)) ∧ w2.heap[wr.heap.size + 1]? = some (.cells b U (0, 0)) :=
  ⟨(hb.block _ (by simp; omega)).trans ((heap_alloc_old _ _ (by simp)).trans (heap_alloc_new _ _)), (hb.block _ (by simp)).trans (heap_alloc2_new _ _ _)⟩

set_option maxRecDepth 100000 in
set_option maxHeartbeats 4000000 in
theorem linCheck (A : Option Addr) (c n : Nat) (l : List Call) (hn : n = l.length) (w : World) (hl : l.length ≤ 9223372036854775806) (hv : ∀ x ∈ l, x.op.value.size ≤ 9223372036854775807) (ha : Rd Call.cells 10 w w.heap.size A l) :
    Calls Try.prog 20 #[.slice A n c] w fun e w' => e = .returned (.int .i64 (checkL l)) ∧ Below w.heap.size w w' := by
  subst hn
  obtain ⟨r, hr⟩ : ∃ r, r = checkL l := ⟨_, rfl⟩
  rw [← hr]
  have HA := Lib.hid ha
  have HR := Lib.hid hr
  have HV := Lib.hid hv
  clear ha hr hv
  have hmm := @run_makeMap Try.prog
  go_enter Try.func20, Try.ntmps20
  go_wp2_with fail
  have hm0 : MapK ekReq evInt (w.alloc (.map #[] 0)) w.heap.size ([] : List ((Int × Int) × Int)) := MapK.new w
  have hb0 : Below w.heap.size w (w.alloc (.map #[] 0)) := (Below.refl _ _).alloc (Nat.le_refl _) _
  have HM0 := Lib.hid hm0
  have HB0 := Lib.hid hb0
  clear hm0 hb0
  go_loopw [10] (fun i wr => ∃ k : Nat, ∃ ps : List ((Int × Int) × Int), k ≤ l.length ∧ i = .int .i64 k ∧ Hid (GoodK l k) ∧ Hid (Have ps l k) ∧ Hid (MapK ekReq evInt wr w.heap.size ps) ∧ Hid (Below w.heap.size w wr)) (fun i _ => l.length - (intOf i).toNat)
  case atStart => exact ⟨0, [], by omega, rfl, fun i h hi => absurd hi (Nat.not_lt_zero i), Have.nil l, HM0.out, HB0.out⟩
  case round =>
    obtain ⟨k, ps, hk, rfl, hgk, hhv, hmk, hbr⟩ := hrel
    by_cases h1 : k < l.length
    · obtain ⟨ad, hA, hal, hca⟩ := (HA.out.below hbr.out).at_ h1
      have g1 : (k:Int) < (l.length : Int) := by omega
      have i2 : (0:Int) ≤ (k:Int) := by omega
      have k1 : IntKind.i64.wrap ((k:Int) + 1) = (k:Int) + 1 := IntWalk.i64_in _ (by omega)
      obtain ⟨c0, c1, c2, c3, c4, c5, c6, c7, c8, c9⟩ := hca.call
      have hvk := HV.out _ (List.getElem_mem h1)
      have HBAD : Hid ((goodC l[k] = false ∨ ∃ j, ∃ (hj : j < k), sameKey l[j] l[k] = true) → r = 180) := fun h => HR.out.trans (check_bad h1 h)
      have HGOOD : Hid (goodC l[k] = true → lookK ps (keyOf l[k]) = none → GoodK l (k + 1)) := fun hg hnone => hgk.out.snoc h1 hg fun j hj => by
        rw [sameKey_eq]; exact decide_eq_false (hhv.out.no _ hnone j (by omega) hj)
      have HHAVE : Hid (Have (setK ps (keyOf l[k]) ((k:Int) + 1)) l (k + 1)) := hhv.out.snoc h1
      have HDUP : Hid (∀ v, lookK ps (keyOf l[k]) = some v → 0 < v ∧ ∃ j, ∃ (hj : j < k), sameKey l[j] l[k] = true) := fun v hv => by
        obtain ⟨h2, j, h3, h4, h5, _⟩ := hhv.out.yes _ v hv
        exact ⟨h2, j, h4, by rw [sameKey_eq]; exact decide_eq_true h5⟩
      subst hA
      clear hca hgk hhv
      generalize l[k] = x at *
      go_wp2_with fail
      obtain ⟨W1, hW1⟩ : ∃ W1, W1 = (wr.alloc (.cells #[.int .i64 x.client, .int .i64 x.number, .int .i64 x.op.kind, .int .i64 x.op.slot, .string x.op.value, .int .i64 x.beg, .int .i64 x.fin, .int .i64 x.res.code, .int .i64 x.res.slot, .string x.res.value] 45)).alloc (.cells #[.int .i64 x.client, .int .i64 x.number] 110) := ⟨_, rfl⟩
      rw [← hW1]
      refine (may_prog x.client x.number x.op hvk W1).mono ?_
      rintro e w2 ⟨rfl, hb2⟩
      obtain ⟨ha2, hk2⟩ := two_boxes (by rw [hW1] at hb2; exact hb2)
      have hbw1 : Below wr.heap.size wr W1 := by rw [hW1]; exact ((Below.refl _ _).alloc (Nat.le_refl _) _).alloc (by simp) _
      have hbw2 : Below wr.heap.size wr w2 := hbw1.trans (hb2.mono hbw1.size)
      have hs1 : W1.heap.size = wr.heap.size + 2 := by rw [hW1]; simp
      have HK2 := Lib.hid hk2
      have HA2 := Lib.hid ha2
      have hbf := hbr.out.trans (hbw2.mono hbr.out.size)
      have HBF := Lib.hid hbf
      have HS2 : Hid (wr.heap.size + 2 ≤ w2.heap.size) := by show _ ≤ _; have := hb2.size; omega
      have hmw : w.heap.size < wr.heap.size := hmk.out.lt
      have hmk2 : MapK ekReq evInt w2 w.heap.size ps := hmk.out.same (hbw2.block _ hmw)
      have HMK2 := Lib.hid hmk2
      have hlk := hmk2.lookup keyReq Try.underlying108 (zeroI w2) (x.client, x.number)
      have d0 : w2.cell? ⟨wr.heap.size, 0, none⟩ = some (.int .i64 x.client) := cell_of_row _ _ 0 _ _ _ ha2
      have d1 : w2.cell? ⟨wr.heap.size, 1, none⟩ = some (.int .i64 x.number) := cell_of_row _ _ 1 _ _ _ ha2
      have d5 : w2.cell? ⟨wr.heap.size, 5, none⟩ = some (.int .i64 x.beg) := cell_of_row _ _ 5 _ _ _ ha2
      have d6 : w2.cell? ⟨wr.heap.size, 6, none⟩ = some (.int .i64 x.fin) := cell_of_row _ _ 6 _ _ _ ha2
      have d7 : w2.cell? ⟨wr.heap.size, 7, none⟩ = some (.int .i64 x.res.code) := cell_of_row _ _ 7 _ _ _ ha2
      have d8 : w2.cell? ⟨wr.heap.size, 8, none⟩ = some (.int .i64 x.res.slot) := cell_of_row _ _ 8 _ _ _ ha2
      have d9 : w2.cell? ⟨wr.heap.size, 9, none⟩ = some (.string x.res.value) := cell_of_row _ _ 9 _ _ _ ha2
      have e0 : w2.cell? ⟨wr.heap.size + 1, 0, none⟩ = some (.int .i64 x.client) := cell_of_row _ _ 0 _ _ _ hk2
      have e1 : w2.cell? ⟨wr.heap.size + 1, 1, none⟩ = some (.int .i64 x.number) := cell_of_row _ _ 1 _ _ _ hk2
      clear hbw1 hbw2 hb2 ha2 hk2 hmk hbr hW1 hs1 hbf c0 c1 c2 c3 c4 c5 c6 c7 c8 c9
      clear hmk2
      cases hmay : mayC x.client x.number x.op
      · obtain rfl : r = 180 := HBAD.out (.inl (by simp [goodC, hmay]))
        clear HBAD HGOOD HDUP HHAVE hlk
        dsimp only
        go_wp2_with fail
        go_ret
        exact ⟨rfl, HBF.out⟩
      · by_cases hbeg : x.beg < 0
        · have hbeg2 : decide (x.beg < 0) = true := decide_eq_true hbeg
          obtain rfl : r = 180 := HBAD.out (.inl (by
            have : decide (0 ≤ x.beg) = false := decide_eq_false (by omega)
            simp only [goodC, hmay, this]; rfl))
          clear HBAD HGOOD HDUP HHAVE hlk hmay
          dsimp only
          go_wp2_with fail
          go_ret
          exact ⟨rfl, HBF.out⟩
        · have hbeg2 : decide (x.beg < 0) = false := decide_eq_false hbeg
          have HBEG : Hid (decide (0 ≤ x.beg) = true) := decide_eq_true (by omega)
          cases hlo : lookK ps (x.client, x.number) with
          | some v =>
            obtain ⟨hv0, hdup⟩ := HDUP.out v hlo
            rw [hlo] at hlk
            simp only [Option.map_some, Option.getD_some, evInt, ekReq] at hlk
            obtain rfl : r = 180 := HBAD.out (.inr hdup)
            have hv1 : decide (0 < v) = true := decide_eq_true hv0
            clear HBAD HGOOD HDUP HHAVE hmay hdup hlo
            dsimp only
            go_wp2_with fail
            go_ret
            exact ⟨rfl, HBF.out⟩
          | none =>
            rw [hlo] at hlk
            simp only [Option.map_none, Option.getD_none, ekReq] at hlk
            have HLO := Lib.hid hlo
            have hgd : goodC x = (if x.fin = -1 then decide (x.res = zres) else decide (x.beg < x.fin)) := by
              have hb1 := HBEG.out
              simp only [goodC, hmay, hb1, Bool.true_and]
            have HGD := Lib.hid hgd
            have HBAD2 : Hid (goodC x = false → r = 180) := fun h => HBAD.out (.inl h)
            have HG2 : Hid (goodC x = true → GoodK l (k + 1)) := fun h => HGOOD.out h HLO.out
            clear hmay hlo hgd HBAD HGOOD HDUP hbeg
            have hneB : ∀ b, decide (x.res = zres) = b → ∀ W, (binOp .neq 40 (.agg #[.int .i64 x.res.code, .int .i64 x.res.slot, .string x.res.value]) (.agg #[.int .i64 0, .int .i64 0, .string ⟨#[]⟩])).run Try.prog W = .ok (.bool (!b)) W := fun b hb W => by subst hb; exact neq_res x.res zres W
            have HNE := Lib.hid hneB
            clear hneB
            have hge := guard_res
            by_cases hf : x.fin = -1
            · have hf2 : decide (x.fin = -1) = true := decide_eq_true hf
              have hf3 : (x.fin == -1) = true := by simpa using hf
              have hf4 : (x.fin != -1) = false := by simpa using hf
              by_cases hz : x.res = zres
              · have hz1 : decide (x.res = zres) = true := decide_eq_true hz
                have hne := HNE.out _ hz1
                have HG3 := Lib.hid (HG2.out (by rw [HGD.out, if_pos hf]; exact hz1))
                clear HGD HBAD2 HG2 hz1 hz
                dsimp only
                go_wp2_with (at_mapUpdate; refine wpList_updateK (ev := evInt) HMK2.out keyReq rfl _ _ _ rfl Try.underlying108 rfl (x.client, x.number) rfl ((k:Int) + 1) rfl ?_; intro w3 hm3 hg3 hs3; have HM3 := Lib.hid hm3; have HG33 := Lib.hid hg3; clear hm3 hg3)
                go_roundw
                case rel => exact ⟨k + 1, _, by omega, by go_num, HG3.out, HHAVE.out, HM3.out, HBF.out.grown HG33.out HBF.out.size (fun b e => by cases e; exact Nat.le_refl _)⟩
                case measure => simp [intOf]; omega
              · have hz1 : decide (x.res = zres) = false := decide_eq_false hz
                have hne := HNE.out _ hz1
                obtain rfl : r = 180 := HBAD2.out (by rw [HGD.out, if_pos hf]; exact hz1)
                clear HGD HBAD2 HG2 hz1 hz
                dsimp only
                go_wp2_with fail
                go_ret
                exact ⟨rfl, HBF.out⟩
            · have hf2 : decide (x.fin = -1) = false := decide_eq_false hf
              have hf3 : (x.fin == -1) = false := by simpa using hf
              have hf4 : (x.fin != -1) = true := by simpa using hf
              by_cases hz : x.beg < x.fin
              · have HG3 := Lib.hid (HG2.out (by rw [HGD.out, if_neg hf]; exact decide_eq_true hz))
                have hz2 : decide (x.fin ≤ x.beg) = false := decide_eq_false (by omega)
                clear HGD HBAD2 HG2
                dsimp only
                go_wp2_with (at_mapUpdate; refine wpList_updateK (ev := evInt) HMK2.out keyReq rfl _ _ _ rfl Try.underlying108 rfl (x.client, x.number) rfl ((k:Int) + 1) rfl ?_; intro w3 hm3 hg3 hs3; have HM3 := Lib.hid hm3; have HG33 := Lib.hid hg3; clear hm3 hg3)
                go_roundw
                case rel => exact ⟨k + 1, _, by omega, by go_num, HG3.out, HHAVE.out, HM3.out, HBF.out.grown HG33.out HBF.out.size (fun b e => by cases e; exact Nat.le_refl _)⟩
                case measure => simp [intOf]; omega
              · have hz2 : decide (x.fin ≤ x.beg) = true := decide_eq_true (by omega)
                obtain rfl : r = 180 := HBAD2.out (by rw [HGD.out, if_neg hf]; exact decide_eq_false hz)
                clear HGD HBAD2 HG2
                dsimp only
                go_wp2_with fail
                go_ret
                exact ⟨rfl, HBF.out⟩
    · obtain rfl : r = 0 := HR.out.trans (check_good fun i hi => hgk.out i hi (by omega))
      have g2 : decide ((k:Int) < (l.length : Int)) = false := decide_eq_false (by omega)
      have g3 : decide (k < l.length) = false := decide_eq_false h1
      go_wp2_with fail
      go_ret
      exact ⟨rfl, hbr.out⟩
end Go.Proofs.Ytmfidhlhcochoaa
