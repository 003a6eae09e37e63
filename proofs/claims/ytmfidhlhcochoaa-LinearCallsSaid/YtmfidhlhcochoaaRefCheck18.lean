/- The reference's Check answers checkL. Conditions: Go lengths. -/
import Derived.Test.YtmfidhlhcochoaaLinCheck
import Derived.Deep.QuietTactic
import Derived.BigQuiet
namespace Go.Proofs.Ytmfidhlhcochoaa
open Go.RowKit
set_option linter.unusedVariables false
set_option linter.unusedSimpArgs false

/-- The error of an entry alone. -/
def entry05 (c n : Int) (o : Op) : Int := if c < 0 ∨ 16 ≤ c then 62 else if n < 1 then 63 else checkOp o
theorem entry05_may (c n : Int) (o : Op) : decide (entry05 c n o = 0) = mayC c n o := by
  unfold entry05 mayC
  by_cases h1 : c < 0 ∨ 16 ≤ c
  · rw [if_pos h1]
    by_cases h2 : 0 ≤ c
    · have h3 : ¬ c < 16 := by omega
      simp [h3]
    · simp [h2]
  · rw [if_neg h1]
    have h2 : 0 ≤ c := by omega
    have h3 : c < 16 := by omega
    by_cases h4 : n < 1
    · rw [if_pos h4]
      have h5 : ¬ 1 ≤ n := by omega
      simp [h5]
    · rw [if_neg h4]
      have h5 : 1 ≤ n := by omega
      simp [h2, h3, h5]
theorem entry05_prog (c n : Int) (o : Op) (hv : o.value.size ≤ 9223372036854775807) (w : World) :
    Calls Try.prog 64 #[.agg #[.int .i64 c, .int .i64 n, .int .i64 o.kind, .int .i64 o.slot, .string o.value]] w fun e w' => e = .returned (.int .i64 (entry05 c n o)) ∧ Below w.heap.size w w' := by
  obtain ⟨r, hr⟩ : ∃ r, r = entry05 c n o := ⟨_, rfl⟩
  rw [← hr]
  unfold entry05 at hr
  by_cases h1 : c < 0
  · rw [if_pos (.inl h1)] at hr
    subst hr
    have g1 : decide (c < 0) = true := decide_eq_true h1
    go_enter Try.func64, Try.ntmps64
    go_wp2
    go_ret
    exact ⟨rfl, (Below.refl _ _).alloc (Nat.le_refl _) _⟩
  · have g1 : decide (c < 0) = false := decide_eq_false h1
    by_cases h2 : 16 ≤ c
    · rw [if_pos (.inr h2)] at hr
      subst hr
      have g2 : decide (16 ≤ c) = true := decide_eq_true h2
      go_enter Try.func64, Try.ntmps64
      go_wp2
      go_ret
      exact ⟨rfl, (Below.refl _ _).alloc (Nat.le_refl _) _⟩
    · have g2 : decide (16 ≤ c) = false := decide_eq_false h2
      rw [if_neg (by omega)] at hr
      by_cases h3 : n < 1
      · rw [if_pos h3] at hr
        subst hr
        have g3 : decide (n < 1) = true := decide_eq_true h3
        go_enter Try.func64, Try.ntmps64
        go_wp2
        go_ret
        exact ⟨rfl, (Below.refl _ _).alloc (Nat.le_refl _) _⟩
      · have g3 : decide (n < 1) = false := decide_eq_false h3
        rw [if_neg h3] at hr
        subst hr
        go_enter Try.func64, Try.ntmps64
        go_wp2_with fail
        have hb0 : Below w.heap.size w (w.alloc (.cells #[.int .i64 c, .int .i64 n, .int .i64 o.kind, .int .i64 o.slot, .string o.value] 119)) := (Below.refl _ _).alloc (Nat.le_refl _) _
        refine (check_ref o hv _).mono ?_
        rintro e w1 ⟨rfl, hb1⟩
        have hb := hb0.trans (hb1.mono hb0.size)
        dsimp only
        go_wp2_with fail
        go_ret
        exact ⟨rfl, hb⟩

set_option maxRecDepth 100000 in
set_option maxHeartbeats 8000000 in
theorem refCheck (A : Option Addr) (c n : Nat) (l : List Call) (hn : n = l.length) (w : World) (hl : l.length ≤ 9223372036854775806) (hv : ∀ x ∈ l, x.op.value.size ≤ 9223372036854775807) (ha : Rd Call.cells 10 w w.heap.size A l) :
    Calls Try.prog 68 #[.slice A n c] w fun e w' => e = .returned (.int .i64 (checkL l)) ∧ Below w.heap.size w w' := by
  subst hn
  obtain ⟨r, hr⟩ : ∃ r, r = checkL l := ⟨_, rfl⟩
  rw [← hr]
  have HA := Lib.hid ha
  have HR := Lib.hid hr
  have HV := Lib.hid hv
  clear ha hr hv
  go_enter Try.func68, Try.ntmps68
  go_wp2_with fail
  go_loopw [3] (fun i wr => ∃ k : Nat, k ≤ l.length ∧ i = .int .i64 k ∧ Hid (GoodK l k) ∧ Hid (Below w.heap.size w wr)) (fun i _ => l.length - (intOf i).toNat)
  case atStart => exact ⟨0, by omega, rfl, fun i h hi => absurd hi (Nat.not_lt_zero i), Below.refl _ _⟩
  case round =>
    obtain ⟨k, hk, rfl, hgk, hbr⟩ := hrel
    by_cases h1 : k < l.length
    · obtain ⟨ad, hA, hal, hca⟩ := (HA.out.below hbr.out).at_ h1
      have g1 : (k:Int) < (l.length : Int) := by omega
      have i2 : (0:Int) ≤ (k:Int) := by omega
      obtain ⟨c0, c1, c2, c3, c4, c5, c6, c7, c8, c9⟩ := hca.call
      have hvk := HV.out _ (List.getElem_mem h1)
      obtain ⟨x, hx⟩ : ∃ x, x = l[k] := ⟨_, rfl⟩
      have HBAD : Hid ((goodC x = false ∨ ∃ j, ∃ (hj : j < k), sameKey l[j] x = true) → r = 180) := fun h => HR.out.trans (check_bad h1 (by rw [← hx]; exact h))
      have HGOOD : Hid (goodC x = true → (∀ j (hj : j < k), sameKey l[j] x = false) → GoodK l (k + 1)) := fun hg hno => hgk.out.snoc h1 (by rw [← hx]; exact hg) (by rw [← hx]; exact hno)
      rw [← hx] at c0 c1 c2 c3 c4 c5 c6 c7 c8 c9 hvk
      subst hA
      clear hca hgk hx
      have hmayE := entry05_may x.client x.number x.op
      go_wp2_with fail
      obtain ⟨W1, hW1⟩ : ∃ W1, W1 = wr.alloc (.cells #[.int .i64 x.client, .int .i64 x.number, .int .i64 x.op.kind, .int .i64 x.op.slot, .string x.op.value, .int .i64 x.beg, .int .i64 x.fin, .int .i64 x.res.code, .int .i64 x.res.slot, .string x.res.value] 45) := ⟨_, rfl⟩
      rw [← hW1]
      refine (entry05_prog x.client x.number x.op hvk W1).mono ?_
      rintro e w2 ⟨rfl, hb2⟩
      have ha2 : w2.heap[wr.heap.size]? = some (.cells #[.int .i64 x.client, .int .i64 x.number, .int .i64 x.op.kind, .int .i64 x.op.slot, .string x.op.value, .int .i64 x.beg, .int .i64 x.fin, .int .i64 x.res.code, .int .i64 x.res.slot, .string x.res.value] 45 (0, 0)) := (hb2.block _ (by rw [hW1]; simp)).trans (by rw [hW1]; exact heap_alloc_new _ _)
      have hbw1 : Below wr.heap.size wr W1 := by rw [hW1]; exact (Below.refl _ _).alloc (Nat.le_refl _) _
      have hbf := hbr.out.trans ((hbw1.trans (hb2.mono hbw1.size)).mono hbr.out.size)
      have HBF := Lib.hid hbf
      have HRD := Lib.hid ((HA.out.below hbf).more hbf.size)
      have d0 : w2.cell? ⟨wr.heap.size, 0, none⟩ = some (.int .i64 x.client) := cell_of_row _ _ 0 _ _ _ ha2
      have d1 : w2.cell? ⟨wr.heap.size, 1, none⟩ = some (.int .i64 x.number) := cell_of_row _ _ 1 _ _ _ ha2
      have d5 : w2.cell? ⟨wr.heap.size, 5, none⟩ = some (.int .i64 x.beg) := cell_of_row _ _ 5 _ _ _ ha2
      have d6 : w2.cell? ⟨wr.heap.size, 6, none⟩ = some (.int .i64 x.fin) := cell_of_row _ _ 6 _ _ _ ha2
      have d7 : w2.cell? ⟨wr.heap.size, 7, none⟩ = some (.int .i64 x.res.code) := cell_of_row _ _ 7 _ _ _ ha2
      have d8 : w2.cell? ⟨wr.heap.size, 8, none⟩ = some (.int .i64 x.res.slot) := cell_of_row _ _ 8 _ _ _ ha2
      have d9 : w2.cell? ⟨wr.heap.size, 9, none⟩ = some (.string x.res.value) := cell_of_row _ _ 9 _ _ _ ha2
      clear hbw1 hb2 ha2 hbr hW1 hbf c0 c1 c2 c3 c4 c5 c6 c7 c8 c9
      obtain ⟨en, hen⟩ : ∃ en, en = entry05 x.client x.number x.op := ⟨_, rfl⟩
      rw [← hen] at hmayE
      rw [← hen]
      have HMAY := Lib.hid hmayE
      clear hen hmayE
      by_cases hen0 : en = 0
      · have hmay : mayC x.client x.number x.op = true := HMAY.out.symm.trans (decide_eq_true hen0)
        subst hen0
        by_cases hbeg : x.beg < 0
        · have hbeg2 : decide (x.beg < 0) = true := decide_eq_true hbeg
          obtain rfl : r = 180 := HBAD.out (.inl (by
            have : decide (0 ≤ x.beg) = false := decide_eq_false (by omega)
            simp only [goodC, hmay, this]; rfl))
          clear HBAD HGOOD hmay HMAY
          dsimp only
          go_wp2_with fail
          go_ret
          exact ⟨rfl, HBF.out⟩
        · have hbeg2 : decide (x.beg < 0) = false := decide_eq_false hbeg
          have hb1 : decide (0 ≤ x.beg) = true := decide_eq_true (by omega)
          have hgd : goodC x = (if x.fin = -1 then decide (x.res = zres) else decide (x.beg < x.fin)) := by simp only [goodC, hmay, hb1, Bool.true_and]
          have HGD := Lib.hid hgd
          have hneB : ∀ b, decide (x.res = zres) = b → ∀ W, (binOp .neq 40 (.agg #[.int .i64 x.res.code, .int .i64 x.res.slot, .string x.res.value]) (.agg #[.int .i64 0, .int .i64 0, .string ⟨#[]⟩])).run Try.prog W = .ok (.bool (!b)) W := fun b hb W => by subst hb; exact neq_res x.res zres W
          have HNE := Lib.hid hneB
          clear hneB hmay hgd HMAY hb1
          have hge := guard_res
          have HIN : Hid (goodC x = true → GoodK l k → True) := fun _ _ => trivial
          by_cases hf : x.fin = -1
          · have hf2 : decide (x.fin = -1) = true := decide_eq_true hf
            have hf3 : (x.fin == -1) = true := by simpa using hf
            have hf4 : (x.fin != -1) = false := by simpa using hf
            by_cases hz : x.res = zres
            · have hz1 : decide (x.res = zres) = true := decide_eq_true hz
              have hne := HNE.out _ hz1
              have HG : Hid (goodC x = true) := HGD.out.trans (by rw [if_pos hf]; exact hz1)
              clear hz hz1 hf
              dsimp only
              go_wp2_with fail
              clear hne hf2 hf3 hf4
              clear HGD HNE HIN hge d5 d6 d7 d8 d9
              go_loopw [5] (fun i wr2 => ∃ j : Nat, j ≤ k ∧ i = .int .i64 j ∧ Hid (∀ j' (h : j' < k), j' < j → sameKey l[j'] x = false) ∧ ∃ q, wr2 = w2.drewN q) (fun i _ => k - (intOf i).toNat)
              case atStart => exact ⟨0, by omega, rfl, fun j' _ h => absurd h (Nat.not_lt_zero j'), 0, rfl⟩
              case round =>
                obtain ⟨j, hj, rfl, hno, q, rfl⟩ := hrel
                by_cases h2 : j < k
                · obtain ⟨bd, hB, _, hcb⟩ := HRD.out.at_ (i := j) (by omega)
                  have g4 : (j:Int) < (k:Int) := by omega
                  have g5 : (j:Int) < (l.length:Int) := by omega
                  have i5 : (0:Int) ≤ (j:Int) := by omega
                  obtain ⟨y0, y1, _, _, _, _, _, _, _, _⟩ := hcb.call
                  cases hB
                  have hNX : Hid (sameKey l[j] x = false → ∀ j' (h : j' < k), j' < j + 1 → sameKey l[j'] x = false) := fun h j' hj' hlt => by
                    by_cases e : j' = j
                    · subst e; exact h
                    · exact hno.out j' hj' (by omega)
                  have hYES : Hid (sameKey l[j] x = true → r = 180) := fun h => HBAD.out (.inr ⟨j, h2, h⟩)
                  clear hcb hno
                  generalize l[j] = y at *
                  by_cases hc : y.client = x.client
                  · have hc1 : (y.client == x.client) = true := by simpa using hc
                    have hc2 : decide (y.client = x.client) = true := decide_eq_true hc
                    by_cases hn : y.number = x.number
                    · have hn1 : (y.number == x.number) = true := by simpa using hn
                      have hn2 : decide (y.number = x.number) = true := decide_eq_true hn
                      obtain rfl : r = 180 := hYES.out (by simp [sameKey, hc, hn])
                      clear hNX hYES HBAD HGOOD
                      go_wp2_with fail
                      go_quiet (fail)
                      go_wp2_with fail
                      go_ret
                      exact ⟨rfl, below_drewN (below_drewN HBF.out _) _⟩
                    · have hn1 : (y.number == x.number) = false := by simpa using hn
                      have hn2 : decide (y.number = x.number) = false := decide_eq_false hn
                      have HNX := Lib.hid (hNX.out (by simp [sameKey, hn]))
                      clear hNX hYES
                      go_wp2_with fail
                      go_quiet (fail)
                      go_wp2_with fail
                      go_roundw
                      case rel => exact ⟨j + 1, by omega, by go_num, HNX.out, (by first | exact ⟨_, rfl⟩ | exact drawn2 _ _ _)⟩
                      case measure => simp [intOf]; omega
                  · have hc1 : (y.client == x.client) = false := by simpa using hc
                    have hc2 : decide (y.client = x.client) = false := decide_eq_false hc
                    have HNX := Lib.hid (hNX.out (by simp [sameKey, hc]))
                    clear hNX hYES
                    go_wp2_with fail
                    go_quiet (fail)
                    go_wp2_with fail
                    go_roundw
                    case rel => exact ⟨j + 1, by omega, by go_num, HNX.out, (by first | exact ⟨_, rfl⟩ | exact drawn2 _ _ _)⟩
                    case measure => simp [intOf]; omega
                · have hjk : j = k := by omega
                  have g6 : decide ((j:Int) < (k:Int)) = false := decide_eq_false (by omega)
                  have g7 : decide (j < k) = false := decide_eq_false h2
                  have HNX := Lib.hid (HGOOD.out HG.out fun j' hj' => hno.out j' hj' (by omega))
                  clear hno HGOOD HBAD hjk
                  go_wp2_with fail
                  go_roundw
                  case rel => exact ⟨k + 1, by omega, by go_num, HNX.out, below_drewN HBF.out _⟩
                  case measure => simp [intOf]; omega
            · have hz1 : decide (x.res = zres) = false := decide_eq_false hz
              have hne := HNE.out _ hz1
              obtain rfl : r = 180 := HBAD.out (.inl (HGD.out.trans (by rw [if_pos hf]; exact hz1)))
              clear HGD HBAD HGOOD HNE HIN hz hz1
              dsimp only
              go_wp2_with fail
              go_ret
              exact ⟨rfl, HBF.out⟩
          · have hf2 : decide (x.fin = -1) = false := decide_eq_false hf
            have hf3 : (x.fin == -1) = false := by simpa using hf
            have hf4 : (x.fin != -1) = true := by simpa using hf
            by_cases hz : x.beg < x.fin
            · have hz2 : decide (x.fin ≤ x.beg) = false := decide_eq_false (by omega)
              have HG : Hid (goodC x = true) := HGD.out.trans (by rw [if_neg hf]; exact decide_eq_true hz)
              dsimp only
              go_wp2_with fail
              clear HGD HNE HIN hge d5 d6 d7 d8 d9
              go_loopw [5] (fun i wr2 => ∃ j : Nat, j ≤ k ∧ i = .int .i64 j ∧ Hid (∀ j' (h : j' < k), j' < j → sameKey l[j'] x = false) ∧ ∃ q, wr2 = w2.drewN q) (fun i _ => k - (intOf i).toNat)
              case atStart => exact ⟨0, by omega, rfl, fun j' _ h => absurd h (Nat.not_lt_zero j'), 0, rfl⟩
              case round =>
                obtain ⟨j, hj, rfl, hno, q, rfl⟩ := hrel
                by_cases h2 : j < k
                · obtain ⟨bd, hB, _, hcb⟩ := HRD.out.at_ (i := j) (by omega)
                  have g4 : (j:Int) < (k:Int) := by omega
                  have g5 : (j:Int) < (l.length:Int) := by omega
                  have i5 : (0:Int) ≤ (j:Int) := by omega
                  obtain ⟨y0, y1, _, _, _, _, _, _, _, _⟩ := hcb.call
                  cases hB
                  have hNX : Hid (sameKey l[j] x = false → ∀ j' (h : j' < k), j' < j + 1 → sameKey l[j'] x = false) := fun h j' hj' hlt => by
                    by_cases e : j' = j
                    · subst e; exact h
                    · exact hno.out j' hj' (by omega)
                  have hYES : Hid (sameKey l[j] x = true → r = 180) := fun h => HBAD.out (.inr ⟨j, h2, h⟩)
                  clear hcb hno
                  generalize l[j] = y at *
                  by_cases hc : y.client = x.client
                  · have hc1 : (y.client == x.client) = true := by simpa using hc
                    have hc2 : decide (y.client = x.client) = true := decide_eq_true hc
                    by_cases hn : y.number = x.number
                    · have hn1 : (y.number == x.number) = true := by simpa using hn
                      have hn2 : decide (y.number = x.number) = true := decide_eq_true hn
                      obtain rfl : r = 180 := hYES.out (by simp [sameKey, hc, hn])
                      clear hNX hYES HBAD HGOOD
                      go_wp2_with fail
                      go_quiet (fail)
                      go_wp2_with fail
                      go_ret
                      exact ⟨rfl, below_drewN (below_drewN HBF.out _) _⟩
                    · have hn1 : (y.number == x.number) = false := by simpa using hn
                      have hn2 : decide (y.number = x.number) = false := decide_eq_false hn
                      have HNX := Lib.hid (hNX.out (by simp [sameKey, hn]))
                      clear hNX hYES
                      go_wp2_with fail
                      go_quiet (fail)
                      go_wp2_with fail
                      go_roundw
                      case rel => exact ⟨j + 1, by omega, by go_num, HNX.out, (by first | exact ⟨_, rfl⟩ | exact drawn2 _ _ _)⟩
                      case measure => simp [intOf]; omega
                  · have hc1 : (y.client == x.client) = false := by simpa using hc
                    have hc2 : decide (y.client = x.client) = false := decide_eq_false hc
                    have HNX := Lib.hid (hNX.out (by simp [sameKey, hc]))
                    clear hNX hYES
                    go_wp2_with fail
                    go_quiet (fail)
                    go_wp2_with fail
                    go_roundw
                    case rel => exact ⟨j + 1, by omega, by go_num, HNX.out, (by first | exact ⟨_, rfl⟩ | exact drawn2 _ _ _)⟩
                    case measure => simp [intOf]; omega
                · have hjk : j = k := by omega
                  have g6 : decide ((j:Int) < (k:Int)) = false := decide_eq_false (by omega)
                  have g7 : decide (j < k) = false := decide_eq_false h2
                  have HNX := Lib.hid (HGOOD.out HG.out fun j' hj' => hno.out j' hj' (by omega))
                  clear hno HGOOD HBAD hjk
                  go_wp2_with fail
                  go_roundw
                  case rel => exact ⟨k + 1, by omega, by go_num, HNX.out, below_drewN HBF.out _⟩
                  case measure => simp [intOf]; omega
            · have hz2 : decide (x.fin ≤ x.beg) = true := decide_eq_true (by omega)
              obtain rfl : r = 180 := HBAD.out (.inl (HGD.out.trans (by rw [if_neg hf]; exact decide_eq_false hz)))
              clear HGD HBAD HGOOD HNE HIN
              dsimp only
              go_wp2_with fail
              go_ret
              exact ⟨rfl, HBF.out⟩
      · have hmay : mayC x.client x.number x.op = false := HMAY.out.symm.trans (decide_eq_false hen0)
        have hen1 : (en == 0) = false := by simpa using hen0
        have hen2 : (en != 0) = true := by simpa using hen0
        obtain rfl : r = 180 := HBAD.out (.inl (by simp [goodC, hmay]))
        clear HBAD HGOOD hmay HMAY
        dsimp only
        go_wp2_with fail
        go_ret
        exact ⟨rfl, HBF.out⟩
    · obtain rfl : r = 0 := HR.out.trans (check_good fun i hi => hgk.out i hi (by omega))
      have g2 : decide ((k:Int) < (l.length : Int)) = false := decide_eq_false (by omega)
      have g3 : decide (k < l.length) = false := decide_eq_false h1
      go_wp2_with fail
      go_ret
      exact ⟨rfl, hbr.out⟩
end Go.Proofs.Ytmfidhlhcochoaa
