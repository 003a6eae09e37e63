/- ClientTables and ClientBetween answer true, whatever the arguments. Conditions: sizes within the form's own reach.
ClientTables answers true, whatever the arguments. Conditions: sizes within the form's own reach.
ClientBetween answers true, whatever the arguments. Conditions: sizes within the form's own reach. -/
import Derived.Test.YtnfilklgogaheaaClientM2
import Derived.Test.YtnfilklgogaheaaReplays6
namespace Go.Proofs.Ytnfilklgogaheaa
open Go.RowKit
set_option linter.unusedVariables false
set_option linter.unusedSimpArgs false

/-- The answer: rows of its own and an error number. -/
def MadeQ (w : World) (q : Int) (rs : List Row) (e : Ending) (w' : World) : Prop := ∃ A c, e = .returned (.tuple #[.slice A rs.length c, .int .i64 q]) ∧ Made Row.cells 7 90 w.heap.size w' (.slice A rs.length c) rs ∧ Below w.heap.size w w'
theorem MadeQ.of2 {w : World} {rs : List Row} {e : Ending} {w' : World} (h : MadeRows2 w rs e w') : MadeQ w 0 rs e w' := h
theorem MadeQ.err {w : World} {q : Int} {e : Ending} {w' : World} (h : e = .returned (.tuple #[.slice none 0 0, .int .i64 q]) ∧ Below w.heap.size w w') : MadeQ w q [] e w' := ⟨none, 0, h.1, Made.nil _ _ _, h.2⟩
def tabRs (xs : List Entry) (m : Int) : List Row := if withinE xs m = 0 then tableE xs m.toNat else []
theorem tabRs_length (xs : List Entry) (m : Int) : (tabRs xs m).length ≤ 16 := by
  unfold tabRs; split
  · exact tableE_length _ _
  · simp
theorem within_zero {xs : List Entry} {m : Int} (h : withinE xs m = 0) : logE xs 256 = 0 ∧ 0 ≤ m ∧ m ≤ xs.length := by
  unfold withinE at h
  by_cases hc : logE xs 256 = 0 ∧ (m < 0 ∨ (xs.length : Int) < m)
  · rw [if_pos hc] at h; omega
  · rw [if_neg hc] at h; refine ⟨h, ?_⟩; omega
theorem table_all (A : Option Addr) (c n : Nat) (xs : List Entry) (m : Int) (hn : n = xs.length) (hc : n ≤ c) (w : World) (hl : xs.length ≤ 9223372036854775806) (hv : ∀ x ∈ xs, x.op.value.size ≤ 9223372036854775807) (ha : Rd Entry.cells 5 w w.heap.size A xs) :
    Calls Try.prog 33 #[.slice A n c, .int .i64 m] w (MadeQ w (withinE xs m) (tabRs xs m)) := by
  by_cases h : withinE xs m = 0
  · obtain ⟨h1, h2, h3⟩ := within_zero h
    obtain ⟨k, rfl⟩ : ∃ k : Nat, m = (k : Int) := ⟨m.toNat, by omega⟩
    have e : tabRs xs (k : Int) = tableE xs k := by unfold tabRs; rw [if_pos h]; rfl
    rw [h, e]
    exact (table_ok A c n xs k hn hc w hv ha h1 (by omega)).mono fun _ _ q => .of2 q
  · have e : tabRs xs m = [] := by unfold tabRs; rw [if_neg h]
    rw [e]
    by_cases h1 : logE xs 256 = 0
    · have hm : m < 0 ∨ (xs.length : Int) < m := by
        unfold withinE at h
        by_cases hc : m < 0 ∨ (xs.length : Int) < m
        · exact hc
        · rw [if_neg (fun q => hc q.2)] at h; exact absurd h1 h
      have e : withinE xs m = 50 := by unfold withinE; rw [if_pos ⟨h1, hm⟩]
      rw [e]
      exact (table_bad A c n xs m hn w hl hv ha h1 hm).mono fun _ _ q => .err q
    · have e : withinE xs m = logE xs 256 := by unfold withinE; rw [if_neg (fun q => h1 q.1)]
      rw [e]
      exact (table_err A c n xs m hn w hl hv ha h1).mono fun _ _ q => .err q
theorem table_allR (A : Option Addr) (c n : Nat) (xs : List Entry) (m : Int) (hn : n = xs.length) (w : World) (hl : (xs.length + 1) * 48 ≤ 140737488355328) (hv : ∀ x ∈ xs, x.op.value.size ≤ 9223372036854775807) (ha : Rd Entry.cells 5 w w.heap.size A xs) :
    Calls Try.prog 34 #[.slice A n c, .int .i64 m] w (MadeQ w (withinE xs m) (tabRs xs m)) := by
  by_cases h : withinE xs m = 0
  · obtain ⟨h1, h2, h3⟩ := within_zero h
    obtain ⟨k, rfl⟩ : ∃ k : Nat, m = (k : Int) := ⟨m.toNat, by omega⟩
    have e : tabRs xs (k : Int) = tableE xs k := by unfold tabRs; rw [if_pos h]; rfl
    rw [h, e]
    exact (table_refOk A c n xs k hn w hl hv ha h (by omega)).mono fun _ _ q => .of2 q
  · have e : tabRs xs m = [] := by unfold tabRs; rw [if_neg h]
    rw [e]
    exact (table_refBad A c n xs m hn w (by omega) hv ha h).mono fun _ _ q => .err q
noncomputable def betQ (xs : List Entry) (f t : Int) : Int := open Classical in if logE xs 256 = 0 ∧ ¬ inRange xs f t then 50 else logE xs 256
noncomputable def betRs (xs : List Entry) (f t : Int) : List Row := open Classical in if logE xs 256 = 0 ∧ inRange xs f t then betweenE xs f.toNat t.toNat else []
theorem betRs_length (xs : List Entry) (f t : Int) : (betRs xs f t).length ≤ xs.length := by
  unfold betRs; split
  · unfold betweenE; rw [List.length_drop, rowsD_length]; simp; omega
  · simp
theorem between_all (A : Option Addr) (c n : Nat) (xs : List Entry) (f t : Int) (hn : n = xs.length) (hc : n ≤ c) (w : World) (hl : xs.length ≤ 9223372036854775806) (hv : ∀ x ∈ xs, x.op.value.size ≤ 9223372036854775807) (ha : Rd Entry.cells 5 w w.heap.size A xs) :
    Calls Try.prog 38 #[.slice A n c, .int .i64 f, .int .i64 t] w (MadeQ w (betQ xs f t) (betRs xs f t)) := by
  by_cases h1 : logE xs 256 = 0
  · by_cases h2 : inRange xs f t
    · have eq : betQ xs f t = 0 := by unfold betQ; rw [if_neg (fun q => q.2 h2)]; exact h1
      have er : betRs xs f t = betweenE xs f.toNat t.toNat := by unfold betRs; rw [if_pos ⟨h1, h2⟩]
      rw [eq, er]
      obtain ⟨p1, p2, p3, p4, p5⟩ := h2
      obtain ⟨k, rfl⟩ : ∃ k : Nat, f = (k : Int) := ⟨f.toNat, by omega⟩
      obtain ⟨j, rfl⟩ : ∃ k : Nat, t = (k : Int) := ⟨t.toNat, by omega⟩
      exact (between_ok A c n xs k j hn hc w hv ha h1 (by omega) (by omega)).mono fun _ _ q => .of2 q
    · have eq : betQ xs f t = 50 := by unfold betQ; rw [if_pos ⟨h1, h2⟩]
      have er : betRs xs f t = [] := by unfold betRs; rw [if_neg (fun q => h2 q.2)]
      rw [eq, er]
      exact (between_bad A c n xs f t hn w hl hv ha h1 h2).mono fun _ _ q => .err q
  · have eq : betQ xs f t = logE xs 256 := by unfold betQ; rw [if_neg (fun q => h1 q.1)]
    have er : betRs xs f t = [] := by unfold betRs; rw [if_neg (fun q => h1 q.1)]
    rw [eq, er]
    exact (between_err A c n xs f t hn w hl hv ha h1).mono fun _ _ q => .err q
theorem between_allR (A : Option Addr) (c n : Nat) (xs : List Entry) (f t : Int) (hn : n = xs.length) (w : World) (hl : xs.length ≤ 9223372036854775806) (hv : ∀ x ∈ xs, x.op.value.size ≤ 9223372036854775807) (ha : Rd Entry.cells 5 w w.heap.size A xs) :
    Calls Try.prog 39 #[.slice A n c, .int .i64 f, .int .i64 t] w (MadeQ w (betQ xs f t) (betRs xs f t)) := by
  by_cases h1 : logE xs 256 = 0
  · by_cases h2 : inRange xs f t
    · have eq : betQ xs f t = 0 := by unfold betQ; rw [if_neg (fun q => q.2 h2)]; exact h1
      have er : betRs xs f t = betweenE xs f.toNat t.toNat := by unfold betRs; rw [if_pos ⟨h1, h2⟩]
      rw [eq, er]
      obtain ⟨p1, p2, p3, p4, p5⟩ := h2
      obtain ⟨k, rfl⟩ : ∃ k : Nat, f = (k : Int) := ⟨f.toNat, by omega⟩
      obtain ⟨j, rfl⟩ : ∃ k : Nat, t = (k : Int) := ⟨t.toNat, by omega⟩
      exact (between_okR A c n xs k j hn w hv ha h1 (by omega) (by omega)).mono fun _ _ q => .of2 q
    · have eq : betQ xs f t = 50 := by unfold betQ; rw [if_pos ⟨h1, h2⟩]
      have er : betRs xs f t = [] := by unfold betRs; rw [if_neg (fun q => h2 q.2)]
      rw [eq, er]
      exact (between_badR A c n xs f t hn w hl hv ha h1 h2).mono fun _ _ q => .err q
  · have eq : betQ xs f t = logE xs 256 := by unfold betQ; rw [if_neg (fun q => h1 q.1)]
    have er : betRs xs f t = [] := by unfold betRs; rw [if_neg (fun q => h1 q.1)]
    rw [eq, er]
    exact (between_errR A c n xs f t hn w hl hv ha h1).mono fun _ _ q => .err q
end Go.Proofs.Ytnfilklgogaheaa

namespace Go.Proofs.Ytnfilklgogaheaa
open Go.RowKit
set_option linter.unusedVariables false
set_option linter.unusedSimpArgs false

set_option maxRecDepth 100000 in
set_option maxHeartbeats 1000000 in
theorem tables5_calls (A : Option Addr) (c n : Nat) (xs : List Entry) (m : Int) (hn : n = xs.length) (hc : n ≤ c) (w : World) (hb : (xs.length + 1) * 48 ≤ 140737488355328) (hv : ∀ x ∈ xs, x.op.value.size ≤ 9223372036854775807) (ha : Rd Entry.cells 5 w w.heap.size A xs) :
    Calls Try.prog 7 #[.slice A n c, .int .i64 m] w fun e w' => e = .returned (.bool true) ∧ Below w.heap.size w w' := by
  subst hn
  have HA := Lib.hid ha
  have HV := Lib.hid hv
  clear hv
  go_enter Try.func7, Try.ntmps7
  go_wp2_with fail
  refine (givenEntries w.heap.size w.heap.size [] A c xs _ (given_new w _ (Nat.le_refl _)) (by simp) hb (ha.keep fun q hq => World.cell?_alloc_lt _ _ _ hq)).mono ?_
  rintro e w1 ⟨A1, c1, rfl, hc1, hg1, _, hb1⟩
  have hbw1 : Below w.heap.size w w1 := ((Below.refl _ w).alloc (Nat.le_refl _) _).trans hb1
  have HG1 := Lib.hid hg1
  have HB1 := Lib.hid hbw1
  have HR1 := Lib.hid (hg1.get (g := ⟨A1, c1, xs⟩) (by simp))
  clear hb1 hg1 hbw1 ha
  dsimp only
  have HP := Lib.hid (table_all A1 c1 xs.length xs m rfl (by omega) w1 (by omega) HV.out HR1.out)
  have HF := Lib.hid (fun W (hW : Below w.heap.size w W) => table_allR A c xs.length xs m rfl W (by omega) HV.out ((HA.out.below hW).more hW.size))
  have HRL := Lib.hid (show (tabRs xs m).length ≤ 9223372036854775806 by have := tabRs_length xs m; omega)
  generalize withinE xs m = q at *
  generalize tabRs xs m = rs at *
  go_wp2_with fail
  with_reducible refine HP.out.mono ?_
  rintro e w2 ⟨A2, c2, rfl, hm2, hb2⟩
  have HB2 := Lib.hid (HB1.out.trans (hb2.mono HB1.out.size))
  have HG2 := Lib.hid (HG1.out.below6 hb2)
  have HR2 := Lib.hid (hm2.rd' encRow.len)
  clear hm2 hb2 HP HB1 HG1 HR1
  dsimp only
  go_wp2_with fail
  with_reducible refine (HF.out w2 HB2.out).mono ?_
  rintro e w3 ⟨A3, c3, rfl, hm3, hb3⟩
  have HB3 := Lib.hid (HB2.out.trans (hb3.mono HB2.out.size))
  have HG3 := Lib.hid (HG2.out.below6 hb3)
  have HS := Lib.hid (sameRowsTrue A2 A3 c2 c3 _ rs rfl w3 HRL.out ((HR2.out.below hb3).more hb3.size) (hm3.rd' encRow.len))
  clear hm3 hb3 HF HB2 HG2 HR2 HA HV
  generalize rs.length = rl at *
  dsimp only
  go_wp2_with fail
  with_reducible refine (num05 _ _).mono ?_
  rintro e w' ⟨rfl, hw4⟩
  rw [← hw4]
  clear hw4 w'
  dsimp only
  go_wp2_with fail
  with_reducible refine HS.out.mono ?_
  rintro e w' ⟨rfl, q1, rfl⟩
  have HG4 : Hid (Given (w3.drewN q1) w.heap.size w.heap.size ([] ++ [⟨A1, c1, xs⟩])) := HG3.out
  have HB4 : Hid (Below w.heap.size w (w3.drewN q1)) := below_drewN HB3.out _
  clear HS HG3 HB3
  generalize w3.drewN q1 = w4 at *
  dsimp only
  go_wp2_with fail
  refine (givenIntact w.heap.size w.heap.size _ _ HG4.out (by simp)).mono ?_
  rintro e w' ⟨rfl, q10, rfl⟩
  dsimp only
  go_wp2_with fail
  refine (alive05 _).mono ?_
  rintro e w5 ⟨rfl, hb5⟩
  have hbw5 := (below_drewN HB4.out q10).trans (hb5.mono HB4.out.size)
  have HB5 := Lib.hid hbw5
  clear hb5 hbw5
  dsimp only
  go_wp2_with fail
  go_ret
  exact ⟨rfl, HB5.out⟩
theorem tables5_law (W : World) (A : Option Addr) (c n : Nat) (xs : List Entry) (hn : n = xs.length) (hc : n ≤ c) (hrd : Rd Entry.cells 5 W W.heap.size A xs) (hwf : ∀ o ∈ xs, o.wf) (hsz : xs.length * 48 ≤ 140737488351232) (m : Int) (_ : I64 m) :
    Calls Try.prog 7 #[.slice A n c, .int .i64 m] W fun e w' => e = .returned (.bool true) ∧ Below W.heap.size W w' :=
  tables5_calls A c n xs m hn hc W (by omega) (fun o ho => (hwf o ho).op.value) hrd
end Go.Proofs.Ytnfilklgogaheaa

namespace Go.Proofs.Ytnfilklgogaheaa
open Go.RowKit
set_option linter.unusedVariables false
set_option linter.unusedSimpArgs false

set_option maxRecDepth 100000 in
set_option maxHeartbeats 1000000 in
theorem between5_calls (A : Option Addr) (c n : Nat) (xs : List Entry) (f t : Int) (hn : n = xs.length) (hc : n ≤ c) (w : World) (hb : (xs.length + 1) * 48 ≤ 140737488355328) (hv : ∀ x ∈ xs, x.op.value.size ≤ 9223372036854775807) (ha : Rd Entry.cells 5 w w.heap.size A xs) :
    Calls Try.prog 8 #[.slice A n c, .int .i64 f, .int .i64 t] w fun e w' => e = .returned (.bool true) ∧ Below w.heap.size w w' := by
  subst hn
  have HA := Lib.hid ha
  have HV := Lib.hid hv
  clear hv
  go_enter Try.func8, Try.ntmps8
  go_wp2_with fail
  refine (givenEntries w.heap.size w.heap.size [] A c xs _ (given_new w _ (Nat.le_refl _)) (by simp) hb (ha.keep fun q hq => World.cell?_alloc_lt _ _ _ hq)).mono ?_
  rintro e w1 ⟨A1, c1, rfl, hc1, hg1, _, hb1⟩
  have hbw1 : Below w.heap.size w w1 := ((Below.refl _ w).alloc (Nat.le_refl _) _).trans hb1
  have HG1 := Lib.hid hg1
  have HB1 := Lib.hid hbw1
  have HR1 := Lib.hid (hg1.get (g := ⟨A1, c1, xs⟩) (by simp))
  clear hb1 hg1 hbw1 ha
  dsimp only
  have HP := Lib.hid (between_all A1 c1 xs.length xs f t rfl (by omega) w1 (by omega) HV.out HR1.out)
  have HF := Lib.hid (fun W (hW : Below w.heap.size w W) => between_allR A c xs.length xs f t rfl W (by omega) HV.out ((HA.out.below hW).more hW.size))
  have HRL := Lib.hid (show (betRs xs f t).length ≤ 9223372036854775806 by have := betRs_length xs f t; omega)
  generalize betQ xs f t = q at *
  generalize betRs xs f t = rs at *
  go_wp2_with fail
  with_reducible refine HP.out.mono ?_
  rintro e w2 ⟨A2, c2, rfl, hm2, hb2⟩
  have HB2 := Lib.hid (HB1.out.trans (hb2.mono HB1.out.size))
  have HG2 := Lib.hid (HG1.out.below6 hb2)
  have HR2 := Lib.hid (hm2.rd' encRow.len)
  clear hm2 hb2 HP HB1 HG1 HR1
  dsimp only
  go_wp2_with fail
  with_reducible refine (HF.out w2 HB2.out).mono ?_
  rintro e w3 ⟨A3, c3, rfl, hm3, hb3⟩
  have HB3 := Lib.hid (HB2.out.trans (hb3.mono HB2.out.size))
  have HG3 := Lib.hid (HG2.out.below6 hb3)
  have HS := Lib.hid (sameRowsTrue A2 A3 c2 c3 _ rs rfl w3 HRL.out ((HR2.out.below hb3).more hb3.size) (hm3.rd' encRow.len))
  clear hm3 hb3 HF HB2 HG2 HR2 HA HV
  generalize rs.length = rl at *
  dsimp only
  go_wp2_with fail
  with_reducible refine (num05 _ _).mono ?_
  rintro e w' ⟨rfl, hw4⟩
  rw [← hw4]
  clear hw4 w'
  dsimp only
  go_wp2_with fail
  with_reducible refine HS.out.mono ?_
  rintro e w' ⟨rfl, q1, rfl⟩
  have HG4 : Hid (Given (w3.drewN q1) w.heap.size w.heap.size ([] ++ [⟨A1, c1, xs⟩])) := HG3.out
  have HB4 : Hid (Below w.heap.size w (w3.drewN q1)) := below_drewN HB3.out _
  clear HS HG3 HB3
  generalize w3.drewN q1 = w4 at *
  dsimp only
  go_wp2_with fail
  refine (givenIntact w.heap.size w.heap.size _ _ HG4.out (by simp)).mono ?_
  rintro e w' ⟨rfl, q10, rfl⟩
  dsimp only
  go_wp2_with fail
  refine (alive05 _).mono ?_
  rintro e w5 ⟨rfl, hb5⟩
  have hbw5 := (below_drewN HB4.out q10).trans (hb5.mono HB4.out.size)
  have HB5 := Lib.hid hbw5
  clear hb5 hbw5
  dsimp only
  go_wp2_with fail
  go_ret
  exact ⟨rfl, HB5.out⟩
theorem between5_law (W : World) (A : Option Addr) (c n : Nat) (xs : List Entry) (hn : n = xs.length) (hc : n ≤ c) (hrd : Rd Entry.cells 5 W W.heap.size A xs) (hwf : ∀ o ∈ xs, o.wf) (hsz : xs.length * 48 ≤ 140737488351232) (f : Int) (_ : I64 f) (t : Int) (_ : I64 t) :
    Calls Try.prog 8 #[.slice A n c, .int .i64 f, .int .i64 t] W fun e w' => e = .returned (.bool true) ∧ Below W.heap.size W w' :=
  between5_calls A c n xs f t hn hc W (by omega) (fun o ho => (hwf o ho).op.value) hrd
end Go.Proofs.Ytnfilklgogaheaa
