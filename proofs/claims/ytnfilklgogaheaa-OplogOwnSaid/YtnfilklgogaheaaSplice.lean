/- Splice of the program and of the reference. Conditions: sizes within Go's own limits. -/
import Derived.Test.YtnfilklgogaheaaAppend
namespace Go.Proofs.Ytnfilklgogaheaa
open Go.RowKit
set_option linter.unusedVariables false
set_option linter.unusedSimpArgs false

theorem vals_join {xs ys : List Entry} {j : Nat} (h1 : ∀ x ∈ xs, x.op.value.size ≤ 9223372036854775807) (h2 : ∀ x ∈ ys, x.op.value.size ≤ 9223372036854775807) : ∀ x ∈ xs.take j ++ ys, x.op.value.size ≤ 9223372036854775807 := fun x hx => by
  rcases List.mem_append.1 hx with h | h
  · exact h1 x (List.mem_of_mem_take h)
  · exact h2 x h

set_option maxRecDepth 100000 in
set_option maxHeartbeats 1000000 in
theorem splice_prog (A A' : Option Addr) (c c' n m : Nat) (xs ys : List Entry) (room k : Int) (hk : I64 k) (hn : n = xs.length) (hm : m = ys.length) (hc : n ≤ c) (hc' : m ≤ c') (w : World) (hb : xs.length * 48 ≤ 140737488355328) (hb' : ys.length * 48 ≤ 140737488355328) (hv : ∀ x ∈ xs, x.op.value.size ≤ 9223372036854775807) (hv' : ∀ x ∈ ys, x.op.value.size ≤ 9223372036854775807) (ha : Rd Entry.cells 5 w w.heap.size A xs) (ha' : Rd Entry.cells 5 w w.heap.size A' ys) :
    Calls Try.prog 28 #[.slice A n c, .int .i64 room, .int .i64 k, .slice A' m c'] w fun e w' => ∃ v, e = .returned (.tuple #[v, .int .i64 (splE xs room k ys)]) ∧ Made Entry.cells 5 32 w.heap.size w' v (if splE xs room k ys = 0 then xs.take (k - 1).toNat ++ ys else []) ∧ Below w.heap.size w w' := by
  subst hn; subst hm
  obtain ⟨r, hr⟩ : ∃ r, r = splE xs room k ys := ⟨_, rfl⟩
  have HR := Lib.hid hr
  rw [← hr]
  clear hr
  obtain ⟨hk1, hk2⟩ := hk
  go_enter Try.func28, Try.ntmps28
  go_wp2_with fail
  refine (check_prog_log A c xs.length xs room rfl w (by omega) hv ha).mono ?_
  rintro e w1 ⟨rfl, hb1⟩
  have hz := Lib.hid (@chkE_zero xs room)
  unfold splE at HR
  generalize (chkE xs room).1 = q at *
  generalize (chkE xs room).2 = q2 at *
  by_cases h1 : q = 0
  · subst h1
    have hlen : xs.length ≤ 256 := by obtain ⟨_, h2, h3, _⟩ := hz.out.1 rfl; omega
    rw [if_neg (by simp)] at HR
    clear hz
    by_cases h2 : k < 1
    · have e : r = 61 := by rw [HR.out, if_pos (.inl h2)]
      subst e
      clear HR
      go_wp2_with fail
      go_ret2
      exact ⟨_, rfl, Made.nil _ _ _, hb1⟩
    · have h2' : decide (k < 1) = false := decide_eq_false h2
      by_cases h3 : (xs.length : Int) < k - 1
      · have e : r = 61 := by rw [HR.out, if_pos (.inr h3)]
        subst e
        have h3' : (xs.length : Int) + 1 < k := by omega
        clear HR
        go_wp2_with fail
        go_ret2
        exact ⟨_, rfl, Made.nil _ _ _, hb1⟩
      · rw [if_neg (by omega)] at HR
        obtain ⟨j, hj⟩ := Int.eq_ofNat_of_zero_le (show 0 ≤ k - 1 by omega)
        obtain rfl : k = (j : Int) + 1 := by omega
        have h0' : decide ((j : Int) + 1 < 1) = false := decide_eq_false (by omega)
        have h1' : decide ((xs.length : Int) + 1 < (j : Int) + 1) = false := decide_eq_false (by omega)
        have h1'' : decide (xs.length < j) = false := decide_eq_false (by omega)
        have hjl : j ≤ xs.length := by omega
        have e : ((j : Int) + 1 - 1).toNat = j := by omega
        rw [e] at HR
        clear hj h2 h3 hk1 hk2 h2'
        have HE0 := Lib.hid e
        clear e
        go_wp2_with fail
        refine (joined A A' j c' j ys.length (xs.take j) ys (by simp; omega) rfl w1 (by simp; omega) ((ha.below hb1).more hb1.size |>.take j) ((ha'.below hb1).more hb1.size)).mono ?_
        rintro e w2 ⟨v, rfl, hm2, hb2⟩
        have hvz := Lib.hid (vals_join (j := j) hv hv')
        have hlz : (xs.take j ++ ys).length ≤ 9223372036854775806 := by simp; omega
        generalize hzs : xs.take j ++ ys = zs at *
        have HZ := Lib.hid hzs
        clear hzs
        obtain ⟨A2, c2, rfl, hc2⟩ := hm2.form
        have hbw2 := hb1.trans (hb2.mono hb1.size)
        dsimp only
        go_wp2_with fail
        refine (check_prog_log A2 c2 zs.length zs room rfl w2 hlz hvz.out (hm2.rd' encEntry.len)).mono ?_
        rintro e w3 ⟨rfl, hb3⟩
        have hbw3 := hbw2.trans (hb3.mono hbw2.size)
        have hm3 := (hm2.below hb3 fun b q => (hm2.lt b q).2).base' hb1.size
        rw [← show r = (chkE zs room).1 from HR.out]
        clear HR hm2 hb2 hb3
        generalize (chkE zs room).2 = q3 at *
        by_cases h4 : r = 0
        · subst h4
          go_wp2_with fail
          go_ret2
          exact ⟨_, rfl, by first | (rw [if_pos rfl, HE0.out, HZ.out]; exact hm3) | (simp only [Int.add_sub_cancel, Int.toNat_natCast, HZ.out]; exact hm3), hbw3⟩
        · have h4' : (r == 0) = false := by simpa using h4
          go_wp2_with fail
          go_ret2
          exact ⟨_, rfl, by first | exact Made.nil _ _ _ | (rw [if_neg h4]; exact Made.nil _ _ _), hbw3⟩
  · rw [if_pos h1] at HR
    have e : r = q := HR.out
    subst e
    have h1' : (r == 0) = false := by simpa using h1
    clear HR hz
    go_wp2_with fail
    go_ret2
    exact ⟨_, rfl, by first | exact Made.nil _ _ _ | (rw [if_neg h1]; exact Made.nil _ _ _), hb1⟩

end Go.Proofs.Ytnfilklgogaheaa
