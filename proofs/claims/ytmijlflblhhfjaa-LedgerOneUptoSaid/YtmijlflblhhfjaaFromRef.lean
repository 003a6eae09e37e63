/- The reference's From: it answers 0 of rising cells, else 43. Conditions: a Go length. -/
import Derived.Test.YtmijlflblhhfjaaFromPlain
import Derived.Test.YtmijlflblhhfjaaRef04
import Derived.IntWalk
namespace Go.Proofs.Ytmijlflblhhfjaa
open Go.RowKit
set_option linter.unusedVariables false
set_option linter.unusedSimpArgs false

/-- What From answers. -/
def FromE (cs : List Cell) (x : Int) : Prop := (x = 0 ∧ Rising cs) ∨ (x = 43 ∧ ¬ Rising cs)
def FromRefPost (cs : List Cell) (w : World) (e : Ending) (w' : World) : Prop := ∃ x, e = .returned (.int .i64 x) ∧ FromE cs x ∧ ∃ q, w' = w.drewN q
theorem FromE.bad {cs : List Cell} (h : ¬ Rising cs) : FromE cs 43 := .inr ⟨rfl, h⟩

set_option maxRecDepth 100000 in
set_option maxHeartbeats 4000000 in
theorem from_ref (A : Option Addr) (c n : Nat) (cs : List Cell) (hn : n = cs.length) (w : World) (hl : cs.length ≤ 9223372036854775806) (ha : Rd Cell.cells 2 w w.heap.size A cs) :
    Calls Try.prog 29 #[.slice A n c] w (FromRefPost cs w) := by
  subst hn
  have HA := Lib.hid ha
  clear ha
  go_enter Try.func29, Try.ntmps29
  go_wp2_with fail
  go_loopw [3] (fun i wr => ∃ j : Nat, j ≤ cs.length ∧ i = .int .i64 j ∧ Hid (Rising (cs.take j)) ∧ ∃ q, wr = w.drewN q) (fun i _ => cs.length - (intOf i).toNat)
  case atStart => exact ⟨0, by omega, rfl, by show Rising _; rw [List.take_zero]; exact Rising.nil, 0, rfl⟩
  case round =>
    obtain ⟨j, hj, rfl, hri, q, rfl⟩ := hrel
    by_cases h1 : j < cs.length
    · obtain ⟨ad, hAd, _, hca⟩ := HA.out.at_ h1
      subst hAd
      obtain ⟨c0, c1⟩ := hca.two
      have g1 : (j:Int) < (cs.length : Int) := by omega
      clear hca
      cases seen4 cs j h1 with
      | neg h =>
        have hb := Lib.hid (FromE.bad (not_rising_good h1 (fun g => by have := g.1; omega)))
        clear hri HA
        generalize cs[j] = y at *
        go_wp2_with fail
        go_quiet (fail)
        go_wp2_with fail
        go_ret
        exact ⟨_, rfl, hb.out, (by first | exact ⟨_, rfl⟩ | exact drawn2 _ _ _)⟩
      | big h0 h =>
        have hb := Lib.hid (FromE.bad (not_rising_good h1 (fun g => by have := g.2.1; omega)))
        have h0' : decide (cs[j].slot < 0) = false := decide_eq_false h0
        clear hri HA
        generalize cs[j] = y at *
        go_wp2_with fail
        go_quiet (fail)
        go_wp2_with fail
        go_ret
        exact ⟨_, rfl, hb.out, (by first | exact ⟨_, rfl⟩ | exact drawn2 _ _ _)⟩
      | long h0 h1' h =>
        have hb := Lib.hid (FromE.bad (not_rising_good h1 (fun g => by have := g.2.2; omega)))
        have d0 : decide (cs[j].slot < 0) = false := decide_eq_false h0
        have d1 : decide (1024 ≤ cs[j].slot) = false := decide_eq_false h1'
        have d2 : (64 : Int) < (cs[j].value.size : Int) := by omega
        clear hri HA h
        generalize cs[j] = y at *
        go_wp2_with fail
        go_quiet (fail)
        go_wp2_with fail
        go_ret
        exact ⟨_, rfl, hb.out, (by first | exact ⟨_, rfl⟩ | exact drawn2 _ _ _)⟩
      | first h0 h1' h2 h =>
        have hs := Lib.hid (rising_step hri.out h1 ⟨by omega, by omega, by omega⟩ (fun a z h => by omega))
        have d0 : decide (cs[j].slot < 0) = false := decide_eq_false h0
        have d1 : decide (1024 ≤ cs[j].slot) = false := decide_eq_false h1'
        have d2 : decide ((64 : Int) < (cs[j].value.size : Int)) = false := decide_eq_false (by omega)
        have HJ := Lib.hid h
        have d3 : decide ((0 : Int) < (j : Int)) = false := decide_eq_false (by omega)
        have d4 : decide (0 < j) = false := decide_eq_false (by omega)
        clear hri h h2
        generalize cs[j] = y at *
        go_wp2_with fail
        go_quiet (fail)
        go_wp2_with fail
        go_roundw
        case rel => exact ⟨j + 1, by omega, by go_num, hs.out, (by first | exact ⟨_, rfl⟩ | exact drawn2 _ _ _)⟩
        case measure => simp [intOf]; omega
      | back p z h0 h1' h2 hjp hz h =>
        subst hjp
        have hb := Lib.hid (FromE.bad (not_rising_prev h1 hz h))
        obtain ⟨ad', hAd', _, hca'⟩ := HA.out p z hz
        cases hAd'
        obtain ⟨e0, e1⟩ := hca'.two
        have d0 : decide (cs[p + 1].slot < 0) = false := decide_eq_false h0
        have d1 : decide (1024 ≤ cs[p + 1].slot) = false := decide_eq_false h1'
        have d2 : decide ((64 : Int) < (cs[p + 1].value.size : Int)) = false := decide_eq_false (by omega)
        have d3 : (0 : Int) < ((p + 1 : Nat) : Int) := by omega
        have d4 : 0 < p + 1 := by omega
        have k1 : IntKind.i64.wrap (((p + 1 : Nat) : Int) - 1) = (p : Int) := by rw [show (((p + 1 : Nat) : Int) - 1) = (p : Int) by omega]; exact IntWalk.i64_in _ (by omega)
        have k2 : (p : Int) < (cs.length : Int) := by omega
        clear hri HA h2 hca' h0 h1' e1 hz
        generalize cs[p + 1] = y at *
        go_wp2_with fail
        go_quiet (fail)
        go_wp2_with fail
        go_ret
        exact ⟨_, rfl, hb.out, (by first | exact ⟨_, rfl⟩ | exact drawn2 _ _ _)⟩
      | next p z h0 h1' h2 hjp hz h =>
        subst hjp
        have hs := Lib.hid (rising_step hri.out h1 ⟨by omega, by omega, by omega⟩ (fun a z' ha hz' => by (have e : a = p := by omega); subst e; rw [hz] at hz'; cases hz'; omega))
        obtain ⟨ad', hAd', _, hca'⟩ := HA.out p z hz
        cases hAd'
        obtain ⟨e0, e1⟩ := hca'.two
        have d0 : decide (cs[p + 1].slot < 0) = false := decide_eq_false h0
        have d1 : decide (1024 ≤ cs[p + 1].slot) = false := decide_eq_false h1'
        have d2 : decide ((64 : Int) < (cs[p + 1].value.size : Int)) = false := decide_eq_false (by omega)
        have d5 : decide (cs[p + 1].slot ≤ z.slot) = false := decide_eq_false h
        have d3 : (0 : Int) < ((p + 1 : Nat) : Int) := by omega
        have d4 : 0 < p + 1 := by omega
        have k1 : IntKind.i64.wrap (((p + 1 : Nat) : Int) - 1) = (p : Int) := by rw [show (((p + 1 : Nat) : Int) - 1) = (p : Int) by omega]; exact IntWalk.i64_in _ (by omega)
        have k2 : (p : Int) < (cs.length : Int) := by omega
        clear hri h2 hca' h0 h1' e1 h hz
        generalize cs[p + 1] = y at *
        go_wp2_with fail
        go_quiet (fail)
        clear k1
        go_wp2_with fail
        go_roundw
        case rel => exact ⟨p + 1 + 1, by omega, by go_num, hs.out, (by first | exact ⟨_, rfl⟩ | exact drawn2 _ _ _)⟩
        case measure => simp [intOf]; omega
    · have g1 : decide ((j:Int) < (cs.length : Int)) = false := by simp; omega
      have g2 : decide (j < cs.length) = false := by simp; omega
      have e : Hid (FromE cs 0) := .inl ⟨rfl, by have := hri.out; rwa [List.take_of_length_le (by omega)] at this⟩
      clear hri HA
      go_wp2_with fail
      go_ret
      exact ⟨_, rfl, e.out, _, rfl⟩
end Go.Proofs.Ytmijlflblhhfjaa
