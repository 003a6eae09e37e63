/- amnesiaplain: copies and comparisons of entries. Conditions: lengths within Go's own limits. -/
import Derived.Test.YtmfidhlhcochoaaEq
import Derived.Test.YtmfidhlhcochoaaApp
import Derived.Deep.QuietTactic
import Derived.BigQuiet
import Derived.Deep.LoopGhost
namespace Go.Proofs.Ytmfidhlhcochoaa
open Go.RowKit
set_option linter.unusedVariables false
set_option linter.unusedSimpArgs false

theorem rowEntry : RowT Try.prog 75 119 5 48 := RowT.of (z := .agg #[.int .i64 0, .int .i64 0, .int .i64 0, .int .i64 0, .string ⟨#[]⟩]) Try.underlying75 (by kernel_rfl) rfl (by omega)
theorem rowEntries : RowT Try.prog 56 75 1 24 := RowT.of (z := .slice none 0 0) Try.underlying56 (by kernel_rfl) rfl (by omega)

theorem copyEntries (A : Option Addr) (c n : Nat) (xs : List Entry) (hn : n = xs.length) (w : World) (hb : xs.length * 48 ≤ 140737488355328) (ha : Rd Entry.cells 5 w w.heap.size A xs) :
    Calls Try.prog 62 #[.slice A n c] w fun e w' => ∃ A' c', e = .returned (.slice A' n c') ∧ Made Entry.cells 5 119 w.heap.size w' (.slice A' n c') xs ∧ Below w.heap.size w w' := by
  subst hn
  go_enter Try.func62, Try.ntmps62
  have hl : xs.length ≤ maxLen := by unfold maxLen; omega
  go_wp2_with (at_builtin; refine wpList_app (v := .slice none 0 0) (xs := []) rowEntry encEntry rfl (.const (.slice none 0 0)) (.tmp 3) rfl w.heap.size rfl (Made.nil _ _ _) rfl rfl ha (by simpa using hb) (by simpa using hl) (Nat.le_refl _) ?_; intro v1 w1 hm1 hg1 hat1)
  go_ret
  simp only [List.nil_append] at hm1
  obtain ⟨A', c', rfl, hc⟩ := hm1.form
  exact ⟨A', c', rfl, hm1, (Below.refl _ _).grown hg1 (Nat.le_refl _) (by simp [Value.ownBlock])⟩

set_option maxHeartbeats 400000 in
theorem sameEntries (A B : Option Addr) (c d n m : Nat) (xs ys : List Entry) (hxn : n = xs.length) (hym : m = ys.length) (w : World) (hn : xs.length ≤ 9223372036854775807) (hm : ys.length ≤ 9223372036854775807) (ha : Rd Entry.cells 5 w w.heap.size A xs) (hb : Rd Entry.cells 5 w w.heap.size B ys) :
    Calls Try.prog 66 #[.slice A n c, .slice B m d] w fun e w' => e = .returned (.bool (decide (xs = ys))) ∧ ∃ q, w' = w.drewN q := by
  subst hxn; subst hym
  by_cases hl : xs.length = ys.length
  · have hq : ((xs.length : Int) == (ys.length : Int)) = true := by simp; omega
    have hq' : ((xs.length : Int) != (ys.length : Int)) = false := by simp; omega
    have hle : ys.length ≤ xs.length := by omega
    have HL := Lib.hid hl
    clear hl
    go_enter Try.func66, Try.ntmps66
    go_wp2
    go_loopw [5] (fun i wr => ∃ k : Nat, k ≤ xs.length ∧ i = .int .i64 k ∧ xs.take k = ys.take k ∧ ∃ q, wr = w.drewN q) (fun i _ => xs.length - (intOf i).toNat)
    case atStart => exact ⟨0, by omega, rfl, by simp, 0, rfl⟩
    case round =>
      obtain ⟨k, hk, rfl, hc, q, rfl⟩ := hrel
      have HC := Lib.hid hc
      clear hc
      by_cases h1 : k < xs.length
      · have h2 : k < ys.length := by have := HL.out; omega
        obtain ⟨ad, rfl, _, hca⟩ := ha.at_ h1
        obtain ⟨bd, rfl, _, hcb⟩ := hb.at_ h2
        have g1 : (k:Int) < (xs.length : Int) := by omega
        have g2 : (k:Int) < (ys.length : Int) := by omega
        obtain ⟨c0, c1, c2, c3, c4⟩ := hca.five
        obtain ⟨d0, d1, d2, d3, d4⟩ := hcb.five
        clear hca hcb ha hb
        have he := neq_entry xs[k] ys[k]
        have hg := guard_entry
        by_cases hxy : xs[k] = ys[k]
        · have hd : decide (xs[k] = ys[k]) = true := by simpa using hxy
          have hs : Hid (xs.take (k + 1) = ys.take (k + 1)) := by
            rw [List.take_succ_eq_append_getElem h1, List.take_succ_eq_append_getElem h2, HC.out, hxy]
            exact rfl
          rw [hd] at he
          clear hxy hd
          generalize xs[k] = x at *
          generalize ys[k] = y at *
          go_wp2_with fail
          go_quiet (fail)
          go_wp2
          go_roundw
          case rel => exact ⟨k + 1, by omega, by go_num, hs.out, (by first | exact ⟨_, rfl⟩ | exact drawn2 _ _ _)⟩
          case measure => simp [intOf]; omega
        · have hd : decide (xs[k] = ys[k]) = false := by simpa using hxy
          have hs : Hid (¬ xs = ys) := fun e => hxy (by subst e; rfl)
          rw [hd] at he
          clear hxy hd
          generalize xs[k] = x at *
          generalize ys[k] = y at *
          go_wp2_with fail
          go_quiet (fail)
          go_wp2
          go_ret
          exact ⟨ret_bool' (by simpa using hs.out), (by first | exact ⟨_, rfl⟩ | exact drawn2 _ _ _)⟩
      · have g2 : decide ((k:Int) < (xs.length : Int)) = false := by simp; omega
        have hs : Hid (xs = ys) := by
          have h3 := HC.out
          rwa [List.take_of_length_le (by omega), List.take_of_length_le (by have := HL.out; omega)] at h3
        clear ha hb
        go_wp2
        go_ret
        exact ⟨ret_bool' (by simpa using hs.out), _, rfl⟩
  · have hq : ((xs.length : Int) == (ys.length : Int)) = false := by simp; omega
    have hq' : ((xs.length : Int) != (ys.length : Int)) = true := by simp; omega
    have hs : Hid (¬ xs = ys) := fun e => hl (by rw [e])
    clear hl ha hb
    go_enter Try.func66, Try.ntmps66
    go_wp2
    go_ret
    exact ⟨ret_bool' (by simpa using hs.out), 0, rfl⟩
theorem sameTrue (A B : Option Addr) (c d n : Nat) (xs : List Entry) (hxn : n = xs.length) (w : World) (hn : xs.length ≤ 9223372036854775807) (ha : Rd Entry.cells 5 w w.heap.size A xs) (hb : Rd Entry.cells 5 w w.heap.size B xs) :
    Calls Try.prog 66 #[.slice A n c, .slice B n d] w fun e w' => e = .returned (.bool true) ∧ ∃ q, w' = w.drewN q :=
  (sameEntries A B c d n n xs xs hxn hxn w hn hn ha hb).mono fun _ _ ⟨he, hw⟩ => ⟨by rw [he]; simp, hw⟩
end Go.Proofs.Ytmfidhlhcochoaa
