/- same, lent, kept of layer 18. Conditions: Go lengths. -/
import Derived.Test.YtmfidhlhcochoaaLinM1
import Derived.Test.YtmfidhlhcochoaaStore
import Derived.Test.YtmfidhlhcochoaaSrchSt
namespace Go.Proofs.Ytmfidhlhcochoaa
open Go.RowKit
set_option linter.unusedVariables false
set_option linter.unusedSimpArgs false

set_option maxHeartbeats 1600000 in
theorem sameCalls (A B : Option Addr) (c d n : Nat) (xs : List Call) (hxn : n = xs.length) (w : World) (hn : xs.length ≤ 9223372036854775806) (ha : Rd Call.cells 10 w w.heap.size A xs) (hb : Rd Call.cells 10 w w.heap.size B xs) :
    Calls Try.prog 23 #[.slice A n c, .slice B n d] w fun e w' => e = .returned (.bool true) ∧ ∃ q, w' = w.drewN q := by
  subst hxn
  have HA := Lib.hid ha
  have HB := Lib.hid hb
  clear ha hb
  go_enter Try.func23, Try.ntmps23
  go_wp2
  go_loopw [5] (fun i wr => ∃ k : Nat, k ≤ xs.length ∧ i = .int .i64 k ∧ ∃ q, wr = w.drewN q) (fun i _ => xs.length - (intOf i).toNat)
  case atStart => exact ⟨0, by omega, rfl, 0, rfl⟩
  case round =>
    obtain ⟨k, hk, rfl, q, rfl⟩ := hrel
    by_cases h1 : k < xs.length
    · obtain ⟨ad, hA, _, hca⟩ := HA.out.at_ h1
      obtain ⟨bd, hB, _, hcb⟩ := HB.out.at_ h1
      subst hA; subst hB
      have g1 : (k:Int) < (xs.length : Int) := by omega
      obtain ⟨c0, c1, c2, c3, c4, c5, c6, c7, c8, c9⟩ := hca.call
      obtain ⟨d0, d1, d2, d3, d4, d5, d6, d7, d8, d9⟩ := hcb.call
      have he := neq_call xs[k] xs[k]
      simp only [decide_true, Bool.not_true] at he
      have hg := guard_call
      clear hca hcb
      generalize xs[k] = x at *
      go_wp2_with fail
      go_quiet (fail)
      go_wp2
      go_roundw
      case rel => exact ⟨k + 1, by omega, by go_num, (by first | exact ⟨_, rfl⟩ | exact drawn2 _ _ _)⟩
      case measure => simp [intOf]; omega
    · have g2 : decide ((k:Int) < (xs.length : Int)) = false := by simp; omega
      go_wp2
      go_ret
      exact ⟨rfl, _, rfl⟩

def markC : Call := ⟨-77, 0, ⟨0, 0, ⟨#[]⟩⟩, 0, 0, ⟨0, 0, ⟨#[]⟩⟩⟩
set_option maxHeartbeats 1600000 in
theorem lent_prog (A : Option Addr) (c n : Nat) (l : List Call) (hn : n = l.length) (w : World) (hb : (l.length + 1) * 96 ≤ 140737488355328) (ha : Rd Call.cells 10 w w.heap.size A l) :
    Calls Try.prog 30 #[.slice A n c] w fun e w' => ∃ g c', e = .returned (.slice (some ⟨g, 0, none⟩) n c') ∧ Made Call.cells 10 45 w.heap.size w' (.slice (some ⟨g, 0, none⟩) (n + 1) c') (l ++ [markC]) ∧ n + 1 ≤ c' ∧ Below w.heap.size w w' := by
  subst hn
  have hl : l.length + 1 ≤ maxLen := by unfold maxLen; omega
  have HA := Lib.hid ha
  clear ha
  go_enter Try.func30, Try.ntmps30
  go_wp2_with (at_builtin; first
    | (refine wpList_app (v := .slice none 0 0) (xs := []) rowCall encCall rfl (.tmp 4) (.tmp 5) rfl w.heap.size rfl (Made.nil _ _ _) rfl rfl HA.out (by simp; omega) (by simp; omega) (Nat.le_refl _) ?_; intro v1 w1 hm1 hg1 hat1; obtain ⟨A1, c1, rfl, hc1⟩ := hm1.form; simp only [List.nil_append] at hm1; have hgb1 := Below.grown (Below.refl _ _) hg1 (Nat.le_refl w.heap.size) (by simp [Value.ownBlock]); have HM1 := Lib.hid hm1; have HB1 := Lib.hid hgb1; have HRD1 := Lib.hid (rd_one encCall w1 markC #[.int .i64 (-77), .int .i64 0, .int .i64 0, .int .i64 0, .string ⟨#[]⟩, .int .i64 0, .int .i64 0, .int .i64 0, .int .i64 0, .string ⟨#[]⟩] rfl 45); clear hm1 hg1 hat1 hgb1 hc1)
    | (refine wpList_app (v := .slice A1 l.length c1) (xs := l) (ys := [markC]) rowCall encCall rfl (.tmp 7) (.tmp 9) rfl w.heap.size rfl (HM1.out.alloc _) rfl rfl HRD1.out (by simp only [List.length_singleton]; omega) (by simp only [List.length_singleton]; omega) (by simp; have := HB1.out.size; omega) ?_; intro v2 w2 hm2 hg2 hat2; obtain ⟨A2, c2, rfl, hc2⟩ := hm2.form; rw [show (l ++ [markC]).length = l.length + 1 by simp] at hm2 hc2 ⊢; have hg2b := Below.grown ((HB1.out.alloc HB1.out.size _) : Below w.heap.size w (w1.alloc _)) hg2 (by simp; have := HB1.out.size; omega) (fun q e => (HM1.out.lt q e).1); have HM2 := Lib.hid hm2; have HB2 := Lib.hid hg2b; have hne := hm2.addrN (by omega); have hsl : ∀ W : World, (Instr.slice 22 (.slice A2 (l.length + 1) c2) none (some (.int .i64 l.length)) none).run Try.prog W = .ok (.slice A2 l.length c2) W := (by have hu2 := Try.underlying22; have huc : l.length ≤ c2 := (by omega); intro W; cases A2 with | none => exact absurd rfl hne | some ad => go_simp); clear hm2 hg2 hat2 hg2b))
  go_ret
  cases A2 with
  | none => exact absurd rfl hne
  | some ad =>
    obtain ⟨g, hg, _, _⟩ := Made.head (xs := l ++ [markC]) (c := c2) (by rw [show (l ++ [markC]).length = l.length + 1 by simp]; exact HM2.out)
    subst hg
    exact ⟨g, c2, rfl, HM2.out, hc2, HB2.out⟩

theorem addr_flat (g i : Nat) : (⟨g, 0, none⟩ : Addr).add i = ⟨g, i, none⟩ := by
  unfold Addr.add
  by_cases hi : i = 0
  · subst hi; simp
  · simp [hi]
set_option maxHeartbeats 1600000 in
theorem kept_prog (g c d n : Nat) (A : Option Addr) (l : List Call) (hn : n = l.length) (w : World) {base : Nat} (hl : l.length ≤ 9223372036854775800) (hc : n + 1 ≤ c) (ho : Made Call.cells 10 45 base w (.slice (some ⟨g, 0, none⟩) (n + 1) c) (l ++ [markC])) (ha : Rd Call.cells 10 w w.heap.size A l) :
    Calls Try.prog 34 #[.slice (some ⟨g, 0, none⟩) n c, .slice A n d] w fun e w' => e = .returned (.bool true) ∧ ∃ q, w' = w.drewN q := by
  subst hn
  have hrd := Made.rd' encCall.len ho
  have hro : Rd Call.cells 10 w w.heap.size (some ⟨g, 0, none⟩) l := by
    have h1 := hrd.take l.length
    rwa [List.take_left] at h1
  obtain ⟨ad, hA, _, hca⟩ := hrd.at_ (i := l.length) (by simp)
  cases hA
  have hm : (l ++ [markC])[l.length]'(by simp) = markC := by simp
  rw [hm] at hca
  have x0 : w.cell? ⟨g, l.length * 10, none⟩ = some (.int .i64 (-77)) := by
    have h1 := hca.call.c0
    rw [addr_flat] at h1
    exact h1
  obtain ⟨m, hmm⟩ : ∃ m, m = l.length + 1 := ⟨_, rfl⟩
  have kw : IntKind.i64.wrap ((l.length:Int) + 1) = (m : Int) := by rw [show ((l.length:Int) + 1) = (m : Int) by omega]; exact IntWalk.i64_in _ (by omega)
  have hmc : m ≤ c := by omega
  have hlm : (l.length : Int) < (m : Int) := by omega
  have hlm2 : l.length < m := by omega
  have hsl : ∀ W : World, (Instr.slice 22 (.slice (some ⟨g, 0, none⟩) l.length c) none (some (.int .i64 (m : Nat))) none).run Try.prog W = .ok (.slice (some ⟨g, 0, none⟩) m c) W := by
    have hu2 := Try.underlying22
    clear hmm kw hc ho ha
    intro W
    go_simp
  have HRO := Lib.hid hro
  have HA := Lib.hid ha
  clear hrd hro hca hm ha ho hmm hc
  go_enter Try.func34, Try.ntmps34
  go_wp2_with fail
  refine (sameCalls (some ⟨g, 0, none⟩) A c d l.length l rfl w (by omega) HRO.out HA.out).mono ?_
  rintro e w1 ⟨rfl, q, rfl⟩
  dsimp only
  go_wp2_with (first | (rw [hsl]) | fail)
  go_ret
  exact ⟨rfl, _, rfl⟩
end Go.Proofs.Ytmfidhlhcochoaa
