/- amnesiaplain.Given.Intact: true where the lists that were handed out are as they were. Conditions: none beyond Given. -/
import Derived.Test.YtmfidhlhcochoaaGiven

namespace Go.Proofs.Ytmfidhlhcochoaa
open Go.RowKit
set_option linter.unusedVariables false
set_option linter.unusedSimpArgs false

set_option maxRecDepth 100000 in
theorem givenIntact (gb base : Nat) (G : List Gv) (w : World) (hg : Given w gb base G) (hG : G.length ≤ 100) :
    Calls Try.prog 35 #[.pointer (some ⟨gb, 0, none⟩)] w fun e w' => e = .returned (.bool true) ∧ ∃ q, w' = w.drewN q := by
  obtain ⟨ve, vw, W, hgb, hbase, hve, hvw, hne, hWG, hall⟩ := hg
  have hWl : W.length = G.length := by have := congrArg List.length hWG; simpa using this
  have ca : ∀ i, i < 4 ∨ 6 ≤ i ∧ i < 10 → w.cell? ⟨gb, i, none⟩ = some (.slice none 0 0) := by
    intro i hi
    rw [cell_of_row w gb i _ _ _ hgb]
    rcases hi with h | h
    · match i, h with
      | 0, _ => rfl
      | 1, _ => rfl
      | 2, _ => rfl
      | 3, _ => rfl
    · match i, h with
      | 6, _ => rfl
      | 7, _ => rfl
      | 8, _ => rfl
      | 9, _ => rfl
  have c0 := ca 0 (by omega)
  have c2 := ca 2 (by omega)
  have c6 := ca 6 (by omega)
  have c8 := ca 8 (by omega)
  have c4 : w.cell? ⟨gb, 4, none⟩ = some ve := cell_of_row w gb 4 _ _ _ hgb
  have c5 : w.cell? ⟨gb, 5, none⟩ = some vw := cell_of_row w gb 5 _ _ _ hgb
  obtain ⟨Ae, ce, he, hce⟩ := hve.form
  obtain ⟨Aw, cw, hw, hcw⟩ := hvw.form
  rw [List.length_map] at he
  rw [List.length_map, hWl] at hw
  subst he hw
  have re := Made.rd' encSlc.len hve
  have rw_ := Made.rd' encSlc.len hvw
  have HWL : Hid (W.length = G.length) := hWl
  clear ca hgb hve hvw hne hce hcw hWl
  go_enter Try.func35, Try.ntmps35
  go_wp2
  refine wp_loop_rounds 1 ?_
  rw [rounds_succ]
  go_wp2
  refine wp_loop_rounds 1 ?_
  rw [rounds_succ]
  go_wp2
  refine wp_loop_rounds 1 ?_
  rw [rounds_succ]
  go_wp2
  refine wp_loop_rounds 1 ?_
  rw [rounds_succ]
  go_wp2
  have HWG := Lib.hid hWG
  clear c0 c2 c6 c8 hWG
  go_loopw [7] (fun i wr => ∃ k : Nat, k ≤ G.length ∧ i = .int .i64 k ∧ ∃ q, wr = w.drewN q) (fun i _ => G.length - (intOf i).toNat)
  case atStart => exact ⟨0, by omega, rfl, 0, rfl⟩
  case round =>
    obtain ⟨k, hk, rfl, q, rfl⟩ := hrel
    by_cases h1 : k < G.length
    · have h2 : k < W.length := by have := HWL.out; omega
      obtain ⟨ae, hae, _, hce⟩ := re k (Gv.x G[k]) (by simp [h1])
      obtain ⟨aw, haw, _, hcw⟩ := rw_ k (Gv.x W[k]) (by simp [h2])
      subst hae haw
      have e0 : w.cell? (ae.add (k * 1)) = some (.slice G[k].A (G[k].l.length + 1) G[k].c) := hce 0 _ rfl
      have w0 : w.cell? (aw.add (k * 1)) = some (.slice W[k].A (W[k].l.length + 1) W[k].c) := hcw 0 _ rfl
      have hl : W[k].l = G[k].l := by
        have := congrArg (fun l => l[k]?) HWG.out
        simp [h1, h2] at this
        exact this
      have mg := hall G[k] (by simp)
      have mw := hall W[k] (by simp)
      have rg : Rd Entry.cells 5 w w.heap.size G[k].A (G[k].l ++ [mark]) := by
        refine Made.rd encEntry.len (e := 119) (base := base) (c := G[k].c) ?_
        rw [List.length_append, List.length_singleton]
        exact mg
      have rw' : Rd Entry.cells 5 w w.heap.size W[k].A (W[k].l ++ [mark]) := by
        refine Made.rd encEntry.len (e := 119) (base := base) (c := W[k].c) ?_
        rw [List.length_append, List.length_singleton]
        exact mw
      rw [hl] at w0 rw'
      rw [Nat.mul_one] at e0 w0
      have hcap : G[k].l.length + 1 ≤ maxLen := by
        obtain ⟨A, c, hv, hc⟩ := mg.form
        rcases mg.2 with ⟨_, h0⟩ | ⟨g, cap, cur, _, _, _, hc', hm, _⟩
        · simp at h0
        · simp at hc'; omega
      unfold maxLen at hcap
      have g1 : (k:Int) < (G.length : Int) := by omega
      clear hl mg mw hce hcw re rw_ hall
      generalize G[k].l = l at *
      generalize G[k].A = A at *
      generalize G[k].c = c at *
      generalize W[k].A = B at *
      generalize W[k].c = d at *
      go_wp2_with fail
      go_quiet ((go_at_call 66; exact quiet_add (sameTrue A B c d _ (l ++ [mark]) (by simp) _ (by simp; omega) (by exact rg) (by exact rw'))))
      go_wp2
      go_roundw
      case rel => exact ⟨k + 1, by omega, by go_num, by first | exact ⟨_, rfl⟩ | exact drawn2 _ _ _⟩
      case measure => simp [intOf]; omega
    · have g1 : decide ((k:Int) < (G.length : Int)) = false := by simp; omega
      go_wp2
      go_ret
      exact ⟨rfl, _, rfl⟩
end Go.Proofs.Ytmfidhlhcochoaa
