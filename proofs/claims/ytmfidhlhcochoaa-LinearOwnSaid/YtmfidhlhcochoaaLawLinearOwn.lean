/- LinearOwn: the statement, whatever the arguments: the call returns true and each argument reads as before. Conditions: none. -/
import Derived.Test.YtmfidhlhcochoaaOwn18
import Derived.Test.YtmfidhlhcochoaaOpen3
import Derived.Test.YtmfidhlhcochoaaFacts
namespace Go.Proofs.Ytmfidhlhcochoaa.lawLinearOwn
open Go.ChangeShapes Go.WideShapes Go.ChangeAt Go.RowKit Go.Deep
open Go.ChangeMaps (open_string shut_string)
set_option linter.unusedVariables false
set_option linter.unusedSimpArgs false

set_option maxRecDepth 100000 in
theorem lifted (os : Os) (started : os.Started) (H : Type) (enc : TypeId × Value → H) :
    ReturnsInHanded {} Try.checked os 6 .any (Rows.linearOwnSpec.pre6 enc Try.prog Try.f6 Rows.linearOwnRow.domain false) (Rows.linearOwnSpec.post enc Try.prog Try.f6 false true false false) := by
  refine returnsInHanded_of_change_sized (C := Try.checked) own_ started (by kernel_rfl) Try.func6
    (ChangeSpec.witness6 (enc := enc) (C := Try.checked) false ⟨#[], #[.slice none 0 0, .slice none 0 0, .int .i64 0], []⟩ 8 (by kernel_rfl) (by kernel_rfl) (by kernel_rfl) (by kernel_rfl)) ?_
  intro W base args ds gs before hval0 hW hcnd hsz _
  have hval : ∀ (j : Nat) t v, Try.f6.params[j]? = some t → args[j]? = some v → Value.okWide Try.prog W .any base t v := hval0
  have hW' := hW
  obtain ⟨p, q, hA0, hV, rfl, hfz, hnd⟩ := hW
  have hA : DataW.TrodAll enc Try.prog W 0 (fun _ => true) true Try.f6.params.toList args.toList ds p := hA0
  have hA' := hA
  rw [Try.params6] at hA hval
  obtain ⟨v0, vs0, d0, ds0, p0, q0, hargs, rfl, rfl, h0, r0⟩ := trodAll_cons hA
  obtain ⟨v1, vs1, d1, ds1, p1, q1, rfl, rfl, rfl, h1, r1⟩ := trodAll_cons r0
  obtain ⟨v2, vs2, d2, ds2, p2, q2, rfl, rfl, rfl, h2, r2⟩ := trodAll_cons r1
  obtain ⟨rfl, rfl, rfl⟩ := trodAll_nil r2
  obtain rfl : args = #[v0, v1, v2] := by cases args; simp_all
  obtain ⟨rfl, rfl⟩ := trodVars_none hV
  obtain ⟨A0, c0, n0, xs0, rfl, hn0, hc0, hr0, hw0, hd0⟩ := open_list (wf := Call.wf) rowCall (by kernel_rfl) encCall.len trod_call (hval 0 22 v0 rfl rfl) h0
  have hs0 : xs0.length * 96 ≤ 140737488351232 := sized_list hsz (j := 0) (t := 22) rfl rfl Try.underlying22 (by kernel_rfl) hd0
  obtain ⟨A1, c1, n1, xs1, rfl, hn1, hc1, hr1, hw1, hd1⟩ := open_list (wf := Call.wf) rowCall (by kernel_rfl) encCall.len trod_call (hval 1 22 v1 rfl rfl) h1
  have hs1 : xs1.length * 96 ≤ 140737488351232 := sized_list hsz (j := 1) (t := 22) rfl rfl Try.underlying22 (by kernel_rfl) hd1
  obtain ⟨x2, rfl, _, _, w2⟩ := open_int Try.underlying3 (hval 2 3 v2 rfl rfl) h2
  refine (own18_law W A0 c0 n0 xs0 hn0 hc0 hr0 hw0 hs0 A1 c1 n1 xs1 hn1 hc1 hr1 hw1 hs1 x2 (bounds_i64 w2)).mono fun e W' ⟨he, bel⟩ => ?_
  subst he
  exact ⟨_, rfl, _, _, _, [], _, [], hW', trodAll_mk1 (shut_bool Try.underlying4 _), trodAll_below bel _ _ _ _ ⟨rdL, rdL, rdi, trivial⟩ hA', rfl, bel.frame _, fun h => by cases h⟩

theorem fNamed : Try.prog.funcNamed Rows.linearOwnRow.func = some 6 := by kernel_rfl
theorem fInst : Try.f6.isInstance Try.prog Rows.linearOwnRow.origin Rows.linearOwnRow.targs := of_decide_eq_true (by kernel_rfl)
theorem fWrap : Try.f6.isWrapper Try.prog Rows.linearOwnRow.wrapper Rows.linearOwnRow.mainSum := by unfold Func.isWrapper; rw [if_neg (of_decide_eq_false (by kernel_rfl))]; exact ⟨rfl, rfl⟩
set_option maxRecDepth 100000 in
set_option maxHeartbeats 8000000 in
theorem closed : joinedFacts Try.prog 6 Try.f6 Rows.linearOwnSpec Rows.linearOwnRow = true := by
  unfold joinedFacts
  repeat (with_reducible refine Bool.and_eq_true_iff.2 ⟨?_, ?_⟩)
  all_goals first | with_reducible exact fMayEnter | with_reducible exact fHeard | with_reducible exact fLaid | with_reducible exact fMaps | with_reducible exact fStops | with_reducible exact fKnobs | (rw [fLifts]; kernel_rfl) | (rw [fMake]; kernel_rfl) | (rw [fKeys]; kernel_rfl) | (as_aux_lemma => kernel_rfl)

theorem proved : Rows.LinearOwnSaid :=
  OpenClaim.holds_of_wide 6 Try.f6 rfl rfl rfl rfl rfl rfl rfl ⟨rfl, rfl, rfl, rfl, rfl⟩ rfl rfl rfl rfl rfl fNamed Try.func6 closed fInst fWrap
    (fun os started H enc _ => lifted os started H enc)
#print axioms proved
end Go.Proofs.Ytmfidhlhcochoaa.lawLinearOwn
