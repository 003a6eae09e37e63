/- LinearCalls: the statement, whatever the arguments: the call returns true and each argument reads as before. Conditions: none. -/
import Derived.Test.YtmfidhlhcochoaaOpenRows18
import Derived.Test.YtmfidhlhcochoaaOpen3
import Derived.Test.YtmfidhlhcochoaaFacts
namespace Go.Proofs.Ytmfidhlhcochoaa.lawLinearCalls
open Go.ChangeShapes Go.WideShapes Go.ChangeAt Go.RowKit Go.Deep
open Go.ChangeMaps (open_string shut_string)
set_option linter.unusedVariables false
set_option linter.unusedSimpArgs false

set_option maxRecDepth 100000 in
theorem lifted (os : Os) (started : os.Started) (H : Type) (enc : TypeId × Value → H) :
    ReturnsInHanded {} Try.checked os 7 .any (Rows.linearCallsSpec.pre6 enc Try.prog Try.f7 Rows.linearCallsRow.domain false) (Rows.linearCallsSpec.post enc Try.prog Try.f7 false true false false) := by
  refine returnsInHanded_of_change_sized (C := Try.checked) own_ started (by kernel_rfl) Try.func7
    (ChangeSpec.witness6 (enc := enc) (C := Try.checked) false ⟨#[], #[.slice none 0 0], []⟩ 8 (by kernel_rfl) (by kernel_rfl) (by kernel_rfl) (by kernel_rfl)) ?_
  intro W base args ds gs before hval0 hW hcnd hsz _
  have hval : ∀ (j : Nat) t v, Try.f7.params[j]? = some t → args[j]? = some v → Value.okWide Try.prog W .any base t v := hval0
  have hW' := hW
  obtain ⟨p, q, hA0, hV, rfl, hfz, hnd⟩ := hW
  have hA : DataW.TrodAll enc Try.prog W 0 (fun _ => true) true Try.f7.params.toList args.toList ds p := hA0
  have hA' := hA
  rw [Try.params7] at hA hval
  obtain ⟨v0, vs0, d0, ds0, p0, q0, hargs, rfl, rfl, h0, r0⟩ := trodAll_cons hA
  obtain ⟨rfl, rfl, rfl⟩ := trodAll_nil r0
  obtain rfl : args = #[v0] := by cases args; simp_all
  obtain ⟨rfl, rfl⟩ := trodVars_none hV
  obtain ⟨A0, c0, n0, xs0, rfl, hn0, hc0, hr0, hp0⟩ := open_seen (hval 0 68 v0 rfl rfl) h0
  have hs0 := sized_seen hsz (j := 0) rfl rfl hp0
  refine (calls18_law W A0 c0 n0 xs0 hn0 hc0 hr0 hs0).mono fun e W' ⟨he, bel⟩ => ?_
  subst he
  exact ⟨_, rfl, _, _, _, [], _, [], hW', trodAll_mk1 (shut_bool Try.underlying4 _), trodAll_below bel _ _ _ _ ⟨rdN, trivial⟩ hA', rfl, bel.frame _, fun h => by cases h⟩

theorem fNamed : Try.prog.funcNamed Rows.linearCallsRow.func = some 7 := by kernel_rfl
theorem fInst : Try.f7.isInstance Try.prog Rows.linearCallsRow.origin Rows.linearCallsRow.targs := of_decide_eq_true (by kernel_rfl)
theorem fWrap : Try.f7.isWrapper Try.prog Rows.linearCallsRow.wrapper Rows.linearCallsRow.mainSum := by unfold Func.isWrapper; rw [if_neg (of_decide_eq_false (by kernel_rfl))]; exact ⟨rfl, rfl⟩
set_option maxRecDepth 100000 in
set_option maxHeartbeats 8000000 in
theorem closed : joinedFacts Try.prog 7 Try.f7 Rows.linearCallsSpec Rows.linearCallsRow = true := by
  unfold joinedFacts
  repeat (with_reducible refine Bool.and_eq_true_iff.2 ⟨?_, ?_⟩)
  all_goals first | with_reducible exact fMayEnter | with_reducible exact fHeard | with_reducible exact fLaid | with_reducible exact fMaps | with_reducible exact fStops | with_reducible exact fKnobs | (rw [fLifts]; kernel_rfl) | (rw [fMake]; kernel_rfl) | (rw [fKeys]; kernel_rfl) | (as_aux_lemma => kernel_rfl)

theorem proved : Rows.LinearCallsSaid :=
  OpenClaim.holds_of_wide 7 Try.f7 rfl rfl rfl rfl rfl rfl rfl ⟨rfl, rfl, rfl, rfl, rfl⟩ rfl rfl rfl rfl rfl fNamed Try.func7 closed fInst fWrap
    (fun os started H enc _ => lifted os started H enc)
#print axioms proved
end Go.Proofs.Ytmfidhlhcochoaa.lawLinearCalls
