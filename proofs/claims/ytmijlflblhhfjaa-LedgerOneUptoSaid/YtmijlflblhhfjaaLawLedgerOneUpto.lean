/- LedgerOne: the statement, whatever the arguments: the call returns true and each argument reads as before. Conditions: none. -/
import Derived.Test.YtmijlflblhhfjaaOne
import Derived.Test.YtmijlflblhhfjaaOpen3
import Derived.Test.YtmijlflblhhfjaaFacts
import Derived.Test.YtmijlflblhhfjaaBulk
import Derived.JoinedCond
import Derived.Deep.CondSized
namespace Go.Proofs.Ytmijlflblhhfjaa.lawLedgerOneUpto
open Go.ChangeShapes Go.WideShapes Go.ChangeAt Go.RowKit Go.Deep
open Go.ChangeMaps (open_string shut_string)
set_option linter.unusedVariables false
set_option linter.unusedSimpArgs false

set_option maxRecDepth 100000 in
theorem lifted (os : Os) (started : os.Started) (H : Type) (enc : TypeId × Value → H) (I : Stop.Interp) :
    ReturnsInHanded {} Try.checked os 11 .any ((Rows.OpenSpec.upto Rows.ledgerOneSpec).pre6 enc Try.prog Try.f11 Rows.ledgerOneUptoRow.domain false) (((Rows.OpenSpec.upto Rows.ledgerOneSpec).at I).post enc Try.prog Try.f11 false true false false) := by
  refine returnsInHanded_of_cond_sized (C := Try.checked) (s := Rows.OpenSpec.upto Rows.ledgerOneSpec) (k := Rows.uptoSmall) rfl own_ started (by kernel_rfl) Try.func11
    (OpenSpec.witness (enc := enc) (C := Try.checked) (s := Rows.OpenSpec.upto Rows.ledgerOneSpec) (k := Rows.uptoSmall) rfl false ⟨#[], #[.slice none 0 0, .slice none 0 0], []⟩ 8 (by kernel_rfl) (by kernel_rfl) (by kernel_rfl)
      (x := ([.nil, .nil], [], [])) (by kernel_rfl) rfl (by kernel_rfl)) ?_
  intro W base args ds gs before hval0 hW hcnd hk hsz _
  have hval : ∀ (j : Nat) t v, Try.f11.params[j]? = some t → args[j]? = some v → Value.okWide Try.prog W .any base t v := hval0
  have hW' := hW
  obtain ⟨p, q, hA0, hV, rfl, hfz, hnd⟩ := hW
  have hA : DataW.TrodAll enc Try.prog W 0 (fun _ => true) true Try.f11.params.toList args.toList ds p := hA0
  have hA' := hA
  rw [Try.params11] at hA hval
  obtain ⟨v0, vs0, d0, ds0, p0, q0, hargs, rfl, rfl, h0, r0⟩ := trodAll_cons hA
  obtain ⟨v1, vs1, d1, ds1, p1, q1, rfl, rfl, rfl, h1, r1⟩ := trodAll_cons r0
  obtain ⟨rfl, rfl, rfl⟩ := trodAll_nil r1
  obtain rfl : args = #[v0, v1] := by cases args; simp_all
  obtain ⟨rfl, rfl⟩ := trodVars_none hV
  obtain ⟨A0, c0, n0, xs0, rfl, hn0, hc0, hr0, hw0, hd0⟩ := open_list (wf := Op.wf) rowOp (by kernel_rfl) encOp.len trod_op (hval 0 31 v0 rfl rfl) h0
  have hs0 : xs0.length * 32 ≤ 140737488351232 := sized_list hsz (j := 0) (t := 31) rfl rfl Try.underlying31 (by kernel_rfl) hd0
  have hm0 : xs0.length ≤ 1048576 := bulk_slice (H := H) hk (d := d0) (by simp) hd0
  obtain ⟨A1, c1, n1, xs1, rfl, hn1, hc1, hr1, hw1, hd1⟩ := open_list (wf := Op.wf) rowOp (by kernel_rfl) encOp.len trod_op (hval 1 31 v1 rfl rfl) h1
  have hs1 : xs1.length * 32 ≤ 140737488351232 := sized_list hsz (j := 1) (t := 31) rfl rfl Try.underlying31 (by kernel_rfl) hd1
  have hm1 : xs1.length ≤ 1048576 := bulk_slice (H := H) hk (d := d1) (by simp) hd1
  refine (one_law W A0 c0 n0 xs0 hn0 hc0 hr0 hw0 hs0 hm0 A1 c1 n1 xs1 hn1 hc1 hr1 hw1 hs1 hm1).mono fun e W' ⟨he, bel⟩ => ?_
  subst he
  exact ⟨_, rfl, _, _, _, [], _, [], hW', trodAll_mk1 (shut_bool Try.underlying4 _), trodAll_below bel _ _ _ _ ⟨rdO, rdO, trivial⟩ hA', rfl, bel.frame _, fun h => by cases h⟩

set_option maxRecDepth 100000 in
set_option maxHeartbeats 8000000 in
theorem closed : joinedFacts Try.prog 11 Try.f11 (Rows.OpenSpec.upto Rows.ledgerOneSpec).bare Rows.ledgerOneUptoRow = true := by
  unfold joinedFacts
  repeat (with_reducible refine Bool.and_eq_true_iff.2 ⟨?_, ?_⟩)
  all_goals first | with_reducible exact fMayEnter | with_reducible exact fHeard | with_reducible exact fLaid | with_reducible exact fMaps | with_reducible exact fStops | with_reducible exact fKnobs | (rw [fLifts]; kernel_rfl) | (rw [fMake]; kernel_rfl) | (rw [fKeys]; kernel_rfl) | (as_aux_lemma => kernel_rfl)

theorem proved : Rows.LedgerOneUptoSaid :=
  OpenClaim.holds_of_cond 11 Try.f11 rfl rfl rfl rfl rfl rfl rfl ⟨rfl, rfl, rfl, rfl, rfl⟩ rfl rfl rfl rfl rfl (by kernel_rfl) Try.func11 closed
    (of_decide_eq_true (by kernel_rfl)) (by unfold Func.isWrapper; rw [if_neg (of_decide_eq_false (by kernel_rfl))]; exact ⟨rfl, rfl⟩)
    (fun os started H enc _ I => lifted os started H enc I)
#print axioms proved
end Go.Proofs.Ytmijlflblhhfjaa.lawLedgerOneUpto
