/- A function's one result that lies in a box. Conditions: none. -/
import Derived.Test.YtbdcpoagdbkgeaaKeeps
import Derived.RangeFuncLeaves
namespace Go.Proofs.Ytbdcpoagdbkgeaa
open Go.RowKit Go.Shelf
set_option linter.unusedVariables false
set_option linter.unusedSimpArgs false
attribute [local go_sem] Oper.semAt_some

theorem results_cell1 {P : Program} {fn : Func} {p : Tmp} {ty : TypeId} (h : fn.results = #[.cell p ty]) (tmps : Array Value) (w : World) (g : Nat) (v : Value) (hp : tmps.getD p undef = .pointer (some ⟨g, 0, none⟩)) (ha : ∀ W, (isAgg ty).run P W = .ok false W) (hc : w.cell? ⟨g, 0, none⟩ = some v) :
    (results fn tmps).run P w = .ok v w := by
  have hp' : tmps[p]?.getD undef = .pointer (some ⟨g, 0, none⟩) := by simpa using hp
  simp [results, h, hp', asAddr, loadVar, Sem.run_bind, ha, run_load, hc]
/-- The marks of ranges over functions are taken, one by one, at the end. -/
theorem leaves_marks {F : Fence} {n : Nat} {P : Program} {fn : Func} {tmps : Array Value} {R : Ending → World → Prop} {B : Nat} : ∀ (Ds : List Nat) {w : World}, (∀ D ∈ Ds, w.heap[D]? = some (.deferred (some [])) ∧ B ≤ D) → Ds.Nodup →
    (∀ w', Below B w w' → LeavesIn F n P fn tmps R [] .returning w') → LeavesInM F n P fn tmps R (Ds.map fun D => { target := .collected D, args := #[] }) .returning w
  | [], w, _, _, h => by simpa [LeavesInM] using h w (Below.refl _ _)
  | D :: Ds, w, hD, hn, h => by
    obtain ⟨h1, hBD⟩ := hD D (by simp)
    have hlt := (Array.getElem?_eq_some_iff.1 h1).1
    have hn' := List.nodup_cons.1 hn
    have hb : Below B w (w.putObj D (.deferred none)) := (Below.refl B w).grown (grownBy_putObj' w D _) (by omega) (fun k e => by cases e; omega)
    refine ⟨by simp, .inl ⟨_, _, rfl, run_takeDeferred h1, leaves_marks Ds (fun E hE => ?_) hn'.2 fun w' hw => h w' (hb.trans hw)⟩⟩
    exact ⟨(World.putObj_heap_other (fun e => hn'.1 (by rw [← e]; exact hE))).trans (hD E (by simp [hE])).1, (hD E (by simp [hE])).2⟩
theorem aggBool (W : World) : (isAgg 4).run Try.prog W = .ok false W := by simp [isAgg, run_underlying Try.underlying4]
end Go.Proofs.Ytbdcpoagdbkgeaa
