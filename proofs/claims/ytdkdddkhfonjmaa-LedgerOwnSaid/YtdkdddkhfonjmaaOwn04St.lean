/- LedgerOwn: what lives while it runs, as one predicate. Conditions: none. -/
import Derived.Test.YtdkdddkhfonjmaaOwn04Plain
namespace Go.Proofs.Ytdkdddkhfonjmaa
open Go.RowKit
set_option linter.unusedVariables false
set_option linter.unusedSimpArgs false

structure OwnSt (w W : World) (b1 mb1 b2 mb2 bk : Nat) (cs ds : List Cell) (vO : Value) (os : List Op) (vC vS : Value) (LC LS : List Bk) (CV : List (Value × List Cell)) (RV : List (Value × List Res)) : Prop where
  below : Below w.heap.size w W
  two : Two W w.heap.size b1 mb1 b2 mb2 cs ds
  own : Made Op.cells 3 38 w.heap.size W vO os
  book : BookC W bk w.heap.size (.slice none 0 0) vC (.slice none 0 0) vS [] LC [] LS
  oc : Outs Cell.cells 2 29 w.heap.size W CV
  or : Outs Res.cells 3 35 w.heap.size W RV
  hbk : w.heap.size ≤ bk
section
variable {w W W' : World} {b1 mb1 b2 mb2 bk : Nat} {cs ds : List Cell} {vO vO' : Value} {os os' : List Op} {vC vS vC' vS' : Value} {LC LS LC' LS' : List Bk} {CV : List (Value × List Cell)} {RV : List (Value × List Res)}
theorem OwnSt.step (h : OwnSt w W b1 mb1 b2 mb2 bk cs ds vO os vC vS LC LS CV RV) (hb : Below W.heap.size W W') : OwnSt w W' b1 mb1 b2 mb2 bk cs ds vO os vC vS LC LS CV RV :=
  ⟨h.below.trans (hb.mono h.below.size), h.two.below hb, h.own.below hb fun b q => (h.own.lt b q).2, h.book.below hb, h.oc.below hb, h.or.below hb, h.hbk⟩
theorem OwnSt.addC (h : OwnSt w W b1 mb1 b2 mb2 bk cs ds vO os vC vS LC LS CV RV) (hb : Below W.heap.size W W') {v : Value} {xs : List Cell} (hm : Made Cell.cells 2 29 W.heap.size W' v xs) : OwnSt w W' b1 mb1 b2 mb2 bk cs ds vO os vC vS LC LS (CV ++ [(v, xs)]) RV :=
  { h.step hb with oc := h.oc.add hb h.below.size hm }
theorem OwnSt.addR (h : OwnSt w W b1 mb1 b2 mb2 bk cs ds vO os vC vS LC LS CV RV) (hb : Below W.heap.size W W') {v : Value} {xs : List Res} (hm : Made Res.cells 3 35 W.heap.size W' v xs) : OwnSt w W' b1 mb1 b2 mb2 bk cs ds vO os vC vS LC LS CV (RV ++ [(v, xs)]) :=
  { h.step hb with or := h.or.add hb h.below.size hm }
theorem OwnSt.add2 (h : OwnSt w W b1 mb1 b2 mb2 bk cs ds vO os vC vS LC LS CV RV) (hb : Below W.heap.size W W') {v : Value} {xs : List Cell} (hm : Made Cell.cells 2 29 W.heap.size W' v xs) {u : Value} {ys : List Res} (hn : Made Res.cells 3 35 W.heap.size W' u ys) : OwnSt w W' b1 mb1 b2 mb2 bk cs ds vO os vC vS LC LS (CV ++ [(v, xs)]) (RV ++ [(u, ys)]) :=
  { h.step hb with oc := h.oc.add hb h.below.size hm, or := h.or.add hb h.below.size hn }
/-- A ledger stays where only blocks of cells of other types turn. -/
theorem ledger_types {b mb : Nat} {xs : List Cell} {S : Nat → Prop} (h : Ledger W b mb xs) (hk : Kept S W W') (hS : ∀ j, S j → ∃ cs t, W.heap[j]? = some (.cells cs t (0, 0)) ∧ t ≠ 67) : Ledger W' b mb xs := by
  obtain ⟨ps, hb, hm, r⟩ := h
  obtain ⟨es, c, hmm, _⟩ := id hm
  have hml := hm.lt
  refine ⟨ps, (hk.block b (Array.getElem?_eq_some_iff.1 hb).1 fun q => ?_).trans hb, hm.same (hk.block mb hml fun q => ?_), r⟩
  · obtain ⟨cs, t, h1, h2⟩ := hS b q
    rw [hb] at h1; cases h1; exact h2 rfl
  · obtain ⟨cs, t, h1, h2⟩ := hS mb q
    rw [hmm] at h1; cases h1
theorem Two.types {B : Nat} {S : Nat → Prop} (h : Two W B b1 mb1 b2 mb2 cs ds) (hk : Kept S W W') (hS : ∀ j, S j → ∃ cs t, W.heap[j]? = some (.cells cs t (0, 0)) ∧ t ≠ 67) : Two W' B b1 mb1 b2 mb2 cs ds :=
  ⟨ledger_types h.one hk hS, ledger_types h.two hk hS, h.hb, h.ne⟩
theorem OwnSt.over (h : OwnSt w W b1 mb1 b2 mb2 bk cs ds vO os vC vS LC LS CV RV) (hk : Kept (fun j => vO.ownBlock = some j) W W') (hm : Made Op.cells 3 38 w.heap.size W' vO os') : OwnSt w W' b1 mb1 b2 mb2 bk cs ds vO os' vC vS LC LS CV RV := by
  have hS : ∀ j, vO.ownBlock = some j → ∃ cs t, W.heap[j]? = some (.cells cs t (0, 0)) ∧ t ≠ 67 := fun j q => by
    obtain ⟨cs, q'⟩ := h.own.cell_block q
    exact ⟨cs, _, q', by decide⟩
  refine ⟨keptA h.below hk (fun j q => (h.own.lt j q).1) (Nat.le_refl _), h.two.types hk hS, hm, h.book.keep fun j q => hk.block j (BookS.lt h.book q) fun q' => ?_, h.oc.keep fun j hj _ ⟨cs, q⟩ => hk.block j hj fun q' => ?_, h.or.keep fun j hj _ ⟨cs, q⟩ => hk.block j hj fun q' => ?_, h.hbk⟩
  · obtain ⟨cs, q2⟩ := h.own.cell_block q'
    refine BookS.ne q (fun e => ?_) q2 ⟨by decide, by decide, by decide, by decide⟩
    subst e
    rw [h.book.at_] at q2; cases q2
  · obtain ⟨cs', q2⟩ := h.own.cell_block q'
    rw [q] at q2; cases q2
  · obtain ⟨cs', q2⟩ := h.own.cell_block q'
    rw [q] at q2; cases q2
theorem OwnSt.put (h : OwnSt w W b1 mb1 b2 mb2 bk cs ds vO os vC vS LC LS CV RV) (hk : Kept (BookS W bk w.heap.size) W W') (hb : BookC W' bk w.heap.size (.slice none 0 0) vC' (.slice none 0 0) vS' [] LC' [] LS') : OwnSt w W' b1 mb1 b2 mb2 bk cs ds vO os vC' vS' LC' LS' CV RV := by
  have hS : ∀ j, BookS W bk w.heap.size j → ∃ cs t, W.heap[j]? = some (.cells cs t (0, 0)) ∧ t ≠ 67 := fun j q => by
    rcases q with rfl | ⟨_, cs, t, q, q'⟩
    · exact ⟨_, _, h.book.at_, by decide⟩
    · exact ⟨cs, t, q, by rcases q' with rfl | rfl | rfl | rfl <;> decide⟩
  have hT : ∀ (t : TypeId) (cs : Array Value) (j : Nat), W.heap[j]? = some (.cells cs t (0, 0)) → (t ≠ 50 ∧ t ≠ 88 ∧ t ≠ 22 ∧ t ≠ 93 ∧ t ≠ 52) → ¬ BookS W bk w.heap.size j := fun t cs j q hn q' =>
    BookS.ne q' (fun e => by subst e; rw [h.book.at_] at q; cases q; exact hn.1 rfl) q hn.2
  refine ⟨keptA h.below hk (fun j q => ?_) (Nat.le_refl _), h.two.types hk hS, h.own.same fun j q => ?_, hb, h.oc.keep fun j hj _ ⟨cs, q⟩ => hk.block j hj (hT _ cs j q (by decide)), h.or.keep fun j hj _ ⟨cs, q⟩ => hk.block j hj (hT _ cs j q (by decide)), h.hbk⟩
  · rcases q with rfl | ⟨q, _⟩
    · exact h.hbk
    · exact q
  · obtain ⟨cs, q2⟩ := h.own.cell_block q
    exact hk.block j (h.own.lt j q).2 (hT _ cs j q2 (by decide))
end
end Go.Proofs.Ytdkdddkhfonjmaa
