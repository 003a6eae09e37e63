/- What an iterator's caller keeps: rows. Conditions: none. -/
import Derived.Test.YtmfidhlhcochoaaEach
namespace Go.Proofs.Ytmfidhlhcochoaa
open Go.RowKit Go.Shelf
set_option linter.unusedVariables false
set_option linter.unusedSimpArgs false
attribute [local go_sem] Oper.semAt_some

theorem row_ownC {β : Type} (B b : Nat) (f : β → Array Value) (T : TypeId) : OwnFrom B (fun s W => W.heap[b]? = some (.cells (f s) T (0, 0))) := fun s X Y row hs hg hr =>
  (hg.block b (Array.getElem?_eq_some_iff.1 hs).1 (fun e => by obtain ⟨_, o, ho, hc⟩ := hr b e.symm; rw [hs] at ho; cases ho; cases hc)).trans hs
theorem KeepsFrom.of_kept {S : Nat → Prop} {B : Nat} {a b : World} (h : Kept S a b) (hs : ∀ k, S k → k < B) : KeepsFrom B a b := ⟨h.size, fun k o hB hk _ => (h.block k (Array.getElem?_eq_some_iff.1 hk).1 (fun q => by have := hs k q; omega)).trans hk⟩

theorem Kept.below_n {S : Nat → Prop} {n : Nat} {w w1 w2 : World} (h : Below n w w1) (hn : n ≤ w.heap.size) (k : Kept S w1 w2) (hs : ∀ j, S j → n ≤ j) : Below n w w2 :=
  ⟨k.os.trans h.os, k.tape.trans h.tape, k.output.trans h.output, Nat.le_trans h.size k.size, fun j hj => (k.block j (by have := h.size; omega) (fun q => by have := hs j q; omega)).trans (h.block j hj)⟩
end Go.Proofs.Ytmfidhlhcochoaa
