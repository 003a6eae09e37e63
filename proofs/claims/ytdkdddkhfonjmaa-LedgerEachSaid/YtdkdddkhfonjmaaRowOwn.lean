/- What an iterator's caller keeps: rows, ledgers, lists gone over. Conditions: none. -/
import Derived.Test.YtdkdddkhfonjmaaPut2
import Derived.Test.YtdkdddkhfonjmaaEach
namespace Go.Proofs.Ytdkdddkhfonjmaa
open Go.RowKit Go.Shelf
set_option linter.unusedVariables false
set_option linter.unusedSimpArgs false
attribute [local go_sem] Oper.semAt_some

def gotC (xs : List Cell) (pre : List (Fin xs.length)) : List Cell := pre.map fun i => xs[i.1]
theorem gotC_snoc (xs : List Cell) (pre : List (Fin xs.length)) (x : Fin xs.length) : gotC xs (pre ++ [x]) = gotC xs pre ++ [xs[x.1]] := by simp [gotC]
theorem gotC_places (xs : List Cell) (s : Nat) : gotC xs (places xs.length s) = xs.drop s := by
  unfold gotC places
  apply List.ext_getElem
  · simp
  · intro i h1 h2
    simp
theorem row_ownC {β : Type} (B b : Nat) (f : β → Array Value) (T : TypeId) : OwnFrom B (fun s W => W.heap[b]? = some (.cells (f s) T (0, 0))) := fun s X Y row hs hg hr =>
  (hg.block b (Array.getElem?_eq_some_iff.1 hs).1 (fun e => by obtain ⟨_, o, ho, hc⟩ := hr b e.symm; rw [hs] at ho; cases ho; cases hc)).trans hs
theorem ledger_own {β : Type} {B b mb : Nat} (hb : b < B) (hm : mb < B) (f : β → List Cell) : OwnFrom B (fun s W => Ledger W b mb (f s)) := fun s X Y row hs hg hr =>
  hs.same (hg.block b hs.lt.1 (fun e => by have := (hr b e.symm).1; omega)) (hg.block mb hs.lt.2 (fun e => by have := (hr mb e.symm).1; omega))
theorem KeepsFrom.of_kept {S : Nat → Prop} {B : Nat} {a b : World} (h : Kept S a b) (hs : ∀ k, S k → k < B) : KeepsFrom B a b := ⟨h.size, fun k o hB hk _ => (h.block k (Array.getElem?_eq_some_iff.1 hk).1 (fun q => by have := hs k q; omega)).trans hk⟩

theorem Kept.below_n {S : Nat → Prop} {n : Nat} {w w1 w2 : World} (h : Below n w w1) (hn : n ≤ w.heap.size) (k : Kept S w1 w2) (hs : ∀ j, S j → n ≤ j) : Below n w w2 :=
  ⟨k.os.trans h.os, k.tape.trans h.tape, k.output.trans h.output, Nat.le_trans h.size k.size, fun j hj => (k.block j (by have := h.size; omega) (fun q => by have := hs j q; omega)).trans (h.block j hj)⟩

end Go.Proofs.Ytdkdddkhfonjmaa
