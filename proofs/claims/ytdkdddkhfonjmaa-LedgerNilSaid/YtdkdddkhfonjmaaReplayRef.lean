/- The reference's Replay and CopyCells. Conditions: sizes within Go's own limits. -/
import Derived.Test.YtdkdddkhfonjmaaDoRef
namespace Go.Proofs.Ytdkdddkhfonjmaa
open Go.RowKit
set_option linter.unusedVariables false
set_option linter.unusedSimpArgs false

theorem Rd.keepAt {α : Type} {enc : α → List Value} {k : Nat} {w w' : World} {B B' : Nat} {A : Option Addr} {xs : List α} (h : Rd enc k w B A xs) (hB : B ≤ B') (hk : ∀ ad, A = some ad → ad.block < B → w'.heap[ad.block]? = w.heap[ad.block]?) : Rd enc k w' B' A xs := fun i x hx => by
  obtain ⟨ad, e, hb, ha⟩ := h i x hx
  refine ⟨ad, e, by omega, ha.keep fun q hq => ?_⟩
  have h1 := hk ad e hb
  unfold World.cell?
  rw [hq, block_add, h1]

end Go.Proofs.Ytdkdddkhfonjmaa
