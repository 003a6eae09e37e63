/- ledger.Each and oplog.Each: what they hand back, and that it is an iterator over the list as it was. Conditions: sizes within Go's own limits. -/
import Derived.Test.YtmfidhlhcochoaaEachIn
namespace Go.Proofs.Ytmfidhlhcochoaa
open Go.RowKit Go.Shelf
set_option linter.unusedVariables false
set_option linter.unusedSimpArgs false
attribute [local go_sem] Oper.semAt_some

/-- What ledger.Each hands back: a function that captured a box with a slice of new memory. -/
def EachC (w : World) (base : Nat) (xs : List Cell) (v : Value) : Prop :=
  ∃ Bs A c, v = .func (.func 99) #[] #[.pointer (some ⟨Bs, 0, none⟩)] ∧ base ≤ Bs ∧ Bs < w.heap.size ∧ w.cell? ⟨Bs, 0, none⟩ = some (.slice A xs.length c) ∧ Rd Cell.cells 2 w Bs A xs ∧ (∀ a, A = some a → base ≤ a.block)

set_option maxRecDepth 100000 in
theorem ledgerEach (A : Option Addr) (c n : Nat) (xs : List Cell) (hn : n = xs.length) (w : World) (hb : xs.length * 24 ≤ 140737488355328) (ha : Rd Cell.cells 2 w w.heap.size A xs) :
    Calls Try.prog 76 #[.slice A n c] w fun e w' => ∃ v, e = .returned v ∧ EachC w' w.heap.size xs v ∧ Below w.heap.size w w' := by
  subst hn
  have hl : xs.length ≤ maxLen := by unfold maxLen; omega
  go_enter Try.func76, Try.ntmps76
  go_wp2_with (at_builtin; refine wpList_app (v := .slice none 0 0) (xs := []) rowCell encCell rfl (.const (.slice none 0 0)) (.tmp 4) rfl w.heap.size rfl (Made.nil _ _ _) rfl rfl ha (by simpa using hb) (by simpa using hl) (Nat.le_refl _) ?_; intro v1 w1 hm1 hg1 hat1; obtain ⟨A1, c1, rfl, hc1⟩ := hm1.form)
  go_ret
  simp only [List.nil_append] at hm1
  have hb1 : Below w.heap.size w w1 := (Below.refl _ _).grown hg1 (Nat.le_refl _) (by simp [Value.ownBlock])
  have hr1 : Rd Cell.cells 2 w1 w1.heap.size A1 xs := hm1.rd' encCell.len
  refine ⟨_, rfl, ⟨w1.heap.size, A1, c1, rfl, hb1.size, by simp, cell_of_row _ _ 0 _ _ _ (heap_alloc_new w1 _), hr1.keep fun q hq => World.cell?_alloc_lt _ _ _ hq, fun a ha => ?_⟩, hb1.alloc hb1.size _⟩
  subst ha
  exact (hm1.lt a.block rfl).1

/-- What it hands back iterates over the cells as they were, at whatever later world. -/
theorem EachC.stops {w : World} {base : Nat} {xs : List Cell} {v : Value} (h : EachC w base xs v) (hreach : xs.length ≤ 9223372036854775806) :
    ∃ Bs, v = .func (.func 99) #[] #[.pointer (some ⟨Bs, 0, none⟩)] ∧ base ≤ Bs ∧ Bs < w.heap.size ∧ ∀ (n : Nat) (w' : World), Below (Bs + 1) w w' →
      SeqStopsK Fence.wide n Try.prog 99 #[.pointer (some ⟨Bs, 0, none⟩)] (encC xs) (Mid base (Bs + 1)) (fun ys => ys = places xs.length 0) (fun pre => pre <+: places xs.length 0) xs.length w' := by
  obtain ⟨Bs, A, c, rfl, h1, h2, h3, h4, h5⟩ := h
  refine ⟨Bs, rfl, h1, h2, fun n w' hb l J Jx W hW hJ hJx hY h0 => ?_⟩
  have hsz : Bs + 1 ≤ w'.heap.size := Nat.le_trans h2 hb.size
  have hb' : Below (Bs + 1) w W := hb.trans (hW.mono hsz)
  exact eachC_in n l Bs base (Bs + 1) A xs.length c xs rfl hreach J Jx W hJ hJx hY ((hb'.cell (p := ⟨Bs, 0, none⟩) (by simp)).trans h3) ((h4.more (by omega)).below hb') h5 h0 (Nat.le_trans hsz hW.size)

end Go.Proofs.Ytmfidhlhcochoaa
