/- oplog.Find: it answers the first place of a request, as the reference does. Conditions: sizes within Go's own limits. -/
import Derived.Test.YtbdcpoagdbkgeaaEach
namespace Go.Proofs.Ytbdcpoagdbkgeaa
open Go.RowKit Go.Shelf
set_option linter.unusedVariables false
set_option linter.unusedSimpArgs false
attribute [local go_sem] Oper.semAt_some

/-- A row of cells is no block that a loop's book-keeping turns. -/
theorem row_own {β : Type} (B b : Nat) (f : β → Array Value) (T : TypeId) : OwnFrom B (fun s W => W.heap[b]? = some (.cells (f s) T (0, 0))) := fun s X Y row hs hg hr =>
  (hg.block b (Array.getElem?_eq_some_iff.1 hs).1 (fun e => by obtain ⟨_, o, ho, hc⟩ := hr b e.symm; rw [hs] at ho; cases ho; cases hc)).trans hs
theorem places_mem {N s : Nat} {x : Fin N} : x ∈ places N s ↔ s ≤ x.1 := by
  unfold places
  rw [List.mem_drop_iff_getElem]
  constructor
  · rintro ⟨i, hi, rfl⟩; simp
  · intro h
    exact ⟨x.1 - s, by simp; omega, by ext; simp; omega⟩
/-- A beginning of the places tells its last one. -/
theorem places_last {N s : Nat} {pre : List (Fin N)} {x : Fin N} (h : pre ++ [x] <+: places N s) : pre = (places N s).take pre.length ∧ x.1 = s + pre.length := by
  have h1 := List.prefix_iff_eq_take.1 h
  have hl := h.length_le
  simp only [List.length_append, List.length_singleton, places, List.length_drop, List.length_finRange] at hl
  rw [List.length_append, List.length_singleton, places_take' (by omega)] at h1
  obtain ⟨h2, h3⟩ := List.append_inj' h1 rfl
  exact ⟨h2, by simp at h3; rw [h3]⟩

/-- A named result of one cell. -/
theorem results_int {fn : Func} {p : Tmp} (h : fn.results = #[.cell p 3]) (tmps : Array Value) (w : World) (g : Nat) (x : Int) (hp : tmps.getD p undef = .pointer (some ⟨g, 0, none⟩)) (hc : w.cell? ⟨g, 0, none⟩ = some (.int .i64 x)) :
    (results fn tmps).run Try.prog w = .ok (.int .i64 x) w := by
  have hp' : tmps[p]?.getD undef = .pointer (some ⟨g, 0, none⟩) := by simpa using hp
  simp [results, h, hp', asAddr, go_sem, hc, Try.underlying3]
theorem cell_takeDef {W : World} {D g : Nat} {v : Value} (h : W.cell? ⟨g, 0, none⟩ = some v) (hK : W.heap[D]? = some (.deferred (some []))) : (W.putObj D (.deferred none)).cell? ⟨g, 0, none⟩ = some v :=
  cell_kept h (grownBy_putObj' _ D (.deferred none)) (fun r e => by cases e; exact ⟨_, hK, rfl⟩)

def hits (ca nb : Int) (x : Entry) : Prop := x.client = ca ∧ x.number = nb
instance (ca nb : Int) (x : Entry) : Decidable (hits ca nb x) := by unfold hits; infer_instance
def findE (xs : List Entry) (ca nb : Int) : Int :=
  match xs.findIdx? (fun x => decide (hits ca nb x)) with | some i => (i : Int) + 1 | none => 0
theorem findE_none {xs : List Entry} {ca nb : Int} (h : ∀ i : Fin xs.length, ¬ hits ca nb xs[i.1]) : findE xs ca nb = 0 := by
  have : xs.findIdx? (fun x => decide (hits ca nb x)) = none := by
    rw [List.findIdx?_eq_none_iff]
    intro x hx
    obtain ⟨i, hi, rfl⟩ := List.mem_iff_getElem.1 hx
    simpa using h ⟨i, hi⟩
  simp [findE, this]
theorem findE_some {xs : List Entry} {ca nb : Int} (i : Fin xs.length) (h : hits ca nb xs[i.1]) (h' : ∀ j : Fin xs.length, j.1 < i.1 → ¬ hits ca nb xs[j.1]) : findE xs ca nb = (i.1 : Int) + 1 := by
  have : xs.findIdx? (fun x => decide (hits ca nb x)) = some i.1 := by
    rw [List.findIdx?_eq_some_iff_getElem]
    exact ⟨i.2, by simpa using h, fun j hj => by simpa using h' ⟨j, by omega⟩ hj⟩
  simp [findE, this]

end Go.Proofs.Ytbdcpoagdbkgeaa
