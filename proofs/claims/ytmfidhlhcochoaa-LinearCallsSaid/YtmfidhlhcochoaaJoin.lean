/- joined: two pieces in new memory (make, copy, copy at elements of several cells). Conditions: sizes within Go's own limits. -/
import Derived.Test.YtmfidhlhcochoaaOpen3
namespace Go.Proofs.Ytmfidhlhcochoaa
open Go.RowKit
set_option linter.unusedVariables false
set_option linter.unusedSimpArgs false

section copyK
variable {P : Program} {t e : TypeId} {k bytes : Nat} {α : Type} {enc : α → List Value}
theorem run_copyK (w : World) (T : RowT P t e k bytes) (E : Enc enc k) (ty : TypeId) {dp : Option Addr} {dLen dCap : Nat} {B : Nat} {A : Option Addr} {m c : Nat} {ys : List α} (hm : m = ys.length) (hy : Rd enc k w B A ys)
    (g off : Nat) (cur : List Value) (t' : TypeId) (hg : w.heap[g]? = some (.cells cur.toArray t' (0, 0))) (hle : ys.length ≤ dLen) (hpos : 0 < ys.length → dp = some ⟨g, off, none⟩) (hfit : off + ys.length * k ≤ cur.length) :
    (Builtin.copy_ #[t, t] ty #[.slice dp dLen dCap, .slice A m c]).run P w = .ok (goInt ys.length) (w.setRow g (splice cur off (flat enc ys)).toArray) := by
  subst hm
  obtain ⟨i, z, hi, hz, hs, hb, hzs⟩ := T.info
  have hmin : Nat.min ys.length dLen = ys.length := Nat.min_eq_left hle
  by_cases h0 : ys.length = 0
  · obtain rfl : ys = [] := List.eq_nil_of_length_eq_zero h0
    have e1 : splice cur off (flat enc ([] : List α)) = cur := by simp [splice, flat]
    rw [e1, setRow_self w g cur.toArray t' (0, 0) hg]
    cases A <;> cases dp <;> simp [Builtin.copy_, run_underlying T.under, Builtin.lenOf, Builtin.firstCells, sizeOf, typeInfo, hi, loadCells, loadCellsFrom, storeCells]
  · have hd := hpos (by omega)
    subst hd
    cases A with
    | none => have := hy.none_; subst this; simp at h0
    | some ad =>
      have hl := run_loadCells_list (P := P) w ad (flat enc ys) (hy.flatAt E.len T.pos)
      have hst := run_storeCells_at P g off t' (flat enc ys) 0 cur.toArray w hg (by rw [flat_length E.len]; simpa using hfit) (E.flat_one ys)
      rw [flat_length E.len] at hl
      simp only [Nat.add_zero] at hst
      simp [Builtin.copy_, run_underlying T.under, Builtin.lenOf, Builtin.firstCells, sizeOf, typeInfo, hi, hs, hmin, hl, hst, splice]
theorem wpList_copyK {w : World} (T : RowT P t e k bytes) (E : Enc enc k) {ops : Array Oper} {rest : List Oper} {o : Oper} {a : Act} {Q : Exit → Act → World → Prop} (hgd : o.guard = none) (d s : Operand)
    (ho : o.op = .call { callee := .builtin .copy, args := #[d, s], argTypes := #[t, t] }) {dp : Option Addr} {dLen dCap : Nat} (hd : a.eval d = .slice dp dLen dCap) {B : Nat} {A : Option Addr} {m c : Nat} {ys : List α} (hs : a.eval s = .slice A m c) (hm : m = ys.length) (hy : Rd enc k w B A ys)
    (g off : Nat) (cur : List Value) (t' : TypeId) (hg : w.heap[g]? = some (.cells cur.toArray t' (0, 0))) (hle : ys.length ≤ dLen) (hpos : 0 < ys.length → dp = some ⟨g, off, none⟩) (hfit : off + ys.length * k ≤ cur.length)
    (B0 : Nat) (w0 : World) (hb : Below B0 w0 w) (hBg : B0 ≤ g)
    (h : ∀ w', Hid (w'.heap[g]? = some (.cells (splice cur off (flat enc ys)).toArray t' (0, 0))) → Below B0 w0 w' → wpList P ops Q rest (a.put o.dst (goInt ys.length)) w') : wpList P ops Q (o :: rest) a w := by
  refine wpList_plain hgd fun K hK => ?_
  have hrun := run_copyK w T E o.type (dp := dp) (dLen := dLen) (dCap := dCap) (c := c) hm hy g off cur t' hg hle hpos hfit
  unfold Oper.wp
  simp [execOp, ho, resolve, invoke, builtin, hd, hs, hrun, Result.andThen]
  exact hK _ _ (h _ (show _ = _ from setRow_heap w g _ _ t' _ hg) (below_setRow hb hBg _))
/-- A guard for the walk's arms: the next operation is a copy. -/
theorem at_copy {ops : Array Oper} {Q : Exit → Act → World → Prop} {dst : Option Tmp} {d s : Operand} {ts : Array TypeId} {ty : TypeId} {pos : String} {after : Array Edge} {rest : List Oper} {a : Act} {w : World}
    (h : wpList P ops Q ({ dst := dst, op := .call { callee := .builtin .copy, args := #[d, s], argTypes := ts }, type := ty, pos := pos, after := after, guard := none } :: rest) a w) :
    wpList P ops Q ({ dst := dst, op := .call { callee := .builtin .copy, args := #[d, s], argTypes := ts }, type := ty, pos := pos, after := after, guard := none } :: rest) a w := h
end copyK

theorem joined_made {α : Type} {enc : α → List Value} {k : Nat} (hk : ∀ x, (enc x).length = k) (xs ys : List α) (Z : List Value) (hZ : Z.length = (xs.length + ys.length) * k) :
    splice (splice Z 0 (flat enc xs)) (xs.length * k) (flat enc ys) = flat enc (xs ++ ys) := by
  have h1 : splice Z 0 (flat enc xs) = flat enc xs ++ Z.drop (xs.length * k) := by simp [splice, flat_length hk]
  rw [h1, flat_append]
  have h2 : (flat enc xs).length = xs.length * k := flat_length hk xs
  have h3 : (Z.drop (xs.length * k)).length = ys.length * k := by rw [List.length_drop, hZ, Nat.add_mul]; omega
  unfold splice
  rw [← h2, List.take_left', List.drop_append]
  · rw [List.drop_eq_nil_of_le (by omega), List.drop_eq_nil_of_le (by rw [h2, h3, flat_length hk]; omega)]; simp
  · rfl

theorem made_whole {α : Type} {enc : α → List Value} {k : Nat} (hk : ∀ x, (enc x).length = k) {e : TypeId} {base g : Nat} {w : World} {xs : List α} (hg : w.heap[g]? = some (.cells (flat enc xs).toArray e (0, 0))) (hb : base ≤ g) (hl : xs.length ≤ maxLen) {n : Nat} (hn : n = xs.length) :
    Made enc k e base w (.slice (some ⟨g, 0, none⟩) n n) xs := by
  subst hn
  exact ⟨flat_length hk xs, .inr ⟨g, xs.length, (flat enc xs).toArray, rfl, hb, hg, Nat.le_refl _, hl, by simp [flat_length hk], by rw [← flat_length hk xs]; simp⟩⟩

end Go.Proofs.Ytmfidhlhcochoaa
