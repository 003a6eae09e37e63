/- append, make and copy at rows of elements of several cells, as laws for the walk: over any program. Conditions: sizes within Go's own limits. -/
import Derived.Test.YtmfidhlhcochoaaMem
import Derived.Maps.AppendAt
import Derived.Laws.MakeOwn
import Derived.Laws.OwnMore
import Derived.Laws.CopyRow
import Derived.Laws.CopyOwn
import Derived.OwnWalk
import Derived.RegionTactic
namespace Go.Proofs.Ytmfidhlhcochoaa
open Go.RowKit
set_option linter.unusedVariables false
set_option linter.unusedSimpArgs false

/-- What is known of a slice type: its element type, an element's cells and bytes. -/
structure RowT (P : Program) (t e : TypeId) (k bytes : Nat) : Prop where
  under : P.underlying t = some (.slice e)
  info : ∃ i z, P.info? e = some i ∧ i.zero = some z ∧ i.size = k ∧ i.bytes = bytes ∧ z.cells.size = k
  pos : 0 < k
theorem RowT.of {P : Program} {t e : TypeId} {k bytes : Nat} {z : Value} (h : P.underlying t = some (.slice e)) (hi : (P.info? e).map (fun i => (i.zero, i.size, i.bytes)) = some (some z, k, bytes)) (hz : z.cells.size = k) (hk : 0 < k) : RowT P t e k bytes := by
  cases hq : P.info? e with
  | none => simp [hq] at hi
  | some i =>
    simp [hq] at hi
    exact ⟨h, ⟨i, z, hq, hi.1, hi.2.1, hi.2.2, hz⟩, hk⟩

/-- An element's encoding: how many cells, each of them one. -/
structure Enc {α : Type} (enc : α → List Value) (k : Nat) : Prop where
  len : ∀ x, (enc x).length = k
  one : ∀ x, ∀ u ∈ enc x, u.oneCell' = true
theorem Enc.flat_one {α : Type} {enc : α → List Value} {k : Nat} (h : Enc enc k) (xs : List α) : ∀ u ∈ flat enc xs, u.oneCell' = true := by
  intro u hu
  simp only [flat, List.mem_flatMap] at hu
  obtain ⟨x, _, hx⟩ := hu
  exact h.one x u hx
theorem encOp : Enc Op.cells 3 := ⟨fun _ => rfl, fun x u hu => by simp [Op.cells] at hu; rcases hu with rfl | rfl | rfl <;> rfl⟩
theorem encEntry : Enc Entry.cells 5 := ⟨fun _ => rfl, fun x u hu => by simp [Entry.cells] at hu; rcases hu with rfl | rfl | rfl | rfl | rfl <;> rfl⟩
theorem encCell : Enc Cell.cells 2 := ⟨fun _ => rfl, fun x u hu => by simp [Cell.cells] at hu; rcases hu with rfl | rfl <;> rfl⟩
theorem encRes : Enc Res.cells 3 := ⟨fun _ => rfl, fun x u hu => by simp [Res.cells] at hu; rcases hu with rfl | rfl | rfl <;> rfl⟩
/-- A slice of values of one cell each (slices, say). -/
theorem encVal {p : Value → Prop} (h : ∀ v, p v → v.oneCell' = true) : Enc (fun v : { v // p v } => [v.1]) 1 := ⟨fun _ => rfl, fun x u hu => by simp at hu; subst hu; exact h _ x.2⟩

theorem flat_split {α : Type} {enc : α → List Value} {k : Nat} (hk : ∀ x, (enc x).length = k) (hp : 0 < k) (xs : List α) (j : Nat) (u : Value) (h : (flat enc xs)[j]? = some u) : ∃ x, xs[j / k]? = some x ∧ (enc x)[j % k]? = some u := by
  have hj : j < xs.length * k := by rw [← flat_length hk]; exact (List.getElem?_eq_some_iff.1 h).1
  have hd : j / k < xs.length := Nat.div_lt_of_lt_mul (by rw [Nat.mul_comm]; exact hj)
  have hm : j % k < (enc xs[j / k]).length := by rw [hk]; exact Nat.mod_lt _ hp
  refine ⟨xs[j / k], List.getElem?_eq_getElem hd, ?_⟩
  have := flat_get hk xs (j / k) (j % k) _ ((enc xs[j / k])[j % k]) (List.getElem?_eq_getElem hd) (List.getElem?_eq_getElem hm)
  rw [show j / k * k + j % k = j by rw [Nat.mul_comm]; exact Nat.div_add_mod j k, h] at this
  rw [List.getElem?_eq_getElem hm, ← this]

/-- The cells one behind the other. -/
theorem Rd.flatAt {α : Type} {enc : α → List Value} {k : Nat} (hk : ∀ x, (enc x).length = k) (hp : 0 < k) {w : World} {B : Nat} {ad : Addr} {xs : List α} (h : Rd enc k w B (some ad) xs) : ∀ j u, (flat enc xs)[j]? = some u → w.cell? (ad.add j) = some u := by
  intro j u hu
  obtain ⟨x, hx, hu'⟩ := flat_split hk hp xs j u hu
  obtain ⟨ad', e, _, ha⟩ := h _ x hx
  cases e
  have := ha _ u hu'
  rwa [add_add', show j / k * k + j % k = j by rw [Nat.mul_comm]; exact Nat.div_add_mod j k] at this
theorem Rd.none_ {α : Type} {enc : α → List Value} {k : Nat} {w : World} {B : Nat} {xs : List α} (h : Rd enc k w B none xs) : xs = [] := by
  cases xs with
  | nil => rfl
  | cons x xs => obtain ⟨ad, e, _⟩ := h 0 x rfl; cases e
theorem Rd.of_flat {α : Type} {enc : α → List Value} {k : Nat} (hk : ∀ x, (enc x).length = k) {w : World} {B : Nat} {ad : Addr} {xs : List α} (hb : ad.block < B) (h : ∀ j u, (flat enc xs)[j]? = some u → w.cell? (ad.add j) = some u) : Rd enc k w B (some ad) xs :=
  fun i x hx => ⟨ad, rfl, hb, fun j u hu => by rw [add_add']; exact h _ u (flat_get hk xs i j x u hx hu)⟩

section app
variable {P : Program} {t e : TypeId} {k bytes : Nat} {α : Type} {enc : α → List Value}
/-- append(v, x...), the source nil or not. -/
theorem run_app (w : World) (T : RowT P t e k bytes) (E : Enc enc k) (ty : TypeId) (base : Nat) {v : Value} {xs ys : List α} (hv : Made enc k e base w v xs) {B : Nat} {A : Option Addr} {c m : Nat} (hm : m = ys.length) (hy : Rd enc k w B A ys)
    (hbytes : (xs.length + ys.length) * bytes ≤ 140737488355328) (h63 : xs.length + ys.length ≤ maxLen) (hbase : base ≤ w.heap.size) :
    ∃ v' w', (Builtin.append_ #[t, t] ty #[v, .slice A m c]).run P w = .ok v' w' ∧ Made enc k e base w' v' (xs ++ ys) ∧ w.grownBy w' v.ownBlock ∧ (v'.ownBlock = v.ownBlock ∨ v'.ownBlock = some w.heap.size) := by
  subst hm
  obtain ⟨i, z, hi, hz, hs, hb, hzs⟩ := T.info
  cases A with
  | none =>
    have := hy.none_
    subst this
    refine ⟨v, w, ?_, by simpa using hv, World.grownBy.refl w _, .inl rfl⟩
    rcases hv.2 with ⟨rfl, h0⟩ | ⟨g, cap, cur, rfl, _, _, hc, _⟩
    · simp [Builtin.append_, run_underlying T.under, sizeOf, typeInfo, hi, Builtin.lenOf, Builtin.firstCells]
    · simp [Builtin.append_, run_underlying T.under, sizeOf, typeInfo, hi, Builtin.lenOf, Builtin.firstCells, hc, storeCells]
  | some ad =>
    obtain ⟨v', w', hrun, h2, h3, _, h5⟩ := run_append_own_at (P := P) w base t ty e i z k bytes T.under hi hz hs hb hzs T.pos v xs.length (flat enc xs) hv ad ys.length c (flat enc ys) (flat_length E.len ys) (hy.flatAt E.len T.pos) (E.flat_one ys) h63 hbytes hbase
    refine ⟨v', w', hrun, ?_, h3, h5⟩
    unfold Made
    rw [List.length_append, flat_append]
    exact h2

theorem wp_app (w : World) (T : RowT P t e k bytes) (E : Enc enc k) {o : Oper} {a : Act} {K : Act → World → Prop} {Q : Exit → Act → World → Prop} (s x : Operand)
    (ho : o.op = .call { callee := .builtin .append, args := #[s, x], argTypes := #[t, t] })
    (base : Nat) {v : Value} {xs ys : List α} (hs : a.eval s = v) (hv : Made enc k e base w v xs) {B : Nat} {A : Option Addr} {c m : Nat} (hx : a.eval x = .slice A m c) (hm : m = ys.length) (hy : Rd enc k w B A ys)
    (hbytes : (xs.length + ys.length) * bytes ≤ 140737488355328) (h63 : xs.length + ys.length ≤ maxLen) (hbase : base ≤ w.heap.size)
    (h : ∀ v' w', Made enc k e base w' v' (xs ++ ys) → w.grownBy w' v.ownBlock → (v'.ownBlock = v.ownBlock ∨ v'.ownBlock = some w.heap.size) → K (a.put o.dst v') w') : o.wp P a w K Q := by
  obtain ⟨v', w', hrun, h2, h3, h4⟩ := run_app w T E o.type base hv (c := c) hm hy hbytes h63 hbase
  unfold Oper.wp execOp
  simp only [ho, resolve, invoke, builtin, Sem.run_bind, Sem.run_pure, Result.andThen_ok, List.map_toArray, List.map_cons, List.map_nil, hs, hx, hrun]
  exact h v' w' h2 h3 h4
theorem wpList_app {w : World} (T : RowT P t e k bytes) (E : Enc enc k) {ops : Array Oper} {rest : List Oper} {o : Oper} {a : Act} {Q : Exit → Act → World → Prop} (hgd : o.guard = none) (s x : Operand)
    (ho : o.op = .call { callee := .builtin .append, args := #[s, x], argTypes := #[t, t] })
    (base : Nat) {v : Value} {xs ys : List α} (hs : a.eval s = v) (hv : Made enc k e base w v xs) {B : Nat} {A : Option Addr} {c m : Nat} (hx : a.eval x = .slice A m c) (hm : m = ys.length) (hy : Rd enc k w B A ys)
    (hbytes : (xs.length + ys.length) * bytes ≤ 140737488355328) (h63 : xs.length + ys.length ≤ maxLen) (hbase : base ≤ w.heap.size)
    (h : ∀ v' w', Made enc k e base w' v' (xs ++ ys) → w.grownBy w' v.ownBlock → (v'.ownBlock = v.ownBlock ∨ v'.ownBlock = some w.heap.size) → wpList P ops Q rest (a.put o.dst v') w') : wpList P ops Q (o :: rest) a w :=
  wpList_plain hgd fun _ hK => wp_app w T E s x ho base hs hv hx hm hy hbytes h63 hbase fun v' w' h2 h3 h4 => hK _ _ (h v' w' h2 h3 h4)
theorem step_app {w : World} (T : RowT P t e k bytes) (E : Enc enc k) {ops : Array Oper} {o : Oper} {a : Act} {K : Act → World → Prop} {Q : Exit → Act → World → Prop} {F : Prop} (hgd : o.guard = none) (s x : Operand)
    (ho : o.op = .call { callee := .builtin .append, args := #[s, x], argTypes := #[t, t] })
    (base : Nat) {v : Value} {xs ys : List α} (hs : a.eval s = v) (hv : Made enc k e base w v xs) {B : Nat} {A : Option Addr} {c m : Nat} (hx : a.eval x = .slice A m c) (hm : m = ys.length) (hy : Rd enc k w B A ys)
    (hbytes : (xs.length + ys.length) * bytes ≤ 140737488355328) (h63 : xs.length + ys.length ≤ maxLen) (hbase : base ≤ w.heap.size)
    (h : ∀ v' w', Made enc k e base w' v' (xs ++ ys) → w.grownBy w' v.ownBlock → (v'.ownBlock = v.ownBlock ∨ v'.ownBlock = some w.heap.size) → K (a.put o.dst v') w') :
    if Region.wanted o (yielded ops a.tmps) = true then Oper.wp P o a w K Q else F := by
  have hw : Region.wanted o (yielded ops a.tmps) = true := by simp [Region.wanted, hgd]
  rw [if_pos hw]
  exact wp_app w T E s x ho base hs hv hx hm hy hbytes h63 hbase h

/-- The block that a slice literal of one element lies in, read as a list of one. -/
theorem rd_one (E : Enc enc k) (w : World) (x : α) (cs : Array Value) (hcs : cs.toList = enc x) (t' : TypeId) : Rd enc k (w.alloc (.cells cs t')) (w.heap.size + 1) (some ⟨w.heap.size, 0, none⟩) [x] := by
  refine Rd.of_flat E.len (by simp) ?_
  intro j u hu
  have hadd : (⟨w.heap.size, 0, none⟩ : Addr).add j = ⟨w.heap.size, j, none⟩ := by unfold Addr.add; split <;> simp_all
  rw [hadd, cell_of_row (w.alloc (.cells cs t')) w.heap.size j cs t' (0, 0) (heap_alloc_new w _)]
  simp [flat, ← hcs] at hu
  simpa using hu
end app
end Go.Proofs.Ytmfidhlhcochoaa
