/- Rows that are seen, and the history that they tell. Plain data and lists. Conditions: none. -/
import Derived.Test.YtmfidhlhcochoaaLinCheck
import Derived.Test.YtmfidhlhcochoaaGiven
import Derived.Deep.MidRow
namespace Go.Proofs.Ytmfidhlhcochoaa
open Go.RowKit
set_option linter.unusedVariables false
set_option linter.unusedSimpArgs false

/-- A list laid into a row from a place on. -/
def layA : Array Value → Nat → List Value → Array Value
  | zs, _, [] => zs
  | zs, o, u :: us => layA (zs.setIfInBounds o u) (o + 1) us
theorem layA_list : ∀ (us : List Value) (zs : Array Value) (o : Nat), o + us.length ≤ zs.size → (layA zs o us).toList = zs.toList.take o ++ us ++ zs.toList.drop (o + us.length) := by
  intro us
  induction us with
  | nil => intro zs o h; simp [layA]
  | cons u us ih =>
    intro zs o h
    simp only [List.length_cons] at h
    have ho : o < zs.toList.length := by simp; omega
    rw [layA, ih _ _ (by simp; omega), Array.toList_setIfInBounds, List.take_set, List.drop_set_of_lt (by omega), List.take_succ_eq_append_getElem ho, List.set_append_right _ _ (by simp; omega)]
    simp only [List.length_take, List.length_cons]
    rw [show min o zs.toList.length = o by omega, Nat.sub_self, List.set_cons_zero, show o + (us.length + 1) = o + 1 + us.length by omega]
    simp
theorem setCells_fresh (w : World) (t : TypeId) : ∀ (us : List Value) (zs : Array Value) (o : Nat), (w.alloc (.cells zs t)).setCells w.heap.size o us = w.alloc (.cells (layA zs o us) t) := by
  intro us
  induction us with
  | nil => intro zs o; rfl
  | cons u us ih => intro zs o; rw [World.setCells, World.setCell_alloc_new, ih]; rfl
/-- A struct, or a row, loaded whole where it reads as a list of cells. -/
theorem run_loadVar_at {P : Program} (w : World) (p : Addr) (ty : TypeId) (cs : List Value) (d : TypeDesc) (hc : At w p cs) (hu : P.underlying ty = some d) (hd : d.isRow = true) (hi : (P.info? ty).map (·.size) = some cs.length) :
    (loadVar ty p).run P w = .ok (.agg cs.toArray) w := by
  have hl : (loadCells p cs.length).run P w = .ok cs.toArray w := run_loadCells_list (P := P) w p cs hc
  cases hq : P.info? ty with
  | none => simp [hq] at hi
  | some i =>
    have hs : i.size = cs.length := by simpa [hq] using hi
    have hagg : (isAgg ty).run P w = .ok true w := by
      unfold isAgg
      rw [Sem.run_bind, run_underlying hu w]
      cases d <;> simp_all
    simp [loadVar, Sem.run_bind, hagg, sizeOf, typeInfo, hq, hs, hl]
theorem wpList_load_at {P : Program} {ops : Array Oper} {rest : List Oper} {op : Oper} {a : Act} {w : World} {Q : Exit → Act → World → Prop} (hgd : op.guard = none) (ty : TypeId) (x : Operand) (ho : op.op = .load ty x)
    {p : Addr} (hx : a.eval x = .pointer (some p)) (cs : List Value) (d : TypeDesc) (hc : At w p cs) (hu : P.underlying ty = some d) (hd : d.isRow = true) (hi : (P.info? ty).map (·.size) = some cs.length)
    (h : wpList P ops Q rest (a.put op.dst (.agg cs.toArray)) w) : wpList P ops Q (op :: rest) a w :=
  wpList_plain hgd fun _ hK => by
    unfold Oper.wp execOp
    simp only [ho, hx, Instr.loadAt, Instr.sureAddr, Sem.run_bind, Sem.run_pure, Result.andThen_ok, run_loadVar_at w p ty cs d hc hu hd hi]
    exact hK _ _ h
/-- A guard for the walk's arms: the next operation is a load. -/
theorem at_load {P : Program} {ops : Array Oper} {Q : Exit → Act → World → Prop} {dst : Option Tmp} {ty ty2 : TypeId} {x : Operand} {pos : String} {after : Array Edge} {rest : List Oper} {a : Act} {w : World}
    (h : wpList P ops Q ({ dst := dst, op := .load ty x, type := ty2, pos := pos, after := after, guard := none } :: rest) a w) :
    wpList P ops Q ({ dst := dst, op := .load ty x, type := ty2, pos := pos, after := after, guard := none } :: rest) a w := h
/-- A guard for the walk's arms: the next operation is a store. -/
theorem at_store {P : Program} {ops : Array Oper} {Q : Exit → Act → World → Prop} {dst : Option Tmp} {ty ty2 : TypeId} {x y : Operand} {pos : String} {after : Array Edge} {rest : List Oper} {a : Act} {w : World}
    (h : wpList P ops Q ({ dst := dst, op := .store ty x y, type := ty2, pos := pos, after := after, guard := none } :: rest) a w) :
    wpList P ops Q ({ dst := dst, op := .store ty x y, type := ty2, pos := pos, after := after, guard := none } :: rest) a w := h
/-- A struct stored whole into the block that was laid last. -/
theorem wpList_fresh {P : Program} {ops : Array Oper} {rest : List Oper} {op : Oper} {a : Act} {w : World} {Q : Exit → Act → World → Prop} (hgd : op.guard = none) (ty : TypeId) (x y : Operand) (ho : op.op = .store ty x y)
    (zs cs : Array Value) (t : TypeId) (hx : a.eval x = .pointer (some ⟨w.heap.size, 0, none⟩)) (hy : a.eval y = .agg cs) (hs : zs.size = cs.size) (hi : (P.info? ty).map (·.size) = some cs.size) (h1 : cs.all (·.oneCell') = true)
    (h : wpList P ops Q rest (a.put op.dst undef) (w.alloc (.cells cs t))) : wpList P ops Q (op :: rest) a (w.alloc (.cells zs t)) := by
  refine wpList_store_mid hgd ty x y ho w.heap.size 0 cs hx hy (fun j hj => ?_) hi h1 ?_
  · have hg : (w.alloc (.cells zs t)).heap[w.heap.size]? = some (.cells zs t (0, 0)) := heap_alloc_new w _
    refine ⟨?_, by rw [Nat.zero_add]; exact frozen_of_row _ _ _ _ _ hg⟩
    rw [Nat.zero_add, cell_of_row _ _ j _ _ _ hg, Array.getElem?_eq_getElem (by omega)]
    rfl
  · rw [setCells_fresh]
    have : layA zs 0 cs.toList = cs := by
      apply Array.ext'
      rw [layA_list _ _ _ (by simp; omega)]
      simp
      rw [← Array.length_toList, ← Array.length_toList] at hs
      exact Nat.le_of_eq (by simpa using hs)
    rw [this]
    exact h
theorem one_of {α : Type} {enc : α → List Value} {k : Nat} (E : Enc enc k) (x : α) {cs : Array Value} (h : cs.toList = enc x) : cs.all (·.oneCell') = true :=
  Array.all_eq_true_iff_forall_mem.2 fun v hv => E.one x v (by rw [← h]; simpa using hv)
/-- A row that is seen; its log and its bytes are slices, read elsewhere. -/
structure Seen where
  kind : Int
  event : Int
  node : Int
  view : Int
  place : Int
  hi : Int
  lo : Int
  ent : Entry
  res : Res
  lA : Option Addr
  ln : Nat
  lc : Nat
  frm : Int
  to : Int
  bA : Option Addr
  bn : Nat
  bc : Nat
def Seen.cells (x : Seen) : List Value := [.int .i64 x.kind, .int .i64 x.event, .int .i64 x.node, .int .i64 x.view, .int .i64 x.place, .int .u64 x.hi, .int .u64 x.lo, .int .i64 x.ent.client, .int .i64 x.ent.number, .int .i64 x.ent.op.kind, .int .i64 x.ent.op.slot, .string x.ent.op.value, .int .i64 x.res.code, .int .i64 x.res.slot, .string x.res.value, .slice x.lA x.ln x.lc, .int .i64 x.frm, .int .i64 x.to, .slice x.bA x.bn x.bc]
theorem encSeen : Enc Seen.cells 19 := ⟨fun _ => rfl, fun x u hu => by
  simp only [Seen.cells, List.mem_cons, List.not_mem_nil, or_false] at hu
  rcases hu with rfl | rfl | rfl | rfl | rfl | rfl | rfl | rfl | rfl | rfl | rfl | rfl | rfl | rfl | rfl | rfl | rfl | rfl | rfl
  all_goals rfl⟩
structure SeenAt (w : World) (p : Addr) (x : Seen) : Prop where
  c0 : w.cell? p = some (.int .i64 x.kind)
  c : ∀ j u, x.cells[j + 1]? = some u → w.cell? ⟨p.block, p.off + (j + 1), none⟩ = some u
theorem At.seen {w : World} {p : Addr} {x : Seen} (h : At w p x.cells) : SeenAt w p x := by
  refine ⟨h 0 _ rfl, fun j u hu => ?_⟩
  have := h (j + 1) u hu
  unfold Addr.add at this
  rwa [if_neg (by omega)] at this
/-- The place of the call with that client and number. -/
def placeC (l : List Call) (q : Int × Int) : Option Nat := (List.range l.length).find? fun k => decide ((l[k]?).map keyOf = some q)
def newC (e : Entry) (i : Nat) : Call := ⟨e.client, e.number, e.op, i, -1, zres⟩
def callsW : Nat → List Call → List Seen → List Call × Int
  | _, l, [] => (l, 0)
  | i, l, r :: rs =>
    if r.kind = 1 then (if mayC r.ent.client r.ent.number r.ent.op = false then ([], 180) else if (placeC l (r.ent.client, r.ent.number)).isSome = true then ([], 160) else callsW (i + 1) (l ++ [newC r.ent i]) rs)
    else if r.kind = 6 then (match placeC l (r.ent.client, r.ent.number) with
      | none => ([], 160)
      | some k => if 0 ≤ (l[k]?.map (·.fin)).getD 0 then ([], 160) else callsW (i + 1) (l.modify k fun x => { x with fin := i, res := r.res }) rs)
    else callsW (i + 1) l rs
def callsL (rows : List Seen) : List Call × Int := callsW 0 [] rows
/-- No two calls have one client and number. -/
def Dist (l : List Call) : Prop := ∀ i j (hi : i < l.length) (hj : j < l.length), keyOf l[i] = keyOf l[j] → i = j
theorem placeC_some {l : List Call} (hd : Dist l) {j : Nat} (hj : j < l.length) {q : Int × Int} (e : keyOf l[j] = q) : placeC l q = some j := by
  unfold placeC
  cases hf : (List.range l.length).find? fun k => decide ((l[k]?).map keyOf = some q) with
  | none =>
    rw [List.find?_eq_none] at hf
    have := hf j (List.mem_range.2 hj)
    rw [List.getElem?_eq_getElem hj] at this
    simp [e] at this
  | some k =>
    have h1 := List.find?_some hf
    have h2 := List.mem_range.1 (List.mem_of_find?_eq_some hf)
    simp only [List.getElem?_eq_getElem h2, Option.map_some, decide_eq_true_eq, Option.some.injEq] at h1
    rw [hd k j h2 hj (h1.trans e.symm)]
theorem placeC_none {l : List Call} {q : Int × Int} (h : ∀ j (hj : j < l.length), keyOf l[j] ≠ q) : placeC l q = none := by
  unfold placeC
  rw [List.find?_eq_none]
  intro k hk
  have hk := List.mem_range.1 hk
  rw [List.getElem?_eq_getElem hk]
  simp [h k hk]
theorem placeC_is {l : List Call} {q : Int × Int} {j : Nat} (h : placeC l q = some j) : ∃ (hj : j < l.length), keyOf l[j] = q := by
  unfold placeC at h
  have h1 := List.find?_some h
  have h2 := List.mem_range.1 (List.mem_of_find?_eq_some h)
  simp only [List.getElem?_eq_getElem h2, Option.map_some, decide_eq_true_eq, Option.some.injEq] at h1
  exact ⟨h2, h1⟩
/-- The map tells the calls' places. -/
structure HaveP (ps : List ((Int × Int) × Int)) (l : List Call) : Prop where
  dist : Dist l
  yes : ∀ q v, lookK ps q = some v → ∃ j, ∃ (h : j < l.length), keyOf l[j] = q ∧ v = (j:Int) + 1
  no : ∀ q, lookK ps q = none → ∀ j (h : j < l.length), keyOf l[j] ≠ q
theorem HaveP.nil : HaveP [] [] := ⟨fun i j hi => by simp at hi, fun q v h => by simp [lookK] at h, fun q _ j h => by simp at h⟩
theorem HaveP.place_none {ps : List ((Int × Int) × Int)} {l : List Call} (h : HaveP ps l) {q : Int × Int} (hq : lookK ps q = none) : placeC l q = none := placeC_none fun j hj => h.no q hq j hj
theorem HaveP.place_some {ps : List ((Int × Int) × Int)} {l : List Call} (h : HaveP ps l) {q : Int × Int} {v : Int} (hq : lookK ps q = some v) : ∃ j, ∃ (hj : j < l.length), placeC l q = some j ∧ v = (j:Int) + 1 := by
  obtain ⟨j, hj, he, hv⟩ := h.yes q v hq
  exact ⟨j, hj, placeC_some h.dist hj he, hv⟩
theorem HaveP.snoc {ps : List ((Int × Int) × Int)} {l : List Call} (h : HaveP ps l) {x : Call} (hn : lookK ps (keyOf x) = none) : HaveP (setK ps (keyOf x) ((l.length : Int) + 1)) (l ++ [x]) := by
  have hx := h.no _ hn
  have hg : ∀ j (hj : j < (l ++ [x]).length), (∃ (h : j < l.length), (l ++ [x])[j] = l[j]) ∨ j = l.length ∧ (l ++ [x])[j] = x := fun j hj => by
    by_cases h1 : j < l.length
    · exact .inl ⟨h1, List.getElem_append_left h1⟩
    · have h2 : j = l.length := by simp at hj; omega
      subst h2
      exact .inr ⟨rfl, by simp⟩
  refine ⟨fun i j hi hj e => ?_, fun q v hv => ?_, fun q hq j hj => ?_⟩
  · rcases hg i hi with ⟨h1, e1⟩ | ⟨h1, e1⟩ <;> rcases hg j hj with ⟨h2, e2⟩ | ⟨h2, e2⟩ <;> rw [e1, e2] at e
    · exact h.dist i j h1 h2 e
    · exact absurd e (hx i h1)
    · exact absurd e.symm (hx j h2)
    · omega
  · rw [lookK_setK] at hv
    by_cases e : keyOf x = q
    · rw [if_pos e] at hv
      injection hv with hv
      exact ⟨l.length, by simp, by simp [e], hv.symm⟩
    · rw [if_neg e] at hv
      obtain ⟨j, h2, h3, h4⟩ := h.yes q v hv
      exact ⟨j, by simp; omega, by rw [List.getElem_append_left h2]; exact h3, h4⟩
  · rw [lookK_setK] at hq
    by_cases e : keyOf x = q
    · rw [if_pos e] at hq; cases hq
    · rw [if_neg e] at hq
      rcases hg j hj with ⟨h1, e1⟩ | ⟨h1, e1⟩
      · rw [e1]; exact h.no q hq j h1
      · rw [e1]; exact e
theorem HaveP.turn {ps : List ((Int × Int) × Int)} {l : List Call} (h : HaveP ps l) (k : Nat) (f : Call → Call) (hf : ∀ x, keyOf (f x) = keyOf x) : HaveP ps (l.modify k f) := by
  have hl : (l.modify k f).length = l.length := List.length_modify _ _ _
  have hg : ∀ j (hj : j < (l.modify k f).length), keyOf (l.modify k f)[j] = keyOf (l[j]'(by rw [← hl]; exact hj)) := fun j hj => by
    rw [List.getElem_modify]
    split
    · exact hf _
    · rfl
  refine ⟨fun i j hi hj e => ?_, fun q v hv => ?_, fun q hq j hj => ?_⟩
  · rw [hg i hi, hg j hj] at e
    exact h.dist i j _ _ e
  · obtain ⟨j, h2, h3, h4⟩ := h.yes q v hv
    exact ⟨j, by rw [hl]; exact h2, by rw [hg]; exact h3, h4⟩
  · rw [hg j hj]; exact h.no q hq j _
theorem dist_snoc {l : List Call} (h : Dist l) {x : Call} (hx : ∀ j (hj : j < l.length), keyOf l[j] ≠ keyOf x) : Dist (l ++ [x]) := by
  have hg : ∀ j (hj : j < (l ++ [x]).length), (∃ (h : j < l.length), (l ++ [x])[j] = l[j]) ∨ j = l.length ∧ (l ++ [x])[j] = x := fun j hj => by
    by_cases h1 : j < l.length
    · exact .inl ⟨h1, List.getElem_append_left h1⟩
    · have h2 : j = l.length := by simp at hj; omega
      subst h2
      exact .inr ⟨rfl, by simp⟩
  intro i j hi hj e
  rcases hg i hi with ⟨h1, e1⟩ | ⟨h1, e1⟩ <;> rcases hg j hj with ⟨h2, e2⟩ | ⟨h2, e2⟩ <;> rw [e1, e2] at e
  · exact h i j h1 h2 e
  · exact absurd e (hx i h1)
  · exact absurd e.symm (hx j h2)
  · omega
theorem dist_turn {l : List Call} (h : Dist l) (k : Nat) (f : Call → Call) (hf : ∀ x, keyOf (f x) = keyOf x) : Dist (l.modify k f) := by
  have hl : (l.modify k f).length = l.length := List.length_modify _ _ _
  have hg : ∀ j (hj : j < (l.modify k f).length), keyOf (l.modify k f)[j] = keyOf (l[j]'(by rw [← hl]; exact hj)) := fun j hj => by
    rw [List.getElem_modify]
    split
    · exact hf _
    · rfl
  intro i j hi hj e
  rw [hg i hi, hg j hj] at e
  exact h i j _ _ e
theorem calls_len : ∀ (rs : List Seen) (i : Nat) (l : List Call), (callsW i l rs).1.length ≤ l.length + rs.length := by
  intro rs
  induction rs with
  | nil => intro i l; simp [callsW]
  | cons r rs ih =>
    intro i l
    simp only [callsW]
    split
    · split
      · simp
      · split
        · simp
        · have := ih (i + 1) (l ++ [newC r.ent i]); simp at this ⊢; omega
    · split
      · split
        · simp
        · split
          · simp
          · refine Nat.le_trans (ih _ _) ?_; rw [List.length_modify]; simp only [List.length_cons]; omega
      · have := ih (i + 1) l; simp only [List.length_cons]; omega
end Go.Proofs.Ytmfidhlhcochoaa
