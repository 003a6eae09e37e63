/- The book of lists: what it keeps, lists in memory of their own, and an append that tells whether it moved. Plain memory. Conditions: none.
The book: what is put into it, and that Apart answers true. Conditions: lists in memory of their own, no two in one block; lengths within Go's own limits.
Values that calls handed out, each in memory of its own; what keeps them, and the book's lists. Plain memory. Conditions: none.
Book.Apart: true where each kind of list is found apart. Conditions: as each kind's own.
An entry of a row of the call's own, written over but for its number. Plain memory. Conditions: the place lies in the row. -/
import Derived.Test.YtnfilklgogaheaaStore
import Derived.Test.YtnfilklgogaheaaGiven
import Derived.Deep.MidRow
import Derived.Test.YtnfilklgogaheaaOpen3
namespace Go.Proofs.Ytnfilklgogaheaa
open Go.RowKit
set_option linter.unusedVariables false
set_option linter.unusedSimpArgs false

/-- One list that lies in the book: its block, length, capacity. -/
structure Bk where
  g : Nat
  n : Nat
  c : Nat
def Bk.v (b : Bk) : Value := .slice (some ⟨b.g, 0, none⟩) b.n b.c
def Bk.x (b : Bk) : { v : Value // v.oneCell' = true } := ⟨b.v, rfl⟩

section app2
variable {P : Program} {t e : TypeId} {k bytes : Nat} {α : Type} {enc : α → List Value}
/-- append of one element to a row of the call's own: there is room (the same block), or it moves (all that was stays). -/
theorem run_app2 (w : World) (T : RowT P t e k bytes) (E : Enc enc k) (ty : TypeId) (base : Nat) {g n cap : Nat} {xs : List α} {y : α} (hn : n = xs.length) (hv : Made enc k e base w (.slice (some ⟨g, 0, none⟩) n cap) xs) {B : Nat} {A : Option Addr} {c m : Nat} (hm : m = 1) (hy : Rd enc k w B A [y])
    (hbytes : (xs.length + 1) * bytes ≤ 140737488355328) (h63 : xs.length + 1 ≤ maxLen) (hbase : base ≤ w.heap.size) :
    ∃ (b : Bk) (w' : World), (Builtin.append_ #[t, t] ty #[.slice (some ⟨g, 0, none⟩) n cap, .slice A m c]).run P w = .ok b.v w' ∧ b.n = n + 1 ∧ Made enc k e base w' b.v (xs ++ [y]) ∧
      ((b.g = g ∧ w.grownBy w' (some g)) ∨ (b.g = w.heap.size ∧ Below w.heap.size w w')) := by
  obtain ⟨v', w', hrun, hmd, hgr, hat⟩ := run_app w T E ty base hv (c := c) (m := m) (by simpa using hm) hy (by simpa using hbytes) (by simpa using h63) hbase
  subst hn
  obtain ⟨A', c', rfl, hc'⟩ := hmd.form
  obtain ⟨i, z, hi, hz, hs, hb, hzs⟩ := T.info
  have hA : ∃ ad, A = some ad := by obtain ⟨ad, q, _⟩ := hy 0 y rfl; exact ⟨ad, q⟩
  obtain ⟨ad, rfl⟩ := hA
  have hl1 : (xs ++ [y]).length = xs.length + 1 := by simp
  rcases hv.2 with ⟨hvn, _⟩ | ⟨g', cap', cur, hvv, hbg, hg, hnc, hcm, hcs, htake⟩
  · cases hvn
  injection hvv with q1 q2 q3
  injection q1 with q1
  injection q1 with q1
  subst q1 q3
  have hfl : (flat enc [y]).length = m * i.size := by rw [flat_length E.len, hs, hm]; simp
  have hnews : ∀ j u, (flat enc [y])[j]? = some u → w.cell? (ad.add j) = some u := hy.flatAt E.len T.pos
  by_cases hroom : xs.length + m ≤ cap
  · have hfit : xs.length * i.size + (flat enc [y]).length ≤ cur.size := by rw [hfl, hcs, hs, ← Nat.add_mul]; exact Nat.mul_le_mul_right _ hroom
    have hr := run_append_room (P := P) w t ty e i T.under hi g xs.length cap cur hg ad m c (flat enc [y]) hfl hnews (E.flat_one [y]) hroom hfit
    rw [hr] at hrun
    injection hrun with r1 r2
    injection r1 with r1 r3 r4
    subst r1
    refine ⟨⟨g, xs.length + m, cap⟩, w', ?_, by simp [hm], ?_, .inl ⟨rfl, hgr⟩⟩
    · rw [hr, r2]; rfl
    · show Made enc k e base w' (.slice (some ⟨g, 0, none⟩) (xs.length + m) cap) (xs ++ [y])
      rw [r3, r4]; exact hmd
  · have hsmall : xs.length + m ≤ 9223372036854775807 := by simp only [maxLen] at h63; omega
    have holds : ∀ j u, (flat enc xs)[j]? = some u → w.cell? ((⟨g, 0, none⟩ : Addr).add j) = some u := World.ownsRow.cells (g := g) hv rfl
    have hr := run_append_grow (P := P) w t ty e i z T.under hi hz ⟨g, 0, none⟩ xs.length cap (flat enc xs) (by rw [flat_length E.len, hs]) holds ad m c (flat enc [y]) hfl hnews (by omega) (by omega) (growslice_fits (by omega) (by rw [hm, hb]; exact hbytes))
    rw [hr] at hrun
    injection hrun with r1 r2
    injection r1 with r1 r3 r4
    subst r1
    refine ⟨⟨w.heap.size, (xs ++ [y]).length, c'⟩, w', ?_, hl1, hmd, .inr ⟨rfl, ?_⟩⟩
    · rw [hr, r2, r4, r3]; rfl
    · rw [← r2]; exact ⟨rfl, rfl, rfl, by simp, fun j hj => heap_alloc_old w.drew _ hj⟩
theorem wpList_app2 {w : World} (T : RowT P t e k bytes) (E : Enc enc k) {ops : Array Oper} {rest : List Oper} {o : Oper} {a : Act} {Q : Exit → Act → World → Prop} (hgd : o.guard = none) (s x : Operand)
    (ho : o.op = .call { callee := .builtin .append, args := #[s, x], argTypes := #[t, t] })
    (base : Nat) {g n cap : Nat} {xs : List α} {y : α} (hs : a.eval s = .slice (some ⟨g, 0, none⟩) n cap) (hn : n = xs.length) (hv : Made enc k e base w (.slice (some ⟨g, 0, none⟩) n cap) xs) {B : Nat} {A : Option Addr} {c m : Nat} (hx : a.eval x = .slice A m c) (hm : m = 1) (hy : Rd enc k w B A [y])
    (hbytes : (xs.length + 1) * bytes ≤ 140737488355328) (h63 : xs.length + 1 ≤ maxLen) (hbase : base ≤ w.heap.size)
    (h : ∀ (b : Bk) (w' : World), b.n = n + 1 → Made enc k e base w' b.v (xs ++ [y]) → ((b.g = g ∧ w.grownBy w' (some g)) ∨ (b.g = w.heap.size ∧ Below w.heap.size w w')) → wpList P ops Q rest (a.put o.dst b.v) w') : wpList P ops Q (o :: rest) a w := by
  refine wpList_plain hgd fun _ hK => ?_
  obtain ⟨b, w', hrun, h2, h3, h4⟩ := run_app2 w T E o.type base hn hv (c := c) hm hy hbytes h63 hbase
  unfold Oper.wp execOp
  simp only [ho, resolve, invoke, builtin, Sem.run_bind, Sem.run_pure, Result.andThen_ok, List.map_toArray, List.map_cons, List.map_nil, hs, hx, hrun]
  exact hK _ _ (h b w' h2 h3 h4)
end app2

theorem Rd.keepAt2 {α : Type} {enc : α → List Value} {k : Nat} {w w' : World} {B B' : Nat} {A : Option Addr} {xs : List α} (h : Rd enc k w B A xs) (hB : B ≤ B') (hk : ∀ ad, A = some ad → ad.block < B → w'.heap[ad.block]? = w.heap[ad.block]?) : Rd enc k w' B' A xs := fun i x hx => by
  obtain ⟨ad, e, hb, ha⟩ := h i x hx
  refine ⟨ad, e, by omega, ha.keep fun q hq => ?_⟩
  have h1 := hk ad e hb
  unfold World.cell?
  rw [hq, block_add, h1]
theorem setCells_put (g : Nat) (us : List Value) : ∀ (w : World) (o : Nat), w.setCells g o us = putCells w g o us := by
  induction us with
  | nil => intro w o; rfl
  | cons u us ih => intro w o; exact ih _ _
/-- The store of a whole element into a row of the call's own. -/
theorem run_put {P : Program} {α : Type} {enc : α → List Value} {k : Nat} {e ty : TypeId} {base : Nat} {w : World} {g n c q : Nat} {xs : List α} {x : α} {cells : Array Value} (E : Enc enc k) (h : Made enc k e base w (.slice (some ⟨g, 0, none⟩) n c) xs) (hn : xs.length = n) (hq : q < n) (hi : (P.info? ty).map (·.size) = some k) (hx : cells.toList = enc x) :
    (Instr.storeAt ty (.pointer (some ⟨g, q * k, none⟩)) (.agg cells)).run P w = .ok () (putCells w g (q * k) (enc x)) := by
  subst hn
  have hsz : cells.size = k := by rw [← Array.length_toList, hx, E.len]
  rw [← setCells_put, ← hx]
  refine run_storeAt_mid w g (q * k) ty cells (fun j hj => ?_) (by rw [hsz]; exact hi) ?_
  · obtain ⟨⟨u, h1⟩, h2⟩ := h.place E.len hq j (by omega)
    exact ⟨by rw [h1]; rfl, h2⟩
  · refine Array.all_eq_true_iff_forall_mem.2 fun v hv => ?_
    exact E.one x v (by rw [← hx]; simpa using hv)
/-- What the walk asks while it stores an element cell by cell. -/
def Stepped (w : World) (g o : Nat) : Nat → List Value → Prop
  | _, [] => True
  | j, u :: us => (∃ x, w.cell? ⟨g, o + j, none⟩ = some x) ∧ w.frozen? ⟨g, o + j, none⟩ = false ∧ Stepped (w.setCell ⟨g, o + j, none⟩ u) g o (j + 1) us
theorem stepped_of (g o : Nat) (us : List Value) : ∀ (j : Nat) (w : World), (∀ m, m < us.length → (∃ x, w.cell? ⟨g, o + (j + m), none⟩ = some x) ∧ w.frozen? ⟨g, o + (j + m), none⟩ = false) → Stepped w g o j us := by
  induction us with
  | nil => intro j w _; trivial
  | cons u us ih =>
    intro j w h
    refine ⟨(h 0 (by simp)).1, (h 0 (by simp)).2, ih (j + 1) _ fun m hm => ?_⟩
    obtain ⟨⟨x, h1⟩, h2⟩ := h (m + 1) (by simpa using hm)
    have e : j + 1 + m = j + (m + 1) := by omega
    rw [e]
    refine ⟨⟨x, ?_⟩, by rw [World.frozen?_setCell]; exact h2⟩
    rw [World.cell?_setCell_other _ _ _ _ (by simp)]
    exact h1
theorem Made.stepped {α : Type} {enc : α → List Value} {k : Nat} {e : TypeId} {base : Nat} {w : World} {g n c q : Nat} {xs : List α} (E : Enc enc k) (h : Made enc k e base w (.slice (some ⟨g, 0, none⟩) n c) xs) (hn : xs.length = n) (hq : q < n) (x : α) : Stepped w g (q * k) 0 (enc x) := by
  subst hn
  refine stepped_of g (q * k) (enc x) 0 w fun m hm => ?_
  rw [E.len] at hm
  rw [Nat.zero_add]
  exact h.place E.len hq m hm
section lists
variable {α : Type} {enc : α → List Value} {k : Nat} {e : TypeId} {base : Nat} {w w' : World} {L G : List Bk} {mk : Nat → Nat → α} {i kk m : Nat} {l c : Bk}
def marks (mk : Nat → Nat → α) (i n : Nat) : List α := (List.range n).map (mk i)
theorem marks_length (mk : Nat → Nat → α) (i n : Nat) : (marks mk i n).length = n := by simp [marks]
theorem marks_succ (mk : Nat → Nat → α) (i n : Nat) : marks mk i (n + 1) = marks mk i n ++ [mk i n] := by simp [marks, List.range_succ]
theorem marks_get (mk : Nat → Nat → α) (i n : Nat) {j : Nat} (h : j < n) : (marks mk i n)[j]? = some (mk i j) := by simp [marks, h]
theorem marks_take (mk : Nat → Nat → α) (i : Nat) {m n : Nat} (h : m ≤ n) : (marks mk i n).take m = marks mk i m := by
  simp only [marks, ← List.map_take, List.take_range, Nat.min_eq_left h]

/-- The lists lie in memory of their own, no two in one block; none is empty. -/
structure Lists (enc : α → List Value) (k : Nat) (e : TypeId) (base : Nat) (w : World) (L : List Bk) : Prop where
  made : ∀ l ∈ L, ∃ xs : List α, xs.length = l.n ∧ Made enc k e base w l.v xs
  apart : L.Pairwise (fun a b => a.g ≠ b.g)
theorem Lists.ne (h : L.Pairwise (fun a b => a.g ≠ b.g)) {i j : Nat} {a b : Bk} (ha : L[i]? = some a) (hb : L[j]? = some b) (hij : i ≠ j) : a.g ≠ b.g := by
  obtain ⟨h1, e1⟩ := List.getElem?_eq_some_iff.1 ha
  obtain ⟨h2, e2⟩ := List.getElem?_eq_some_iff.1 hb
  subst e1 e2
  have hp := List.pairwise_iff_getElem.1 h
  rcases Nat.lt_or_gt_of_ne hij with q | q
  · exact hp i j h1 h2 q
  · exact (hp j i h2 h1 q).symm

/-- In the midst of marking: list i has its first kk marks. -/
def MarkedAt (mk : Nat → Nat → α) (enc : α → List Value) (k : Nat) (e : TypeId) (base : Nat) (w : World) (L : List Bk) (i kk : Nat) : Prop :=
  ∀ (j : Nat) (l : Bk), L[j]? = some l → ∃ xs : List α, xs.length = l.n ∧ Made enc k e base w l.v xs ∧ (j < i → xs = marks mk j l.n) ∧ (j = i → xs.take kk = marks mk i kk)
theorem MarkedAt.start (h : Lists enc k e base w L) : MarkedAt mk enc k e base w L 0 0 := fun j l hj => by
  obtain ⟨xs, h1, h2⟩ := h.made l (List.mem_of_getElem? hj)
  exact ⟨xs, h1, h2, by omega, fun _ => by simp [marks]⟩
theorem MarkedAt.keep (h : MarkedAt mk enc k e base w L i kk) (hb : ∀ l ∈ L, w'.heap[l.g]? = w.heap[l.g]?) : MarkedAt mk enc k e base w' L i kk := fun j l hj => by
  obtain ⟨xs, h1, h2, h3, h4⟩ := h j l hj
  refine ⟨xs, h1, h2.same fun b q => ?_, h3, h4⟩
  simp only [Bk.v, Value.ownBlock] at q
  cases q
  exact hb l (List.mem_of_getElem? hj)
theorem MarkedAt.lt (h : MarkedAt mk enc k e base w L i kk) : ∀ l ∈ L, base ≤ l.g ∧ l.g < w.heap.size := fun l hl => by
  obtain ⟨j, hj⟩ := List.mem_iff_getElem?.1 hl
  obtain ⟨xs, h1, h2, _⟩ := h j l hj
  exact h2.lt l.g rfl
theorem MarkedAt.below (h : MarkedAt mk enc k e base w L i kk) (hb : Below w.heap.size w w') : MarkedAt mk enc k e base w' L i kk :=
  h.keep fun l hl => hb.block _ (h.lt l hl).2
theorem MarkedAt.step (hk : ∀ x, (enc x).length = k) (hp : 0 < k) (ha : L.Pairwise (fun a b => a.g ≠ b.g)) (h : MarkedAt mk enc k e base w L i kk) {l : Bk} (hl : L[i]? = some l) (hkk : kk < l.n) : MarkedAt mk enc k e base (putCells w l.g (kk * k) (enc (mk i kk))) L i (kk + 1) := fun j l' hj => by
  obtain ⟨xs, h1, h2, h3, h4⟩ := h j l' hj
  by_cases hji : j = i
  · subst hji
    rw [hl] at hj; cases hj
    have h2' : Made enc k e base w (.slice (some ⟨l.g, 0, none⟩) xs.length l.c) xs := by rw [h1]; exact h2
    have h5 := Made.put hk hp h2' (i := kk) (by omega) (mk j kk)
    refine ⟨xs.set kk (mk j kk), by simpa using h1, ?_, by omega, fun _ => ?_⟩
    · rw [List.length_set, h1] at h5; exact h5
    · rw [List.take_set, List.take_succ_eq_append_getElem (by omega), h4 rfl, List.set_append_right _ _ (by rw [marks_length]; omega), marks_length, Nat.sub_self, List.set_cons_zero, marks_succ]
  · refine ⟨xs, h1, h2.same fun b q => ?_, h3, fun q => absurd q hji⟩
    simp only [Bk.v, Value.ownBlock] at q
    cases q
    exact putCells_block (Lists.ne ha hj hl hji)
theorem MarkedAt.next (h : MarkedAt mk enc k e base w L i kk) {l : Bk} (hl : L[i]? = some l) (hkk : l.n ≤ kk) : MarkedAt mk enc k e base w L (i + 1) 0 := fun j l' hj => by
  obtain ⟨xs, h1, h2, h3, h4⟩ := h j l' hj
  refine ⟨xs, h1, h2, fun hji => ?_, fun _ => by simp [marks]⟩
  by_cases hq : j < i
  · exact h3 hq
  · obtain rfl : j = i := by omega
    rw [hl] at hj; cases hj
    have := h4 rfl
    rw [List.take_of_length_le (by omega)] at this
    rw [this]
    have hlen := congrArg List.length this
    rw [h1, marks_length] at hlen
    rw [hlen]

/-- In the midst of growing: the lists before i are grown (G), each of them in its old block or in one of its own; all old lists read their marks. -/
structure GrownAt (mk : Nat → Nat → α) (enc : α → List Value) (k : Nat) (e : TypeId) (base : Nat) (w : World) (L G : List Bk) (i : Nat) : Prop where
  len : G.length = i
  lt : ∀ (j : Nat) (l : Bk), L[j]? = some l → l.g < w.heap.size
  old : ∀ (j : Nat) (l : Bk), L[j]? = some l → Rd enc k w w.heap.size (some ⟨l.g, 0, none⟩) (marks mk j l.n)
  rest : ∀ (j : Nat) (l : Bk), L[j]? = some l → i ≤ j → Made enc k e base w l.v (marks mk j l.n)
  grown : ∀ (j : Nat) (b l : Bk), G[j]? = some b → L[j]? = some l → b.n = l.n + 70 ∧ Made enc k e base w b.v (marks mk j b.n)
  other : ∀ (j : Nat) (b : Bk), G[j]? = some b → ∀ (j' : Nat) (l : Bk), L[j']? = some l → j' ≠ j → b.g ≠ l.g
theorem GrownAt.start (h : MarkedAt mk enc k e base w L L.length 0) (hk : ∀ x, (enc x).length = k) : GrownAt mk enc k e base w L [] 0 := by
  have hm : ∀ (j : Nat) (l : Bk), L[j]? = some l → Made enc k e base w l.v (marks mk j l.n) := fun j l hj => by
    obtain ⟨xs, h1, h2, h3, _⟩ := h j l hj
    rw [h3 (List.getElem?_eq_some_iff.1 hj).1] at h2
    exact h2
  exact ⟨rfl, fun j l hj => ((hm j l hj).lt l.g rfl).2, fun j l hj => (hm j l hj).rd' hk, fun j l hj _ => hm j l hj, fun j b l hj => by simp at hj, fun j b hj => by simp at hj⟩
/-- While list i grows: its value is c so far. -/
structure GrowAt (mk : Nat → Nat → α) (enc : α → List Value) (k : Nat) (e : TypeId) (base : Nat) (w : World) (L G : List Bk) (i : Nat) (l c : Bk) (m : Nat) : Prop where
  len : G.length = i
  lt : ∀ (j : Nat) (l : Bk), L[j]? = some l → l.g < w.heap.size
  old : ∀ (j : Nat) (l : Bk), L[j]? = some l → Rd enc k w w.heap.size (some ⟨l.g, 0, none⟩) (marks mk j l.n)
  rest : ∀ (j : Nat) (l : Bk), L[j]? = some l → i < j → Made enc k e base w l.v (marks mk j l.n)
  grown : ∀ (j : Nat) (b l : Bk), G[j]? = some b → L[j]? = some l → b.n = l.n + 70 ∧ Made enc k e base w b.v (marks mk j b.n)
  other : ∀ (j : Nat) (b : Bk), G[j]? = some b → ∀ (j' : Nat) (l : Bk), L[j']? = some l → j' ≠ j → b.g ≠ l.g
  cn : c.n = l.n + m
  cur : Made enc k e base w c.v (marks mk i c.n)
  cother : ∀ (j' : Nat) (l : Bk), L[j']? = some l → j' ≠ i → c.g ≠ l.g
  cG : ∀ (j : Nat) (b : Bk), G[j]? = some b → b.g ≠ c.g
theorem GrowAt.start (h : GrownAt mk enc k e base w L G i) {l : Bk} (hl : L[i]? = some l) (ha : L.Pairwise (fun a b => a.g ≠ b.g)) : GrowAt mk enc k e base w L G i l l 0 :=
  ⟨h.len, h.lt, h.old, fun j l hj hij => h.rest j l hj (by omega), h.grown, h.other, rfl, h.rest i l hl (Nat.le_refl _), fun j' l' hj' hne => Lists.ne ha hl hj' (Ne.symm hne), fun j b hj => h.other j b hj i l hl (fun q => by have := (List.getElem?_eq_some_iff.1 hj).1; have := h.len; omega)⟩
theorem GrowAt.finish (h : GrowAt mk enc k e base w L G i l c 70) (hl : L[i]? = some l) (hi : i < L.length) : GrownAt mk enc k e base w L (G ++ [c]) (i + 1) := by
  have hG := h.len
  refine ⟨by simp [hG], h.lt, h.old, fun j l hj hij => h.rest j l hj (by omega), fun j b l' hj hl' => ?_, fun j b hj j' l' hl' hne => ?_⟩
  · by_cases hji : j < i
    · rw [List.getElem?_append_left (by omega)] at hj
      exact h.grown j b l' hj hl'
    · have hjl := (List.getElem?_eq_some_iff.1 hj).1
      simp at hjl
      obtain rfl : j = i := by omega
      rw [List.getElem?_append_right (by omega), hG, Nat.sub_self] at hj
      simp at hj
      subst hj
      rw [hl] at hl'; cases hl'
      exact ⟨h.cn, h.cur⟩
  · by_cases hji : j < i
    · rw [List.getElem?_append_left (by omega)] at hj
      exact h.other j b hj j' l' hl' hne
    · have hjl := (List.getElem?_eq_some_iff.1 hj).1
      simp at hjl
      obtain rfl : j = i := by omega
      rw [List.getElem?_append_right (by omega), hG, Nat.sub_self] at hj
      simp at hj
      subst hj
      exact h.cother j' l' hl' hne
theorem GrowAt.below (h : GrowAt mk enc k e base w L G i l c m) (hb : Below w.heap.size w w') : GrowAt mk enc k e base w' L G i l c m :=
  ⟨h.len, fun j l hj => Nat.lt_of_lt_of_le (h.lt j l hj) hb.size, fun j l hj => ((h.old j l hj).below hb).more hb.size, fun j l hj hij => (h.rest j l hj hij).below hb fun b q => ((h.rest j l hj hij).lt b q).2,
    fun j b l hj hl => ⟨(h.grown j b l hj hl).1, (h.grown j b l hj hl).2.below hb fun q e => ((h.grown j b l hj hl).2.lt q e).2⟩, h.other, h.cn, h.cur.below hb fun q e => (h.cur.lt q e).2, h.cother, h.cG⟩
theorem GrownAt.keep (h : GrownAt mk enc k e base w L G i) (hs : w.heap.size ≤ w'.heap.size) (hl : ∀ l ∈ L, w'.heap[l.g]? = w.heap[l.g]?) (hg : ∀ b ∈ G, b.g < w.heap.size → (∃ cs, w.heap[b.g]? = some (.cells cs e (0, 0))) → w'.heap[b.g]? = w.heap[b.g]?) (hG : G.length ≤ L.length) : GrownAt mk enc k e base w' L G i := by
  refine ⟨h.len, fun j l hj => Nat.lt_of_lt_of_le (h.lt j l hj) hs, fun j l hj => (h.old j l hj).keepAt2 hs fun ad e _ => ?_, fun j l hj hij => (h.rest j l hj hij).same fun b q => ?_, fun j b l hj hl' => ⟨(h.grown j b l hj hl').1, (h.grown j b l hj hl').2.same fun q e => ?_⟩, h.other⟩
  · cases e; exact hl l (List.mem_of_getElem? hj)
  · simp only [Bk.v, Value.ownBlock] at q
    cases q; exact hl l (List.mem_of_getElem? hj)
  · have h1 := ((h.grown j b l hj hl').2.lt q e).2
    have h2 := (h.grown j b l hj hl').2.cell_block e
    simp only [Bk.v, Value.ownBlock] at e
    cases e
    exact hg b (List.mem_of_getElem? hj) h1 h2
theorem GrownAt.below (h : GrownAt mk enc k e base w L G i) (hb : Below w.heap.size w w') (hG : G.length ≤ L.length) : GrownAt mk enc k e base w' L G i :=
  h.keep hb.size (fun l hl => by obtain ⟨j, hj⟩ := List.mem_iff_getElem?.1 hl; exact hb.block _ (h.lt j l hj)) (fun b _ hlt _ => hb.block _ hlt) hG
/-- One element more. -/
theorem GrowAt.step (h : GrowAt mk enc k e base w L G i l c m) (hk : ∀ x, (enc x).length = k) (hl : L[i]? = some l) (hlG : ∀ (j : Nat) (b : Bk), G[j]? = some b → ∃ l, L[j]? = some l) {b : Bk} (hn : b.n = c.n + 1) (hm : Made enc k e base w' b.v (marks mk i c.n ++ [mk i c.n]))
    (hg : (b.g = c.g ∧ w.grownBy w' (some c.g)) ∨ (b.g = w.heap.size ∧ Below w.heap.size w w')) : GrowAt mk enc k e base w' L G i l b (m + 1) := by
  rw [← marks_succ, ← hn] at hm
  have hcn := h.cn
  have hGb : ∀ (j : Nat) (q : Bk), G[j]? = some q → base ≤ q.g ∧ q.g < w.heap.size := fun j q hj => by
    obtain ⟨l', hl'⟩ := hlG j q hj
    exact (h.grown j q l' hj hl').2.lt q.g rfl
  rcases hg with ⟨h1, h2⟩ | ⟨h1, h2⟩
  · -- in place
    have hbl : ∀ j, j < w.heap.size → j ≠ c.g → w'.heap[j]? = w.heap[j]? := fun j hj hne => h2.block j hj (fun e => hne (by cases e; rfl))
    have hsz := h2.size
    refine ⟨h.len, fun j l hj => Nat.lt_of_lt_of_le (h.lt j l hj) hsz, fun j l' hj => ?_, fun j l' hj hij => ?_, fun j q l' hj hl' => ⟨(h.grown j q l' hj hl').1, ?_⟩, h.other, by omega, hm, fun j' l' hl' hne => by rw [h1]; exact h.cother j' l' hl' hne, fun j q hj => by rw [h1]; exact h.cG j q hj⟩
    · by_cases hji : j = i
      · subst hji
        rw [hl] at hj; cases hj
        by_cases hcl : c.g = l.g
        · have h5 := (Made.rd' hk hm).take l.n
          rw [marks_take mk j (by omega), h1, hcl] at h5
          exact h5
        · refine (h.old j l hl).keepAt2 hsz fun ad q hb => ?_
          cases q
          exact hbl _ hb (fun e => hcl e.symm)
      · refine (h.old j l' hj).keepAt2 hsz fun ad q hb => ?_
        cases q
        exact hbl _ hb (fun e => h.cother j l' hj hji e.symm)
    · refine (h.rest j l' hj hij).same fun q e => ?_
      have hq := (h.rest j l' hj hij).lt q e
      simp only [Bk.v, Value.ownBlock] at e
      cases e
      exact hbl _ hq.2 (fun e => h.cother j l' hj (by omega) e.symm)
    · refine (h.grown j q l' hj hl').2.same fun r e => ?_
      have hq := (h.grown j q l' hj hl').2.lt r e
      simp only [Bk.v, Value.ownBlock] at e
      cases e
      exact hbl _ hq.2 (h.cG j q hj)
  · -- moved
    have hB := h.below h2
    refine ⟨h.len, hB.lt, hB.old, hB.rest, hB.grown, h.other, by omega, hm, fun j' l' hl' hne q => ?_, fun j q hj e => ?_⟩
    · have := h.lt j' l' hl'; omega
    · have := (hGb j q hj).2; omega
end lists
end Go.Proofs.Ytnfilklgogaheaa

namespace Go.Proofs.Ytnfilklgogaheaa
open Go.RowKit
set_option linter.unusedVariables false
set_option linter.unusedSimpArgs false

theorem rowsEntryB : RowT Try.prog 36 22 1 24 := RowT.of (z := .slice none 0 0) Try.underlying36 (by kernel_rfl) rfl (by omega)
theorem rowsCellB : RowT Try.prog 60 41 1 24 := RowT.of (z := .slice none 0 0) Try.underlying60 (by kernel_rfl) rfl (by omega)
theorem rowsRowB : RowT Try.prog 61 76 1 24 := RowT.of (z := .slice none 0 0) Try.underlying61 (by kernel_rfl) rfl (by omega)
theorem rowsResB : RowT Try.prog 62 42 1 24 := RowT.of (z := .slice none 0 0) Try.underlying62 (by kernel_rfl) rfl (by omega)

/-- The book at block b: its lists of entries, cells, rows, results; its other lists are nil. -/
structure BookC (w : World) (b base : Nat) (vE vC vR vS : Value) (LE LC LR LS : List Bk) : Prop where
  at_ : w.heap[b]? = some (.cells #[.slice none 0 0, .slice none 0 0, .slice none 0 0, vE, vC, vR, vS, .slice none 0 0, .slice none 0 0, .slice none 0 0] 67 (0, 0))
  e : Made slc 1 22 base w vE (LE.map Bk.x)
  c : Made slc 1 41 base w vC (LC.map Bk.x)
  r : Made slc 1 76 base w vR (LR.map Bk.x)
  s : Made slc 1 42 base w vS (LS.map Bk.x)
/-- The blocks of the book's own: its struct, and its rows of slices. -/
def BookS (w : World) (b base : Nat) (j : Nat) : Prop := j = b ∨ base ≤ j ∧ ∃ cs t, w.heap[j]? = some (.cells cs t (0, 0)) ∧ (t = 22 ∨ t = 41 ∨ t = 76 ∨ t = 42)
section
variable {w w' : World} {b base : Nat} {vE vC vR vS : Value} {LE LC LR LS : List Bk}
theorem BookC.new (w : World) (base : Nat) : BookC (w.alloc (.cells #[.slice none 0 0, .slice none 0 0, .slice none 0 0, .slice none 0 0, .slice none 0 0, .slice none 0 0, .slice none 0 0, .slice none 0 0, .slice none 0 0, .slice none 0 0] 67)) w.heap.size base (.slice none 0 0) (.slice none 0 0) (.slice none 0 0) (.slice none 0 0) [] [] [] [] :=
  ⟨heap_alloc_new w _, Made.nil _ _ _, Made.nil _ _ _, Made.nil _ _ _, Made.nil _ _ _⟩
theorem BookC.lt (h : BookC w b base vE vC vR vS LE LC LR LS) : b < w.heap.size := (Array.getElem?_eq_some_iff.1 h.at_).1
/-- Whatever keeps the book's own blocks keeps the book. -/
theorem BookC.keep (h : BookC w b base vE vC vR vS LE LC LR LS) (hk : ∀ j, BookS w b base j → w'.heap[j]? = w.heap[j]?) : BookC w' b base vE vC vR vS LE LC LR LS := by
  refine ⟨(hk b (.inl rfl)).trans h.at_, h.e.same fun j hj => ?_, h.c.same fun j hj => ?_, h.r.same fun j hj => ?_, h.s.same fun j hj => ?_⟩
  · obtain ⟨cs, q⟩ := h.e.cell_block hj; exact hk j (.inr ⟨(h.e.lt j hj).1, cs, _, q, .inl rfl⟩)
  · obtain ⟨cs, q⟩ := h.c.cell_block hj; exact hk j (.inr ⟨(h.c.lt j hj).1, cs, _, q, .inr (.inl rfl)⟩)
  · obtain ⟨cs, q⟩ := h.r.cell_block hj; exact hk j (.inr ⟨(h.r.lt j hj).1, cs, _, q, .inr (.inr (.inl rfl))⟩)
  · obtain ⟨cs, q⟩ := h.s.cell_block hj; exact hk j (.inr ⟨(h.s.lt j hj).1, cs, _, q, .inr (.inr (.inr rfl))⟩)
theorem BookS.lt (h : BookC w b base vE vC vR vS LE LC LR LS) {j : Nat} (q : BookS w b base j) : j < w.heap.size := by
  rcases q with rfl | ⟨_, cs, t, q, _⟩
  · exact h.lt
  · exact (Array.getElem?_eq_some_iff.1 q).1
theorem BookC.below (h : BookC w b base vE vC vR vS LE LC LR LS) (hb : Below w.heap.size w w') : BookC w' b base vE vC vR vS LE LC LR LS := h.keep fun j q => hb.block j (BookS.lt h q)
/-- A block of another type is none of the book's. -/
theorem BookS.ne {j : Nat} (q : BookS w b base j) (hb : j ≠ b) {cs : Array Value} {t : TypeId} (h : w.heap[j]? = some (.cells cs t (0, 0))) (ht : t ≠ 22 ∧ t ≠ 41 ∧ t ≠ 76 ∧ t ≠ 42) : False := by
  rcases q with q | ⟨_, cs', t', q, q'⟩
  · exact hb q
  · rw [h] at q
    cases q
    rcases q' with q' | q' | q' | q'
    · exact ht.1 q'
    · exact ht.2.1 q'
    · exact ht.2.2.1 q'
    · exact ht.2.2.2 q'
end

/-- The lists that a value adds to the book: none, if it is empty. -/
def bkOf : Value → List Bk
  | .slice (some ad) n c => if n = 0 then [] else [⟨ad.block, n, c⟩]
  | _ => []

set_option maxRecDepth 100000 in
set_option maxHeartbeats 1600000 in
theorem bookEntryP (b base : Nat) (vE vC vR vS : Value) (LE LC LR LS : List Bk) (A : Option Addr) (n c : Nat) (hA : ∀ ad, A = some ad → ∃ g, ad = ⟨g, 0, none⟩) (hA0 : A = none → n = 0) (w : World) (h : BookC w b base vE vC vR vS LE LC LR LS) (hl : LE.length ≤ 900) (hbase : base ≤ w.heap.size) :
    Calls Try.prog 29 #[.pointer (some ⟨b, 0, none⟩), .slice A n c] w fun e w' => e = .returned (.tuple #[]) ∧ (∃ v', BookC w' b base v' vC vR vS (LE ++ bkOf (.slice A n c)) LC LR LS ∧ ∀ j, v'.ownBlock = some j → vE.ownBlock = some j ∨ w.heap.size ≤ j) ∧ Kept (fun j => j = b ∨ vE.ownBlock = some j) w w' := by
  cases n with
  | zero =>
    have e0 : bkOf (.slice A 0 c) = [] := by cases A <;> simp [bkOf]
    rw [e0]
    have H := Lib.hid h
    clear h e0
    go_enter Try.func29, Try.ntmps29
    go_wp2_with fail
    go_end0
    exact ⟨rfl, ⟨vE, by first | exact H.out | (rw [List.append_nil]; exact H.out), fun j e => .inl e⟩, Kept.refl _ _⟩
  | succ n =>
    cases A with
    | none => exact absurd (hA0 rfl) (by omega)
    | some ad =>
      obtain ⟨g, rfl⟩ := hA ad rfl
      have e0 : bkOf (.slice (some ⟨g, 0, none⟩) (n + 1) c) = [⟨g, n + 1, c⟩] := by simp [bkOf]
      rw [e0]
      have H := Lib.hid h
      have hm := h.e
      obtain ⟨Av, cv, hv, hcv⟩ := hm.form
      have hlen : (LE.map Bk.x).length = LE.length := List.length_map _
      rw [hlen] at hv hcv
      subst hv
      have g4 : w.cell? ⟨b, 3, none⟩ = some (.slice Av LE.length cv) := cell_of_row w b 3 _ _ _ h.at_
      have HM1 := Lib.hid (hm.alloc (.cells #[.slice (some ⟨g, 0, none⟩) (n + 1) c] 22))
      have HR1 := Lib.hid (rd_one encSlc w (Bk.x ⟨g, n + 1, c⟩) #[.slice (some ⟨g, 0, none⟩) (n + 1) c] rfl 22)
      have HLN := Lib.hid hlen
      obtain ⟨N, hN⟩ : ∃ N, N = n + 1 := ⟨_, rfl⟩
      have hN0 : 0 < N := by omega
      have hN1 : decide ((0:Int) < (N:Int)) = true := decide_eq_true (by omega)
      rw [← hN] at HM1 HR1 ⊢
      have HLT : Hid (b < w.heap.size) := h.lt
      clear h hm hlen e0 hA hA0 hN
      go_enter Try.func29, Try.ntmps29
      go_wp2_with (at_builtin; refine wpList_app (v := .slice Av LE.length cv) (xs := LE.map Bk.x) (ys := [Bk.x ⟨g, N, c⟩]) rowsEntryB encSlc rfl (.tmp 11) (.tmp 13) rfl base rfl HM1.out rfl rfl HR1.out (by rw [HLN.out]; simp only [List.length_singleton]; omega) (by rw [HLN.out]; unfold maxLen; simp only [List.length_singleton]; omega) (by simp; omega) ?_; intro v3 w3 hm3 hg3 hat3; obtain ⟨A3, c3, hv3, hc3⟩ := hm3.form; rw [List.length_append, List.length_singleton, HLN.out] at hv3; subst hv3; have HM3 := Lib.hid hm3; have HG3 := Lib.hid hg3; have HAT := Lib.hid hat3; have hgb3 := (hg3.block b (by simp; have := HLT.out; omega) (fun e => by obtain ⟨cs, q⟩ := HM1.out.cell_block e.symm; rw [heap_alloc_old _ _ HLT.out, H.out.at_] at q; cases q)).trans ((heap_alloc_old _ _ HLT.out).trans H.out.at_); have f3 : w3.frozen? ⟨b, 3, none⟩ = false := frozen_of_row w3 b 3 _ _ hgb3; have g3 := cell_of_row w3 b 3 _ _ _ hgb3; have HGB3 := Lib.hid hgb3; clear hm3 hg3 hat3 hgb3)
      go_end0
      refine ⟨rfl, ⟨.slice A3 (LE.length + 1) c3, ?_, fun j e => ?_⟩, ?_⟩
      · have hk : ∀ j, BookS w b base j → j ≠ b → (Value.slice Av LE.length cv).ownBlock ≠ some j → (w3.setCell ⟨b, 3, none⟩ (.slice A3 (LE.length + 1) c3)).heap[j]? = w.heap[j]? := fun j q hb hne =>
          (Below.heap_setCell _ _ _ _ hb).trans ((HG3.out.block j (by simp; have := BookS.lt H.out q; omega) (fun e => hne e.symm)).trans (heap_alloc_old _ _ (BookS.lt H.out q)))
        have hneB : ∀ (j : Nat) (cs : Array Value) (t : TypeId), t ≠ 67 → w.heap[j]? = some (.cells cs t (0, 0)) → j ≠ b := fun j cs t ht q e => by
          subst e
          rw [H.out.at_] at q
          cases q
          exact ht rfl
        refine ⟨?_, ?_, ?_, ?_, ?_⟩
        · rw [heap_setCell_same _ _ _ _ _ _ HGB3.out]; rfl
        · rw [List.map_append]
          exact HM3.out.same fun j hj => Below.heap_setCell _ _ _ _ fun e => by
            obtain ⟨cs, q⟩ := HM3.out.cell_block hj
            rw [show j = b from e, HGB3.out] at q; cases q
        · refine H.out.c.same fun j hj => ?_
          obtain ⟨cs, q⟩ := H.out.c.cell_block hj
          refine hk j (.inr ⟨(H.out.c.lt j hj).1, cs, _, q, .inr (.inl rfl)⟩) (hneB j _ _ (by decide) q) fun e => ?_
          obtain ⟨cs', q'⟩ := H.out.e.cell_block e
          rw [q] at q'; cases q'
        · refine H.out.r.same fun j hj => ?_
          obtain ⟨cs, q⟩ := H.out.r.cell_block hj
          refine hk j (.inr ⟨(H.out.r.lt j hj).1, cs, _, q, .inr (.inr (.inl rfl))⟩) (hneB j _ _ (by decide) q) fun e => ?_
          obtain ⟨cs', q'⟩ := H.out.e.cell_block e
          rw [q] at q'; cases q'
        · refine H.out.s.same fun j hj => ?_
          obtain ⟨cs, q⟩ := H.out.s.cell_block hj
          refine hk j (.inr ⟨(H.out.s.lt j hj).1, cs, _, q, .inr (.inr (.inr rfl))⟩) (hneB j _ _ (by decide) q) fun e => ?_
          obtain ⟨cs', q'⟩ := H.out.e.cell_block e
          rw [q] at q'; cases q'
      · rcases HAT.out with q | q
        · exact .inl (q ▸ e)
        · rw [q] at e
          cases e
          exact .inr (by simp)
      · refine ⟨HG3.out.os, HG3.out.tape, HG3.out.output, ?_, fun j hj hn => ?_⟩
        · have h9 := HG3.out.size
          simp [World.setCell] at h9 ⊢
          omega
        · refine (Below.heap_setCell _ _ _ _ (fun e => hn (.inl e))).trans ((HG3.out.block j (by simp; omega) (fun e => ?_)).trans (heap_alloc_old _ _ hj))
          exact hn (.inr e.symm)
theorem bookEntry (b base : Nat) (vE vC vR vS : Value) (LE LC LR LS : List Bk) (A : Option Addr) (n c : Nat) (hA : ∀ ad, A = some ad → ∃ g, ad = ⟨g, 0, none⟩) (hA0 : A = none → n = 0) (w : World) (h : BookC w b base vE vC vR vS LE LC LR LS) (hl : LE.length ≤ 900) (hbase : base ≤ w.heap.size) :
    Calls Try.prog 29 #[.pointer (some ⟨b, 0, none⟩), .slice A n c] w fun e w' => e = .returned (.tuple #[]) ∧ (∃ v', BookC w' b base v' vC vR vS (LE ++ bkOf (.slice A n c)) LC LR LS) ∧ Kept (BookS w b base) w w' :=
  (bookEntryP b base vE vC vR vS LE LC LR LS A n c hA hA0 w h hl hbase).mono fun e w' ⟨h1, ⟨v', h2, _⟩, h3⟩ => ⟨h1, ⟨v', h2⟩, h3.mono fun j _ q => by
    rcases q with q | q
    · exact .inl q
    · obtain ⟨cs, q'⟩ := h.e.cell_block q
      exact .inr ⟨(h.e.lt j q).1, cs, _, q', .inl rfl⟩⟩

set_option maxRecDepth 100000 in
set_option maxHeartbeats 1600000 in
theorem bookCellP (b base : Nat) (vE vC vR vS : Value) (LE LC LR LS : List Bk) (A : Option Addr) (n c : Nat) (hA : ∀ ad, A = some ad → ∃ g, ad = ⟨g, 0, none⟩) (hA0 : A = none → n = 0) (w : World) (h : BookC w b base vE vC vR vS LE LC LR LS) (hl : LC.length ≤ 900) (hbase : base ≤ w.heap.size) :
    Calls Try.prog 30 #[.pointer (some ⟨b, 0, none⟩), .slice A n c] w fun e w' => e = .returned (.tuple #[]) ∧ (∃ v', BookC w' b base vE v' vR vS LE (LC ++ bkOf (.slice A n c)) LR LS ∧ ∀ j, v'.ownBlock = some j → vC.ownBlock = some j ∨ w.heap.size ≤ j) ∧ Kept (fun j => j = b ∨ vC.ownBlock = some j) w w' := by
  cases n with
  | zero =>
    have e0 : bkOf (.slice A 0 c) = [] := by cases A <;> simp [bkOf]
    rw [e0]
    have H := Lib.hid h
    clear h e0
    go_enter Try.func30, Try.ntmps30
    go_wp2_with fail
    go_end0
    exact ⟨rfl, ⟨vC, by first | exact H.out | (rw [List.append_nil]; exact H.out), fun j e => .inl e⟩, Kept.refl _ _⟩
  | succ n =>
    cases A with
    | none => exact absurd (hA0 rfl) (by omega)
    | some ad =>
      obtain ⟨g, rfl⟩ := hA ad rfl
      have e0 : bkOf (.slice (some ⟨g, 0, none⟩) (n + 1) c) = [⟨g, n + 1, c⟩] := by simp [bkOf]
      rw [e0]
      have H := Lib.hid h
      have hm := h.c
      obtain ⟨Av, cv, hv, hcv⟩ := hm.form
      have hlen : (LC.map Bk.x).length = LC.length := List.length_map _
      rw [hlen] at hv hcv
      subst hv
      have g4 : w.cell? ⟨b, 4, none⟩ = some (.slice Av LC.length cv) := cell_of_row w b 4 _ _ _ h.at_
      have HM1 := Lib.hid (hm.alloc (.cells #[.slice (some ⟨g, 0, none⟩) (n + 1) c] 41))
      have HR1 := Lib.hid (rd_one encSlc w (Bk.x ⟨g, n + 1, c⟩) #[.slice (some ⟨g, 0, none⟩) (n + 1) c] rfl 41)
      have HLN := Lib.hid hlen
      obtain ⟨N, hN⟩ : ∃ N, N = n + 1 := ⟨_, rfl⟩
      have hN0 : 0 < N := by omega
      have hN1 : decide ((0:Int) < (N:Int)) = true := decide_eq_true (by omega)
      rw [← hN] at HM1 HR1 ⊢
      have HLT : Hid (b < w.heap.size) := h.lt
      clear h hm hlen e0 hA hA0 hN
      go_enter Try.func30, Try.ntmps30
      go_wp2_with (at_builtin; refine wpList_app (v := .slice Av LC.length cv) (xs := LC.map Bk.x) (ys := [Bk.x ⟨g, N, c⟩]) rowsCellB encSlc rfl (.tmp 11) (.tmp 13) rfl base rfl HM1.out rfl rfl HR1.out (by rw [HLN.out]; simp only [List.length_singleton]; omega) (by rw [HLN.out]; unfold maxLen; simp only [List.length_singleton]; omega) (by simp; omega) ?_; intro v3 w3 hm3 hg3 hat3; obtain ⟨A3, c3, hv3, hc3⟩ := hm3.form; rw [List.length_append, List.length_singleton, HLN.out] at hv3; subst hv3; have HM3 := Lib.hid hm3; have HG3 := Lib.hid hg3; have HAT := Lib.hid hat3; have hgb3 := (hg3.block b (by simp; have := HLT.out; omega) (fun e => by obtain ⟨cs, q⟩ := HM1.out.cell_block e.symm; rw [heap_alloc_old _ _ HLT.out, H.out.at_] at q; cases q)).trans ((heap_alloc_old _ _ HLT.out).trans H.out.at_); have f3 : w3.frozen? ⟨b, 4, none⟩ = false := frozen_of_row w3 b 4 _ _ hgb3; have g3 := cell_of_row w3 b 4 _ _ _ hgb3; have HGB3 := Lib.hid hgb3; clear hm3 hg3 hat3 hgb3)
      go_end0
      refine ⟨rfl, ⟨.slice A3 (LC.length + 1) c3, ?_, fun j e => ?_⟩, ?_⟩
      · have hk : ∀ j, BookS w b base j → j ≠ b → (Value.slice Av LC.length cv).ownBlock ≠ some j → (w3.setCell ⟨b, 4, none⟩ (.slice A3 (LC.length + 1) c3)).heap[j]? = w.heap[j]? := fun j q hb hne =>
          (Below.heap_setCell _ _ _ _ hb).trans ((HG3.out.block j (by simp; have := BookS.lt H.out q; omega) (fun e => hne e.symm)).trans (heap_alloc_old _ _ (BookS.lt H.out q)))
        have hneB : ∀ (j : Nat) (cs : Array Value) (t : TypeId), t ≠ 67 → w.heap[j]? = some (.cells cs t (0, 0)) → j ≠ b := fun j cs t ht q e => by
          subst e
          rw [H.out.at_] at q
          cases q
          exact ht rfl
        refine ⟨?_, ?_, ?_, ?_, ?_⟩
        · rw [heap_setCell_same _ _ _ _ _ _ HGB3.out]; rfl
        · refine H.out.e.same fun j hj => ?_
          obtain ⟨cs, q⟩ := H.out.e.cell_block hj
          refine hk j (.inr ⟨(H.out.e.lt j hj).1, cs, _, q, .inl rfl⟩) (hneB j _ _ (by decide) q) fun e => ?_
          obtain ⟨cs', q'⟩ := H.out.c.cell_block e
          rw [q] at q'; cases q'
        · rw [List.map_append]
          exact HM3.out.same fun j hj => Below.heap_setCell _ _ _ _ fun e => by
            obtain ⟨cs, q⟩ := HM3.out.cell_block hj
            rw [show j = b from e, HGB3.out] at q; cases q
        · refine H.out.r.same fun j hj => ?_
          obtain ⟨cs, q⟩ := H.out.r.cell_block hj
          refine hk j (.inr ⟨(H.out.r.lt j hj).1, cs, _, q, .inr (.inr (.inl rfl))⟩) (hneB j _ _ (by decide) q) fun e => ?_
          obtain ⟨cs', q'⟩ := H.out.c.cell_block e
          rw [q] at q'; cases q'
        · refine H.out.s.same fun j hj => ?_
          obtain ⟨cs, q⟩ := H.out.s.cell_block hj
          refine hk j (.inr ⟨(H.out.s.lt j hj).1, cs, _, q, .inr (.inr (.inr rfl))⟩) (hneB j _ _ (by decide) q) fun e => ?_
          obtain ⟨cs', q'⟩ := H.out.c.cell_block e
          rw [q] at q'; cases q'
      · rcases HAT.out with q | q
        · exact .inl (q ▸ e)
        · rw [q] at e
          cases e
          exact .inr (by simp)
      · refine ⟨HG3.out.os, HG3.out.tape, HG3.out.output, ?_, fun j hj hn => ?_⟩
        · have h9 := HG3.out.size
          simp [World.setCell] at h9 ⊢
          omega
        · refine (Below.heap_setCell _ _ _ _ (fun e => hn (.inl e))).trans ((HG3.out.block j (by simp; omega) (fun e => ?_)).trans (heap_alloc_old _ _ hj))
          exact hn (.inr e.symm)
theorem bookCell (b base : Nat) (vE vC vR vS : Value) (LE LC LR LS : List Bk) (A : Option Addr) (n c : Nat) (hA : ∀ ad, A = some ad → ∃ g, ad = ⟨g, 0, none⟩) (hA0 : A = none → n = 0) (w : World) (h : BookC w b base vE vC vR vS LE LC LR LS) (hl : LC.length ≤ 900) (hbase : base ≤ w.heap.size) :
    Calls Try.prog 30 #[.pointer (some ⟨b, 0, none⟩), .slice A n c] w fun e w' => e = .returned (.tuple #[]) ∧ (∃ v', BookC w' b base vE v' vR vS LE (LC ++ bkOf (.slice A n c)) LR LS) ∧ Kept (BookS w b base) w w' :=
  (bookCellP b base vE vC vR vS LE LC LR LS A n c hA hA0 w h hl hbase).mono fun e w' ⟨h1, ⟨v', h2, _⟩, h3⟩ => ⟨h1, ⟨v', h2⟩, h3.mono fun j _ q => by
    rcases q with q | q
    · exact .inl q
    · obtain ⟨cs, q'⟩ := h.c.cell_block q
      exact .inr ⟨(h.c.lt j q).1, cs, _, q', .inr (.inl rfl)⟩⟩

set_option maxRecDepth 100000 in
set_option maxHeartbeats 1600000 in
theorem bookRowP (b base : Nat) (vE vC vR vS : Value) (LE LC LR LS : List Bk) (A : Option Addr) (n c : Nat) (hA : ∀ ad, A = some ad → ∃ g, ad = ⟨g, 0, none⟩) (hA0 : A = none → n = 0) (w : World) (h : BookC w b base vE vC vR vS LE LC LR LS) (hl : LR.length ≤ 900) (hbase : base ≤ w.heap.size) :
    Calls Try.prog 45 #[.pointer (some ⟨b, 0, none⟩), .slice A n c] w fun e w' => e = .returned (.tuple #[]) ∧ (∃ v', BookC w' b base vE vC v' vS LE LC (LR ++ bkOf (.slice A n c)) LS ∧ ∀ j, v'.ownBlock = some j → vR.ownBlock = some j ∨ w.heap.size ≤ j) ∧ Kept (fun j => j = b ∨ vR.ownBlock = some j) w w' := by
  cases n with
  | zero =>
    have e0 : bkOf (.slice A 0 c) = [] := by cases A <;> simp [bkOf]
    rw [e0]
    have H := Lib.hid h
    clear h e0
    go_enter Try.func45, Try.ntmps45
    go_wp2_with fail
    go_end0
    exact ⟨rfl, ⟨vR, by first | exact H.out | (rw [List.append_nil]; exact H.out), fun j e => .inl e⟩, Kept.refl _ _⟩
  | succ n =>
    cases A with
    | none => exact absurd (hA0 rfl) (by omega)
    | some ad =>
      obtain ⟨g, rfl⟩ := hA ad rfl
      have e0 : bkOf (.slice (some ⟨g, 0, none⟩) (n + 1) c) = [⟨g, n + 1, c⟩] := by simp [bkOf]
      rw [e0]
      have H := Lib.hid h
      have hm := h.r
      obtain ⟨Av, cv, hv, hcv⟩ := hm.form
      have hlen : (LR.map Bk.x).length = LR.length := List.length_map _
      rw [hlen] at hv hcv
      subst hv
      have g4 : w.cell? ⟨b, 5, none⟩ = some (.slice Av LR.length cv) := cell_of_row w b 5 _ _ _ h.at_
      have HM1 := Lib.hid (hm.alloc (.cells #[.slice (some ⟨g, 0, none⟩) (n + 1) c] 76))
      have HR1 := Lib.hid (rd_one encSlc w (Bk.x ⟨g, n + 1, c⟩) #[.slice (some ⟨g, 0, none⟩) (n + 1) c] rfl 76)
      have HLN := Lib.hid hlen
      obtain ⟨N, hN⟩ : ∃ N, N = n + 1 := ⟨_, rfl⟩
      have hN0 : 0 < N := by omega
      have hN1 : decide ((0:Int) < (N:Int)) = true := decide_eq_true (by omega)
      rw [← hN] at HM1 HR1 ⊢
      have HLT : Hid (b < w.heap.size) := h.lt
      clear h hm hlen e0 hA hA0 hN
      go_enter Try.func45, Try.ntmps45
      go_wp2_with (at_builtin; refine wpList_app (v := .slice Av LR.length cv) (xs := LR.map Bk.x) (ys := [Bk.x ⟨g, N, c⟩]) rowsRowB encSlc rfl (.tmp 11) (.tmp 13) rfl base rfl HM1.out rfl rfl HR1.out (by rw [HLN.out]; simp only [List.length_singleton]; omega) (by rw [HLN.out]; unfold maxLen; simp only [List.length_singleton]; omega) (by simp; omega) ?_; intro v3 w3 hm3 hg3 hat3; obtain ⟨A3, c3, hv3, hc3⟩ := hm3.form; rw [List.length_append, List.length_singleton, HLN.out] at hv3; subst hv3; have HM3 := Lib.hid hm3; have HG3 := Lib.hid hg3; have HAT := Lib.hid hat3; have hgb3 := (hg3.block b (by simp; have := HLT.out; omega) (fun e => by obtain ⟨cs, q⟩ := HM1.out.cell_block e.symm; rw [heap_alloc_old _ _ HLT.out, H.out.at_] at q; cases q)).trans ((heap_alloc_old _ _ HLT.out).trans H.out.at_); have f3 : w3.frozen? ⟨b, 5, none⟩ = false := frozen_of_row w3 b 5 _ _ hgb3; have g3 := cell_of_row w3 b 5 _ _ _ hgb3; have HGB3 := Lib.hid hgb3; clear hm3 hg3 hat3 hgb3)
      go_end0
      refine ⟨rfl, ⟨.slice A3 (LR.length + 1) c3, ?_, fun j e => ?_⟩, ?_⟩
      · have hk : ∀ j, BookS w b base j → j ≠ b → (Value.slice Av LR.length cv).ownBlock ≠ some j → (w3.setCell ⟨b, 5, none⟩ (.slice A3 (LR.length + 1) c3)).heap[j]? = w.heap[j]? := fun j q hb hne =>
          (Below.heap_setCell _ _ _ _ hb).trans ((HG3.out.block j (by simp; have := BookS.lt H.out q; omega) (fun e => hne e.symm)).trans (heap_alloc_old _ _ (BookS.lt H.out q)))
        have hneB : ∀ (j : Nat) (cs : Array Value) (t : TypeId), t ≠ 67 → w.heap[j]? = some (.cells cs t (0, 0)) → j ≠ b := fun j cs t ht q e => by
          subst e
          rw [H.out.at_] at q
          cases q
          exact ht rfl
        refine ⟨?_, ?_, ?_, ?_, ?_⟩
        · rw [heap_setCell_same _ _ _ _ _ _ HGB3.out]; rfl
        · refine H.out.e.same fun j hj => ?_
          obtain ⟨cs, q⟩ := H.out.e.cell_block hj
          refine hk j (.inr ⟨(H.out.e.lt j hj).1, cs, _, q, .inl rfl⟩) (hneB j _ _ (by decide) q) fun e => ?_
          obtain ⟨cs', q'⟩ := H.out.r.cell_block e
          rw [q] at q'; cases q'
        · refine H.out.c.same fun j hj => ?_
          obtain ⟨cs, q⟩ := H.out.c.cell_block hj
          refine hk j (.inr ⟨(H.out.c.lt j hj).1, cs, _, q, .inr (.inl rfl)⟩) (hneB j _ _ (by decide) q) fun e => ?_
          obtain ⟨cs', q'⟩ := H.out.r.cell_block e
          rw [q] at q'; cases q'
        · rw [List.map_append]
          exact HM3.out.same fun j hj => Below.heap_setCell _ _ _ _ fun e => by
            obtain ⟨cs, q⟩ := HM3.out.cell_block hj
            rw [show j = b from e, HGB3.out] at q; cases q
        · refine H.out.s.same fun j hj => ?_
          obtain ⟨cs, q⟩ := H.out.s.cell_block hj
          refine hk j (.inr ⟨(H.out.s.lt j hj).1, cs, _, q, .inr (.inr (.inr rfl))⟩) (hneB j _ _ (by decide) q) fun e => ?_
          obtain ⟨cs', q'⟩ := H.out.r.cell_block e
          rw [q] at q'; cases q'
      · rcases HAT.out with q | q
        · exact .inl (q ▸ e)
        · rw [q] at e
          cases e
          exact .inr (by simp)
      · refine ⟨HG3.out.os, HG3.out.tape, HG3.out.output, ?_, fun j hj hn => ?_⟩
        · have h9 := HG3.out.size
          simp [World.setCell] at h9 ⊢
          omega
        · refine (Below.heap_setCell _ _ _ _ (fun e => hn (.inl e))).trans ((HG3.out.block j (by simp; omega) (fun e => ?_)).trans (heap_alloc_old _ _ hj))
          exact hn (.inr e.symm)
theorem bookRow (b base : Nat) (vE vC vR vS : Value) (LE LC LR LS : List Bk) (A : Option Addr) (n c : Nat) (hA : ∀ ad, A = some ad → ∃ g, ad = ⟨g, 0, none⟩) (hA0 : A = none → n = 0) (w : World) (h : BookC w b base vE vC vR vS LE LC LR LS) (hl : LR.length ≤ 900) (hbase : base ≤ w.heap.size) :
    Calls Try.prog 45 #[.pointer (some ⟨b, 0, none⟩), .slice A n c] w fun e w' => e = .returned (.tuple #[]) ∧ (∃ v', BookC w' b base vE vC v' vS LE LC (LR ++ bkOf (.slice A n c)) LS) ∧ Kept (BookS w b base) w w' :=
  (bookRowP b base vE vC vR vS LE LC LR LS A n c hA hA0 w h hl hbase).mono fun e w' ⟨h1, ⟨v', h2, _⟩, h3⟩ => ⟨h1, ⟨v', h2⟩, h3.mono fun j _ q => by
    rcases q with q | q
    · exact .inl q
    · obtain ⟨cs, q'⟩ := h.r.cell_block q
      exact .inr ⟨(h.r.lt j q).1, cs, _, q', .inr (.inr (.inl rfl))⟩⟩

set_option maxRecDepth 100000 in
set_option maxHeartbeats 1600000 in
theorem bookResP (b base : Nat) (vE vC vR vS : Value) (LE LC LR LS : List Bk) (A : Option Addr) (n c : Nat) (hA : ∀ ad, A = some ad → ∃ g, ad = ⟨g, 0, none⟩) (hA0 : A = none → n = 0) (w : World) (h : BookC w b base vE vC vR vS LE LC LR LS) (hl : LS.length ≤ 900) (hbase : base ≤ w.heap.size) :
    Calls Try.prog 31 #[.pointer (some ⟨b, 0, none⟩), .slice A n c] w fun e w' => e = .returned (.tuple #[]) ∧ (∃ v', BookC w' b base vE vC vR v' LE LC LR (LS ++ bkOf (.slice A n c)) ∧ ∀ j, v'.ownBlock = some j → vS.ownBlock = some j ∨ w.heap.size ≤ j) ∧ Kept (fun j => j = b ∨ vS.ownBlock = some j) w w' := by
  cases n with
  | zero =>
    have e0 : bkOf (.slice A 0 c) = [] := by cases A <;> simp [bkOf]
    rw [e0]
    have H := Lib.hid h
    clear h e0
    go_enter Try.func31, Try.ntmps31
    go_wp2_with fail
    go_end0
    exact ⟨rfl, ⟨vS, by first | exact H.out | (rw [List.append_nil]; exact H.out), fun j e => .inl e⟩, Kept.refl _ _⟩
  | succ n =>
    cases A with
    | none => exact absurd (hA0 rfl) (by omega)
    | some ad =>
      obtain ⟨g, rfl⟩ := hA ad rfl
      have e0 : bkOf (.slice (some ⟨g, 0, none⟩) (n + 1) c) = [⟨g, n + 1, c⟩] := by simp [bkOf]
      rw [e0]
      have H := Lib.hid h
      have hm := h.s
      obtain ⟨Av, cv, hv, hcv⟩ := hm.form
      have hlen : (LS.map Bk.x).length = LS.length := List.length_map _
      rw [hlen] at hv hcv
      subst hv
      have g4 : w.cell? ⟨b, 6, none⟩ = some (.slice Av LS.length cv) := cell_of_row w b 6 _ _ _ h.at_
      have HM1 := Lib.hid (hm.alloc (.cells #[.slice (some ⟨g, 0, none⟩) (n + 1) c] 42))
      have HR1 := Lib.hid (rd_one encSlc w (Bk.x ⟨g, n + 1, c⟩) #[.slice (some ⟨g, 0, none⟩) (n + 1) c] rfl 42)
      have HLN := Lib.hid hlen
      obtain ⟨N, hN⟩ : ∃ N, N = n + 1 := ⟨_, rfl⟩
      have hN0 : 0 < N := by omega
      have hN1 : decide ((0:Int) < (N:Int)) = true := decide_eq_true (by omega)
      rw [← hN] at HM1 HR1 ⊢
      have HLT : Hid (b < w.heap.size) := h.lt
      clear h hm hlen e0 hA hA0 hN
      go_enter Try.func31, Try.ntmps31
      go_wp2_with (at_builtin; refine wpList_app (v := .slice Av LS.length cv) (xs := LS.map Bk.x) (ys := [Bk.x ⟨g, N, c⟩]) rowsResB encSlc rfl (.tmp 11) (.tmp 13) rfl base rfl HM1.out rfl rfl HR1.out (by rw [HLN.out]; simp only [List.length_singleton]; omega) (by rw [HLN.out]; unfold maxLen; simp only [List.length_singleton]; omega) (by simp; omega) ?_; intro v3 w3 hm3 hg3 hat3; obtain ⟨A3, c3, hv3, hc3⟩ := hm3.form; rw [List.length_append, List.length_singleton, HLN.out] at hv3; subst hv3; have HM3 := Lib.hid hm3; have HG3 := Lib.hid hg3; have HAT := Lib.hid hat3; have hgb3 := (hg3.block b (by simp; have := HLT.out; omega) (fun e => by obtain ⟨cs, q⟩ := HM1.out.cell_block e.symm; rw [heap_alloc_old _ _ HLT.out, H.out.at_] at q; cases q)).trans ((heap_alloc_old _ _ HLT.out).trans H.out.at_); have f3 : w3.frozen? ⟨b, 6, none⟩ = false := frozen_of_row w3 b 6 _ _ hgb3; have g3 := cell_of_row w3 b 6 _ _ _ hgb3; have HGB3 := Lib.hid hgb3; clear hm3 hg3 hat3 hgb3)
      go_end0
      refine ⟨rfl, ⟨.slice A3 (LS.length + 1) c3, ?_, fun j e => ?_⟩, ?_⟩
      · have hk : ∀ j, BookS w b base j → j ≠ b → (Value.slice Av LS.length cv).ownBlock ≠ some j → (w3.setCell ⟨b, 6, none⟩ (.slice A3 (LS.length + 1) c3)).heap[j]? = w.heap[j]? := fun j q hb hne =>
          (Below.heap_setCell _ _ _ _ hb).trans ((HG3.out.block j (by simp; have := BookS.lt H.out q; omega) (fun e => hne e.symm)).trans (heap_alloc_old _ _ (BookS.lt H.out q)))
        have hneB : ∀ (j : Nat) (cs : Array Value) (t : TypeId), t ≠ 67 → w.heap[j]? = some (.cells cs t (0, 0)) → j ≠ b := fun j cs t ht q e => by
          subst e
          rw [H.out.at_] at q
          cases q
          exact ht rfl
        refine ⟨?_, ?_, ?_, ?_, ?_⟩
        · rw [heap_setCell_same _ _ _ _ _ _ HGB3.out]; rfl
        · refine H.out.e.same fun j hj => ?_
          obtain ⟨cs, q⟩ := H.out.e.cell_block hj
          refine hk j (.inr ⟨(H.out.e.lt j hj).1, cs, _, q, .inl rfl⟩) (hneB j _ _ (by decide) q) fun e => ?_
          obtain ⟨cs', q'⟩ := H.out.s.cell_block e
          rw [q] at q'; cases q'
        · refine H.out.c.same fun j hj => ?_
          obtain ⟨cs, q⟩ := H.out.c.cell_block hj
          refine hk j (.inr ⟨(H.out.c.lt j hj).1, cs, _, q, .inr (.inl rfl)⟩) (hneB j _ _ (by decide) q) fun e => ?_
          obtain ⟨cs', q'⟩ := H.out.s.cell_block e
          rw [q] at q'; cases q'
        · refine H.out.r.same fun j hj => ?_
          obtain ⟨cs, q⟩ := H.out.r.cell_block hj
          refine hk j (.inr ⟨(H.out.r.lt j hj).1, cs, _, q, .inr (.inr (.inl rfl))⟩) (hneB j _ _ (by decide) q) fun e => ?_
          obtain ⟨cs', q'⟩ := H.out.s.cell_block e
          rw [q] at q'; cases q'
        · rw [List.map_append]
          exact HM3.out.same fun j hj => Below.heap_setCell _ _ _ _ fun e => by
            obtain ⟨cs, q⟩ := HM3.out.cell_block hj
            rw [show j = b from e, HGB3.out] at q; cases q
      · rcases HAT.out with q | q
        · exact .inl (q ▸ e)
        · rw [q] at e
          cases e
          exact .inr (by simp)
      · refine ⟨HG3.out.os, HG3.out.tape, HG3.out.output, ?_, fun j hj hn => ?_⟩
        · have h9 := HG3.out.size
          simp [World.setCell] at h9 ⊢
          omega
        · refine (Below.heap_setCell _ _ _ _ (fun e => hn (.inl e))).trans ((HG3.out.block j (by simp; omega) (fun e => ?_)).trans (heap_alloc_old _ _ hj))
          exact hn (.inr e.symm)
theorem bookRes (b base : Nat) (vE vC vR vS : Value) (LE LC LR LS : List Bk) (A : Option Addr) (n c : Nat) (hA : ∀ ad, A = some ad → ∃ g, ad = ⟨g, 0, none⟩) (hA0 : A = none → n = 0) (w : World) (h : BookC w b base vE vC vR vS LE LC LR LS) (hl : LS.length ≤ 900) (hbase : base ≤ w.heap.size) :
    Calls Try.prog 31 #[.pointer (some ⟨b, 0, none⟩), .slice A n c] w fun e w' => e = .returned (.tuple #[]) ∧ (∃ v', BookC w' b base vE vC vR v' LE LC LR (LS ++ bkOf (.slice A n c))) ∧ Kept (BookS w b base) w w' :=
  (bookResP b base vE vC vR vS LE LC LR LS A n c hA hA0 w h hl hbase).mono fun e w' ⟨h1, ⟨v', h2, _⟩, h3⟩ => ⟨h1, ⟨v', h2⟩, h3.mono fun j _ q => by
    rcases q with q | q
    · exact .inl q
    · obtain ⟨cs, q'⟩ := h.s.cell_block q
      exact .inr ⟨(h.s.lt j q).1, cs, _, q', .inr (.inr (.inr rfl))⟩⟩
end Go.Proofs.Ytnfilklgogaheaa

namespace Go.Proofs.Ytnfilklgogaheaa
open Go.RowKit
set_option linter.unusedVariables false
set_option linter.unusedSimpArgs false

section
variable {α : Type} {enc : α → List Value} {k : Nat} {e : TypeId} {base : Nat} {w w' : World}
/-- Values that calls handed out: each in memory of its own, no two in one block. -/
structure Outs (enc : α → List Value) (k : Nat) (e : TypeId) (base : Nat) (w : World) (V : List (Value × List α)) : Prop where
  made : ∀ p ∈ V, Made enc k e base w p.1 p.2
  apart : V.Pairwise (fun p q => ∀ j, p.1.ownBlock = some j → q.1.ownBlock ≠ some j)
theorem Outs.nil : Outs enc k e base w [] := ⟨fun p h => by simp at h, List.Pairwise.nil⟩
theorem Outs.keep {V : List (Value × List α)} (h : Outs enc k e base w V) (hk : ∀ j, j < w.heap.size → base ≤ j → (∃ cs, w.heap[j]? = some (.cells cs e (0, 0))) → w'.heap[j]? = w.heap[j]?) : Outs enc k e base w' V :=
  ⟨fun p hp => (h.made p hp).same fun j hj => hk j ((h.made p hp).lt j hj).2 ((h.made p hp).lt j hj).1 ((h.made p hp).cell_block hj), h.apart⟩
theorem Outs.below {V : List (Value × List α)} (h : Outs enc k e base w V) (hb : Below w.heap.size w w') : Outs enc k e base w' V := h.keep fun j hj _ _ => hb.block j hj
theorem Outs.add {V : List (Value × List α)} (h : Outs enc k e base w V) (hb : Below w.heap.size w w') (hbase : base ≤ w.heap.size) {v : Value} {xs : List α} (hm : Made enc k e w.heap.size w' v xs) : Outs enc k e base w' (V ++ [(v, xs)]) := by
  refine ⟨fun p hp => ?_, List.pairwise_append.2 ⟨h.apart, by simp, fun p hp q hq j hj => ?_⟩⟩
  · rcases List.mem_append.1 hp with hp | hp
    · exact (h.below hb).made p hp
    · rw [List.mem_singleton.1 hp]; exact hm.base' hbase
  · rw [List.mem_singleton.1 hq]
    intro e
    have h1 := ((h.made p hp).lt j hj).2
    have h2 := (hm.lt j e).1
    omega
/-- As the book has them. -/
theorem Outs.lists {V : List (Value × List α)} (h : Outs enc k e base w V) : Lists enc k e base w (V.flatMap fun p => bkOf p.1) := by
  have key : ∀ p ∈ V, ∀ b ∈ bkOf p.1, p.1 = b.v ∧ b.n = p.2.length := fun p hp b hb => by
    have hm := h.made p hp
    obtain ⟨v, xs⟩ := p
    rcases hm.2 with ⟨hv, hn⟩ | ⟨g, cap, cur, hv, _⟩
    · simp only at hv; subst hv; simp [bkOf] at hb
    · simp only at hv; subst hv
      unfold bkOf at hb
      by_cases h0 : xs.length = 0
      · simp [h0] at hb
      · simp only [if_neg h0, List.mem_singleton] at hb
        subst hb
        exact ⟨rfl, rfl⟩
  constructor
  · intro b hb
    obtain ⟨p, hp, hb⟩ := List.mem_flatMap.1 hb
    obtain ⟨h1, h2⟩ := key p hp b hb
    refine ⟨p.2, h2.symm, ?_⟩
    rw [← h1]
    exact h.made p hp
  · have hap := h.apart
    clear h
    induction V with
    | nil => simp
    | cons p V ih =>
      rw [List.flatMap_cons, List.pairwise_append]
      obtain ⟨h1, h2⟩ := List.pairwise_cons.1 hap
      refine ⟨?_, ih (fun p hp => key p (by simp [hp])) h2, fun a ha b hb => ?_⟩
      · have hl : (bkOf p.1).length ≤ 1 := by unfold bkOf; split <;> (try split) <;> simp
        match hq : bkOf p.1, hl with
        | [], _ => simp
        | [x], _ => simp
      · obtain ⟨q, hq, hb⟩ := List.mem_flatMap.1 hb
        have ka := (key p (by simp) a ha).1
        have kb := (key q (by simp [hq]) b hb).1
        intro e
        refine h1 q hq a.g (by rw [ka]; rfl) ?_
        rw [kb, e]; rfl
theorem Outs.lens {V : List (Value × List α)} (h : Outs enc k e base w V) {m : Nat} (hm : ∀ p ∈ V, p.2.length ≤ m) : ∀ b ∈ (V.flatMap fun p => bkOf p.1), b.n ≤ m := fun b hb => by
  obtain ⟨p, hp, hb⟩ := List.mem_flatMap.1 hb
  have hmd := h.made p hp
  have hl := hm p hp
  obtain ⟨v, xs⟩ := p
  rcases hmd.2 with ⟨hv, hn⟩ | ⟨g, cap, cur, hv, _⟩
  · simp only at hv; subst hv; simp [bkOf] at hb
  · simp only at hv; subst hv
    unfold bkOf at hb
    by_cases h0 : xs.length = 0
    · simp [h0] at hb
    · simp only [if_neg h0, List.mem_singleton] at hb
      subst hb
      exact hl
theorem bkOf_le (v : Value) : (bkOf v).length ≤ 1 := by unfold bkOf; split <;> (try split) <;> simp
theorem outs_length (V : List (Value × List α)) : (V.flatMap fun p => bkOf p.1).length ≤ V.length := by
  induction V with
  | nil => simp
  | cons p V ih => rw [List.flatMap_cons, List.length_append]; have := bkOf_le p.1; simp only [List.length_cons]; omega
theorem Made.addr {A : Option Addr} {n c : Nat} {xs : List α} (h : Made enc k e base w (.slice A n c) xs) : (∀ ad, A = some ad → ∃ g, ad = ⟨g, 0, none⟩) ∧ (A = none → n = 0) := by
  rcases h.2 with ⟨hv, hn⟩ | ⟨g, cap, cur, hv, _⟩
  · injection hv with h1 h2 h3
    subst h1 h2
    exact ⟨fun ad e => (by cases e), fun _ => rfl⟩
  · injection hv with h1 h2 h3
    subst h1
    exact ⟨fun ad e => (by cases e; exact ⟨g, rfl⟩), fun e => (by cases e)⟩
end

theorem keptB {S : Nat → Prop} {B : Nat} {w w1 w2 : World} (h : Below B w w1) (k : Kept S w1 w2) (hs : ∀ j, S j → B ≤ j) (hB : B ≤ w.heap.size) : Below B w w2 :=
  ⟨k.os.trans h.os, k.tape.trans h.tape, k.output.trans h.output, Nat.le_trans h.size k.size, fun j hj => (k.block j (by have := h.size; omega) (fun q => by have := hs j q; omega)).trans (h.block j hj)⟩
section
variable {w W W' : World} {bk : Nat} {vC vS : Value} {LC LS : List Bk}
theorem Outs.sub {α : Type} {enc : α → List Value} {k : Nat} {e : TypeId} {base : Nat} {V V' : List (Value × List α)} (h : Outs enc k e base w V) (hs : V'.Sublist V) : Outs enc k e base w V' := ⟨fun p hp => h.made p (hs.mem hp), h.apart.sublist hs⟩
theorem Lists.other {α : Type} {enc : α → List Value} {k : Nat} {e e' : TypeId} {base : Nat} {S : Nat → Prop} {L : List Bk} (h : Lists enc k e base w L) (hk : Kept S w W') (hS : ∀ j, S j → ∃ cs, w.heap[j]? = some (.cells cs e' (0, 0))) (hne : e ≠ e') : Lists enc k e base W' L := by
  refine ⟨fun l hl => ?_, h.apart⟩
  obtain ⟨xs, h1, h2⟩ := h.made l hl
  refine ⟨xs, h1, h2.same fun j hj => hk.block j (h2.lt j hj).2 fun q => ?_⟩
  obtain ⟨cs, q1⟩ := hS j q
  obtain ⟨cs', q2⟩ := h2.cell_block hj
  rw [q1] at q2; cases q2; exact hne rfl
theorem Lists.types {α : Type} {enc : α → List Value} {k : Nat} {e : TypeId} {base : Nat} {L : List Bk} (h : Lists enc k e base w L) : ∀ j, (∃ l ∈ L, j = l.g) → ∃ cs, w.heap[j]? = some (.cells cs e (0, 0)) := fun j ⟨l, hl, e⟩ => by
  obtain ⟨xs, _, h2⟩ := h.made l hl
  subst e
  exact h2.cell_block rfl
theorem BookC.other {base : Nat} {vE vR : Value} {LE LR : List Bk} {S : Nat → Prop} (h : BookC w bk base vE vC vR vS LE LC LR LS) (hk : Kept S w W') (hS : ∀ j, S j → ∃ cs t, w.heap[j]? = some (.cells cs t (0, 0)) ∧ (t ≠ 67 ∧ t ≠ 22 ∧ t ≠ 41 ∧ t ≠ 76 ∧ t ≠ 42)) : BookC W' bk base vE vC vR vS LE LC LR LS :=
  h.keep fun j q => hk.block j (BookS.lt h q) fun q' => by
    obtain ⟨cs, t, q2, q3⟩ := hS j q'
    exact BookS.ne q (fun e => by subst e; rw [h.at_] at q2; cases q2; exact q3.1 rfl) q2 q3.2
end
end Go.Proofs.Ytnfilklgogaheaa

namespace Go.Proofs.Ytnfilklgogaheaa
open Go.RowKit
set_option linter.unusedVariables false
set_option linter.unusedSimpArgs false

set_option maxRecDepth 100000 in
theorem noneBytes (b : Nat) (w : World) (hc : w.cell? ⟨b, 0, none⟩ = some (.slice none 0 0)) :
    Calls Try.prog 59 #[.pointer (some ⟨b, 0, none⟩)] w fun e w' => e = .returned (.bool true) ∧ w' = w := by
  go_enter Try.func59, Try.ntmps59
  go_wp2_with fail
  refine wp_loop_rounds 1 ?_
  rw [rounds_succ]
  go_wp2_with fail
  refine wp_loop_rounds 1 ?_
  rw [rounds_succ]
  go_wp2_with fail
  refine wp_loop_rounds 1 ?_
  rw [rounds_succ]
  go_wp2_with fail
  go_ret
  exact ⟨rfl, rfl⟩
set_option maxRecDepth 100000 in
theorem noneInts (b : Nat) (w : World) (hc : w.cell? ⟨b, 1, none⟩ = some (.slice none 0 0)) :
    Calls Try.prog 60 #[.pointer (some ⟨b, 0, none⟩)] w fun e w' => e = .returned (.bool true) ∧ w' = w := by
  go_enter Try.func60, Try.ntmps60
  go_wp2_with fail
  refine wp_loop_rounds 1 ?_
  rw [rounds_succ]
  go_wp2_with fail
  refine wp_loop_rounds 1 ?_
  rw [rounds_succ]
  go_wp2_with fail
  refine wp_loop_rounds 1 ?_
  rw [rounds_succ]
  go_wp2_with fail
  go_ret
  exact ⟨rfl, rfl⟩
set_option maxRecDepth 100000 in
theorem noneVector (b : Nat) (w : World) (hc : w.cell? ⟨b, 2, none⟩ = some (.slice none 0 0)) :
    Calls Try.prog 61 #[.pointer (some ⟨b, 0, none⟩)] w fun e w' => e = .returned (.bool true) ∧ w' = w := by
  go_enter Try.func61, Try.ntmps61
  go_wp2_with fail
  refine wp_loop_rounds 1 ?_
  rw [rounds_succ]
  go_wp2_with fail
  refine wp_loop_rounds 1 ?_
  rw [rounds_succ]
  go_wp2_with fail
  refine wp_loop_rounds 1 ?_
  rw [rounds_succ]
  go_wp2_with fail
  go_ret
  exact ⟨rfl, rfl⟩
set_option maxRecDepth 100000 in
theorem noneEntries (b : Nat) (w : World) (hc : w.cell? ⟨b, 3, none⟩ = some (.slice none 0 0)) :
    Calls Try.prog 62 #[.pointer (some ⟨b, 0, none⟩)] w fun e w' => e = .returned (.bool true) ∧ w' = w := by
  go_enter Try.func62, Try.ntmps62
  go_wp2_with fail
  refine wp_loop_rounds 1 ?_
  rw [rounds_succ]
  go_wp2_with fail
  refine wp_loop_rounds 1 ?_
  rw [rounds_succ]
  go_wp2_with fail
  refine wp_loop_rounds 1 ?_
  rw [rounds_succ]
  go_wp2_with fail
  go_ret
  exact ⟨rfl, rfl⟩
set_option maxRecDepth 100000 in
theorem noneCells (b : Nat) (w : World) (hc : w.cell? ⟨b, 4, none⟩ = some (.slice none 0 0)) :
    Calls Try.prog 63 #[.pointer (some ⟨b, 0, none⟩)] w fun e w' => e = .returned (.bool true) ∧ w' = w := by
  go_enter Try.func63, Try.ntmps63
  go_wp2_with fail
  refine wp_loop_rounds 1 ?_
  rw [rounds_succ]
  go_wp2_with fail
  refine wp_loop_rounds 1 ?_
  rw [rounds_succ]
  go_wp2_with fail
  refine wp_loop_rounds 1 ?_
  rw [rounds_succ]
  go_wp2_with fail
  go_ret
  exact ⟨rfl, rfl⟩
set_option maxRecDepth 100000 in
theorem noneRows (b : Nat) (w : World) (hc : w.cell? ⟨b, 5, none⟩ = some (.slice none 0 0)) :
    Calls Try.prog 64 #[.pointer (some ⟨b, 0, none⟩)] w fun e w' => e = .returned (.bool true) ∧ w' = w := by
  go_enter Try.func64, Try.ntmps64
  go_wp2_with fail
  refine wp_loop_rounds 1 ?_
  rw [rounds_succ]
  go_wp2_with fail
  refine wp_loop_rounds 1 ?_
  rw [rounds_succ]
  go_wp2_with fail
  refine wp_loop_rounds 1 ?_
  rw [rounds_succ]
  go_wp2_with fail
  go_ret
  exact ⟨rfl, rfl⟩
set_option maxRecDepth 100000 in
theorem noneResults (b : Nat) (w : World) (hc : w.cell? ⟨b, 6, none⟩ = some (.slice none 0 0)) :
    Calls Try.prog 65 #[.pointer (some ⟨b, 0, none⟩)] w fun e w' => e = .returned (.bool true) ∧ w' = w := by
  go_enter Try.func65, Try.ntmps65
  go_wp2_with fail
  refine wp_loop_rounds 1 ?_
  rw [rounds_succ]
  go_wp2_with fail
  refine wp_loop_rounds 1 ?_
  rw [rounds_succ]
  go_wp2_with fail
  refine wp_loop_rounds 1 ?_
  rw [rounds_succ]
  go_wp2_with fail
  go_ret
  exact ⟨rfl, rfl⟩
set_option maxRecDepth 100000 in
theorem noneStamps (b : Nat) (w : World) (hc : w.cell? ⟨b, 7, none⟩ = some (.slice none 0 0)) :
    Calls Try.prog 66 #[.pointer (some ⟨b, 0, none⟩)] w fun e w' => e = .returned (.bool true) ∧ w' = w := by
  go_enter Try.func66, Try.ntmps66
  go_wp2_with fail
  refine wp_loop_rounds 1 ?_
  rw [rounds_succ]
  go_wp2_with fail
  refine wp_loop_rounds 1 ?_
  rw [rounds_succ]
  go_wp2_with fail
  refine wp_loop_rounds 1 ?_
  rw [rounds_succ]
  go_wp2_with fail
  go_ret
  exact ⟨rfl, rfl⟩
set_option maxRecDepth 100000 in
theorem noneAcks (b : Nat) (w : World) (hc : w.cell? ⟨b, 8, none⟩ = some (.slice none 0 0)) :
    Calls Try.prog 67 #[.pointer (some ⟨b, 0, none⟩)] w fun e w' => e = .returned (.bool true) ∧ w' = w := by
  go_enter Try.func67, Try.ntmps67
  go_wp2_with fail
  refine wp_loop_rounds 1 ?_
  rw [rounds_succ]
  go_wp2_with fail
  refine wp_loop_rounds 1 ?_
  rw [rounds_succ]
  go_wp2_with fail
  refine wp_loop_rounds 1 ?_
  rw [rounds_succ]
  go_wp2_with fail
  go_ret
  exact ⟨rfl, rfl⟩
set_option maxRecDepth 100000 in
theorem noneMarks (b : Nat) (w : World) (hc : w.cell? ⟨b, 9, none⟩ = some (.slice none 0 0)) :
    Calls Try.prog 68 #[.pointer (some ⟨b, 0, none⟩)] w fun e w' => e = .returned (.bool true) ∧ w' = w := by
  go_enter Try.func68, Try.ntmps68
  go_wp2_with fail
  refine wp_loop_rounds 1 ?_
  rw [rounds_succ]
  go_wp2_with fail
  refine wp_loop_rounds 1 ?_
  rw [rounds_succ]
  go_wp2_with fail
  refine wp_loop_rounds 1 ?_
  rw [rounds_succ]
  go_wp2_with fail
  go_ret
  exact ⟨rfl, rfl⟩
set_option maxRecDepth 100000 in
set_option maxHeartbeats 1600000 in
theorem apartAll (b : Nat) (J0 J1 J2 J3 J4 : World → Prop) (S : Nat → Prop) (hJ : ∀ W, J0 W ∨ J4 W → ∀ f, f < 3 ∨ 6 < f ∧ f < 10 → W.cell? ⟨b, f, none⟩ = some (.slice none 0 0))
    (HE : ∀ W, J0 W → Calls Try.prog 62 #[.pointer (some ⟨b, 0, none⟩)] W fun e w' => e = .returned (.bool true) ∧ J1 w' ∧ Kept S W w')
    (HC : ∀ W, J1 W → Calls Try.prog 63 #[.pointer (some ⟨b, 0, none⟩)] W fun e w' => e = .returned (.bool true) ∧ J2 w' ∧ Kept S W w')
    (HR : ∀ W, J2 W → Calls Try.prog 64 #[.pointer (some ⟨b, 0, none⟩)] W fun e w' => e = .returned (.bool true) ∧ J3 w' ∧ Kept S W w')
    (HS : ∀ W, J3 W → Calls Try.prog 65 #[.pointer (some ⟨b, 0, none⟩)] W fun e w' => e = .returned (.bool true) ∧ J4 w' ∧ Kept S W w')
    (w : World) (h : J0 w) :
    Calls Try.prog 32 #[.pointer (some ⟨b, 0, none⟩)] w fun e w' => e = .returned (.bool true) ∧ J4 w' ∧ Kept S w w' := by
  have H0 := Lib.hid hJ
  have H1 := Lib.hid HE
  have H2 := Lib.hid HC
  have H3 := Lib.hid HR
  have H4 := Lib.hid HS
  have HJ := Lib.hid h
  clear hJ HE HC HR HS h
  go_enter Try.func32, Try.ntmps32
  go_wp2_with (first
    | (go_at_call 59; refine (noneBytes b _ (H0.out _ (.inl HJ.out) 0 (by omega))).mono ?_; rintro e w' ⟨rfl, hw'⟩; rw [hw']; clear hw' w')
    | (go_at_call 60; refine (noneInts b _ (H0.out _ (.inl HJ.out) 1 (by omega))).mono ?_; rintro e w' ⟨rfl, hw'⟩; rw [hw']; clear hw' w')
    | (go_at_call 61; refine (noneVector b _ (H0.out _ (.inl HJ.out) 2 (by omega))).mono ?_; rintro e w' ⟨rfl, hw'⟩; rw [hw']; clear hw' w')
    | (go_at_call 62; refine (H1.out _ HJ.out).mono ?_; rintro e w1 ⟨rfl, hj1, hk1⟩; have HJ1 := Lib.hid hj1; have HK1 := Lib.hid hk1; clear hj1 hk1)
    | (go_at_call 63; refine (H2.out _ HJ1.out).mono ?_; rintro e w2 ⟨rfl, hj2, hk2⟩; have HJ2 := Lib.hid hj2; have HK2 := Lib.hid (HK1.out.trans hk2); clear hj2 hk2)
    | (go_at_call 64; refine (H3.out _ HJ2.out).mono ?_; rintro e w3 ⟨rfl, hj3, hk3⟩; have HJ3 := Lib.hid hj3; have HK3 := Lib.hid (HK2.out.trans hk3); clear hj3 hk3)
    | (go_at_call 65; refine (H4.out _ HJ3.out).mono ?_; rintro e w4 ⟨rfl, hj4, hk4⟩; have HJ4 := Lib.hid hj4; have HK4 := Lib.hid (HK3.out.trans hk4); clear hj4 hk4)
    | (go_at_call 66; refine (noneStamps b _ (H0.out _ (.inr HJ4.out) 7 (by omega))).mono ?_; rintro e w' ⟨rfl, hw'⟩; rw [hw']; clear hw' w')
    | (go_at_call 67; refine (noneAcks b _ (H0.out _ (.inr HJ4.out) 8 (by omega))).mono ?_; rintro e w' ⟨rfl, hw'⟩; rw [hw']; clear hw' w')
    | (go_at_call 68; refine (noneMarks b _ (H0.out _ (.inr HJ4.out) 9 (by omega))).mono ?_; rintro e w' ⟨rfl, hw'⟩; rw [hw']; clear hw' w'))
  go_ret
  exact ⟨rfl, HJ4.out, HK4.out⟩
end Go.Proofs.Ytnfilklgogaheaa

namespace Go.Proofs.Ytnfilklgogaheaa
open Go.RowKit
set_option linter.unusedVariables false
set_option linter.unusedSimpArgs false

theorem flat_spoil (zs : List Entry) (k : Nat) (h : k < zs.length) (c : Int) (o : Op) :
    ((((flat Entry.cells zs).set (k * 5 + 2) (.int .i64 o.kind)).set (k * 5 + 3) (.int .i64 o.slot)).set (k * 5 + 4) (.string o.value)).set (k * 5) (.int .i64 c) = flat Entry.cells (zs.set k ⟨c, zs[k].number, o⟩) := by
  have hl := flat_length encEntry.len zs
  have hm : k * 5 + 5 ≤ zs.length * 5 := by rw [← Nat.succ_mul]; exact Nat.mul_le_mul_right _ h
  have h1 : (flat Entry.cells zs)[k * 5 + 1]? = some (.int .i64 zs[k].number) := flat_get encEntry.len zs k 1 _ _ (List.getElem?_eq_getElem h) rfl
  rw [flat_set encEntry.len (by omega) zs k h]
  apply List.ext_getElem?
  intro m
  rw [setMany_get _ _ _ _ (by rw [hl]; exact hm)]
  simp only [List.getElem?_set, List.length_set, hl, Entry.cells, List.length_cons, List.length_nil, Nat.zero_add, Nat.reduceAdd]
  by_cases c0 : m = k * 5
  · subst c0; simp; omega
  by_cases c1 : m = k * 5 + 1
  · subst c1
    rw [if_neg (by omega), if_neg (by omega), if_neg (by omega), if_neg (by omega), if_pos (by omega), h1, show k * 5 + 1 - k * 5 = 1 by omega]
    rfl
  by_cases c2 : m = k * 5 + 2
  · subst c2
    rw [if_neg (by omega), if_neg (by omega), if_neg (by omega), if_pos rfl, if_pos (by omega), if_pos (by omega), show k * 5 + 2 - k * 5 = 2 by omega]
    rfl
  by_cases c3 : m = k * 5 + 3
  · subst c3
    rw [if_neg (by omega), if_neg (by omega), if_pos rfl, if_pos (by omega), if_pos (by omega), show k * 5 + 3 - k * 5 = 3 by omega]
    rfl
  by_cases c4 : m = k * 5 + 4
  · subst c4
    rw [if_neg (by omega), if_pos rfl, if_pos (by omega), if_pos (by omega), show k * 5 + 4 - k * 5 = 4 by omega]
    rfl
  rw [if_neg (by omega), if_neg (by omega), if_neg (by omega), if_neg (by omega), if_neg (by omega)]
theorem Made.spoil {base g c : Nat} {e : TypeId} {w : World} {zs : List Entry} (h : Made Entry.cells 5 e base w (.slice (some ⟨g, 0, none⟩) zs.length c) zs) (k : Nat) (hk : k < zs.length) (x : Int) (o : Op) :
    Made Entry.cells 5 e base ((((w.setCell ⟨g, k * 5 + 2, none⟩ (.int .i64 o.kind)).setCell ⟨g, k * 5 + 3, none⟩ (.int .i64 o.slot)).setCell ⟨g, k * 5 + 4, none⟩ (.string o.value)).setCell ⟨g, k * 5, none⟩ (.int .i64 x)) (.slice (some ⟨g, 0, none⟩) zs.length c) (zs.set k ⟨x, zs[k].number, o⟩) := by
  have h1 := ((((World.ownsRow.stored h (k * 5 + 2) (.int .i64 o.kind)).1.stored (k * 5 + 3) (.int .i64 o.slot)).1.stored (k * 5 + 4) (.string o.value)).1.stored (k * 5) (.int .i64 x)).1
  unfold Made
  rw [List.length_set, ← flat_spoil zs k hk]
  exact h1
theorem Made.spoilN {base g c n : Nat} {e : TypeId} {w : World} {zs : List Entry} (h : Made Entry.cells 5 e base w (.slice (some ⟨g, 0, none⟩) zs.length c) zs) (hn : zs.length = n) (k : Nat) (hk : k < zs.length) (x : Int) (o : Op) :
    Made Entry.cells 5 e base ((((w.setCell ⟨g, k * 5 + 2, none⟩ (.int .i64 o.kind)).setCell ⟨g, k * 5 + 3, none⟩ (.int .i64 o.slot)).setCell ⟨g, k * 5 + 4, none⟩ (.string o.value)).setCell ⟨g, k * 5, none⟩ (.int .i64 x)) (.slice (some ⟨g, 0, none⟩) n c) (zs.set k ⟨x, zs[k].number, o⟩) := by
  subst hn
  exact h.spoil k hk x o
theorem Made.spoilOp {base g c n : Nat} {e : TypeId} {w : World} {zs : List Entry} (h : Made Entry.cells 5 e base w (.slice (some ⟨g, 0, none⟩) zs.length c) zs) (hn : zs.length = n) (k : Nat) (hk : k < zs.length) (o : Op) :
    Made Entry.cells 5 e base (((w.setCell ⟨g, k * 5 + 2, none⟩ (.int .i64 o.kind)).setCell ⟨g, k * 5 + 3, none⟩ (.int .i64 o.slot)).setCell ⟨g, k * 5 + 4, none⟩ (.string o.value)) (.slice (some ⟨g, 0, none⟩) n c) (zs.set k ⟨zs[k].client, zs[k].number, o⟩) := by
  subst hn
  have h1 := (((World.ownsRow.stored h (k * 5 + 2) (.int .i64 o.kind)).1.stored (k * 5 + 3) (.int .i64 o.slot)).1.stored (k * 5 + 4) (.string o.value)).1
  have hl := flat_length encEntry.len zs
  have hm : k * 5 + 5 ≤ zs.length * 5 := by rw [← Nat.succ_mul]; exact Nat.mul_le_mul_right _ hk
  have h0 : (flat Entry.cells zs)[k * 5]? = some (.int .i64 zs[k].client) := by
    have := flat_get encEntry.len zs k 0 _ _ (List.getElem?_eq_getElem hk) rfl
    simpa using this
  have e1 : (((flat Entry.cells zs).set (k * 5 + 2) (.int .i64 o.kind)).set (k * 5 + 3) (.int .i64 o.slot)).set (k * 5 + 4) (.string o.value) = flat Entry.cells (zs.set k ⟨zs[k].client, zs[k].number, o⟩) := by
    rw [← flat_spoil zs k hk zs[k].client o]
    apply List.ext_getElem?
    intro m
    by_cases hmk : m = k * 5
    · subst hmk
      rw [List.getElem?_set_self (by simp [hl]; omega), List.getElem?_set_ne (by omega), List.getElem?_set_ne (by omega), List.getElem?_set_ne (by omega), h0]
    · rw [List.getElem?_set_ne (fun e => hmk e.symm)]
  unfold Made
  rw [List.length_set, ← e1]
  exact h1
end Go.Proofs.Ytnfilklgogaheaa
