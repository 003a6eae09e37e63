/- The book of lists: what it keeps, lists in memory of their own, and an append that tells whether it moved. Plain memory. Conditions: none.
The book: what is put into it, and that Apart answers true. Conditions: lists in memory of their own, no two in one block; lengths within Go's own limits.
Values that calls handed out, each in memory of its own; what keeps them, and the book's lists. Plain memory. Conditions: none.
Book.Apart: true where each kind of list is found apart. Conditions: as each kind's own.
The book's lists of kind Row: each is marked, grown by seventy, looked at: each still shows its own. Conditions: lists in memory of their own, none in another's block; lengths within Go's own limits.
ClientOwn: what lives while it runs, and Apart over it. Conditions: none.
An entry of a row of the call's own, written over but for its number. Plain memory. Conditions: the place lies in the row.
ClientOwn answers true, whatever the two lists and the number. Conditions: sizes within the form's own reach. -/
import Derived.Test.YtnfilklgogaheaaStore
import Derived.Test.YtnfilklgogaheaaGiven
import Derived.Deep.MidRow
import Derived.Test.YtnfilklgogaheaaOpen3
import Derived.Test.YtnfilklgogaheaaClientM1
import Derived.Test.YtnfilklgogaheaaClientM5
namespace Go.Proofs.Ytnfilklgogaheaa
open Go.RowKit
set_option linter.unusedVariables false
set_option linter.unusedSimpArgs false

/-- One list that lies in the book: its block, length, capacity. -/
structure Bk where
  g : Nat
  n : Nat
  c : Nat
def Bk.v (b : Bk) : Value := .slice (some ⟨b.g, 0, none⟩) b.n b.c
def Bk.x (b : Bk) : { v : Value // v.oneCell' = true } := ⟨b.v, rfl⟩

section app2
variable {P : Program} {t e : TypeId} {k bytes : Nat} {α : Type} {enc : α → List Value}
/-- append of one element to a row of the call's own: there is room (the same block), or it moves (all that was stays). -/
theorem run_app2 (w : World) (T : RowT P t e k bytes) (E : Enc enc k) (ty : TypeId) (base : Nat) {g n cap : Nat} {xs : List α} {y : α} (hn : n = xs.length) (hv : Made enc k e base w (.slice (some ⟨g, 0, none⟩) n cap) xs) {B : Nat} {A : Option Addr} {c m : Nat} (hm : m = 1) (hy : Rd enc k w B A [y])
    (hbytes : (xs.length + 1) * bytes ≤ 140737488355328) (h63 : xs.length + 1 ≤ maxLen) (hbase : base ≤ w.heap.size) :
    ∃ (b : Bk) (w' : World), (Builtin.append_ #[t, t] ty #[.slice (some ⟨g, 0, none⟩) n cap, .slice A m c]).run P w = .ok b.v w' ∧ b.n = n + 1 ∧ Made enc k e base w' b.v (xs ++ [y]) ∧
      ((b.g = g ∧ w.grownBy w' (some g)) ∨ (b.g = w.heap.size ∧ Below w.heap.size w w')) := by
  obtain ⟨v', w', hrun, hmd, hgr, hat⟩ := run_app w T E ty base hv (c := c) (m := m) (by simpa using hm) hy (by simpa using hbytes) (by simpa using h63) hbase
  subst hn
  obtain ⟨A', c', rfl, hc'⟩ := hmd.form
  obtain ⟨i, z, hi, hz, hs, hb, hzs⟩ := T.info
  have hA : ∃ ad, A = some ad := by obtain ⟨ad, q, _⟩ := hy 0 y rfl; exact ⟨ad, q⟩
  obtain ⟨ad, rfl⟩ := hA
  have hl1 : (xs ++ [y]).length = xs.length + 1 := by simp
  rcases hv.2 with ⟨hvn, _⟩ | ⟨g', cap', cur, hvv, hbg, hg, hnc, hcm, hcs, htake⟩
  · cases hvn
  injection hvv with q1 q2 q3
  injection q1 with q1
  injection q1 with q1
  subst q1 q3
  have hfl : (flat enc [y]).length = m * i.size := by rw [flat_length E.len, hs, hm]; simp
  have hnews : ∀ j u, (flat enc [y])[j]? = some u → w.cell? (ad.add j) = some u := hy.flatAt E.len T.pos
  by_cases hroom : xs.length + m ≤ cap
  · have hfit : xs.length * i.size + (flat enc [y]).length ≤ cur.size := by rw [hfl, hcs, hs, ← Nat.add_mul]; exact Nat.mul_le_mul_right _ hroom
    have hr := run_append_room (P := P) w t ty e i T.under hi g xs.length cap cur hg ad m c (flat enc [y]) hfl hnews (E.flat_one [y]) hroom hfit
    rw [hr] at hrun
    injection hrun with r1 r2
    injection r1 with r1 r3 r4
    subst r1
    refine ⟨⟨g, xs.length + m, cap⟩, w', ?_, by simp [hm], ?_, .inl ⟨rfl, hgr⟩⟩
    · rw [hr, r2]; rfl
    · show Made enc k e base w' (.slice (some ⟨g, 0, none⟩) (xs.length + m) cap) (xs ++ [y])
      rw [r3, r4]; exact hmd
  · have hsmall : xs.length + m ≤ 9223372036854775807 := by simp only [maxLen] at h63; omega
    have holds : ∀ j u, (flat enc xs)[j]? = some u → w.cell? ((⟨g, 0, none⟩ : Addr).add j) = some u := World.ownsRow.cells (g := g) hv rfl
    have hr := run_append_grow (P := P) w t ty e i z T.under hi hz ⟨g, 0, none⟩ xs.length cap (flat enc xs) (by rw [flat_length E.len, hs]) holds ad m c (flat enc [y]) hfl hnews (by omega) (by omega) (growslice_fits (by omega) (by rw [hm, hb]; exact hbytes))
    rw [hr] at hrun
    injection hrun with r1 r2
    injection r1 with r1 r3 r4
    subst r1
    refine ⟨⟨w.heap.size, (xs ++ [y]).length, c'⟩, w', ?_, hl1, hmd, .inr ⟨rfl, ?_⟩⟩
    · rw [hr, r2, r4, r3]; rfl
    · rw [← r2]; exact ⟨rfl, rfl, rfl, by simp, fun j hj => heap_alloc_old w.drew _ hj⟩
theorem wpList_app2 {w : World} (T : RowT P t e k bytes) (E : Enc enc k) {ops : Array Oper} {rest : List Oper} {o : Oper} {a : Act} {Q : Exit → Act → World → Prop} (hgd : o.guard = none) (s x : Operand)
    (ho : o.op = .call { callee := .builtin .append, args := #[s, x], argTypes := #[t, t] })
    (base : Nat) {g n cap : Nat} {xs : List α} {y : α} (hs : a.eval s = .slice (some ⟨g, 0, none⟩) n cap) (hn : n = xs.length) (hv : Made enc k e base w (.slice (some ⟨g, 0, none⟩) n cap) xs) {B : Nat} {A : Option Addr} {c m : Nat} (hx : a.eval x = .slice A m c) (hm : m = 1) (hy : Rd enc k w B A [y])
    (hbytes : (xs.length + 1) * bytes ≤ 140737488355328) (h63 : xs.length + 1 ≤ maxLen) (hbase : base ≤ w.heap.size)
    (h : ∀ (b : Bk) (w' : World), b.n = n + 1 → Made enc k e base w' b.v (xs ++ [y]) → ((b.g = g ∧ w.grownBy w' (some g)) ∨ (b.g = w.heap.size ∧ Below w.heap.size w w')) → wpList P ops Q rest (a.put o.dst b.v) w') : wpList P ops Q (o :: rest) a w := by
  refine wpList_plain hgd fun _ hK => ?_
  obtain ⟨b, w', hrun, h2, h3, h4⟩ := run_app2 w T E o.type base hn hv (c := c) hm hy hbytes h63 hbase
  unfold Oper.wp execOp
  simp only [ho, resolve, invoke, builtin, Sem.run_bind, Sem.run_pure, Result.andThen_ok, List.map_toArray, List.map_cons, List.map_nil, hs, hx, hrun]
  exact hK _ _ (h b w' h2 h3 h4)
end app2

theorem Rd.keepAt2 {α : Type} {enc : α → List Value} {k : Nat} {w w' : World} {B B' : Nat} {A : Option Addr} {xs : List α} (h : Rd enc k w B A xs) (hB : B ≤ B') (hk : ∀ ad, A = some ad → ad.block < B → w'.heap[ad.block]? = w.heap[ad.block]?) : Rd enc k w' B' A xs := fun i x hx => by
  obtain ⟨ad, e, hb, ha⟩ := h i x hx
  refine ⟨ad, e, by omega, ha.keep fun q hq => ?_⟩
  have h1 := hk ad e hb
  unfold World.cell?
  rw [hq, block_add, h1]
theorem setCells_put (g : Nat) (us : List Value) : ∀ (w : World) (o : Nat), w.setCells g o us = putCells w g o us := by
  induction us with
  | nil => intro w o; rfl
  | cons u us ih => intro w o; exact ih _ _
/-- The store of a whole element into a row of the call's own. -/
theorem run_put {P : Program} {α : Type} {enc : α → List Value} {k : Nat} {e ty : TypeId} {base : Nat} {w : World} {g n c q : Nat} {xs : List α} {x : α} {cells : Array Value} (E : Enc enc k) (h : Made enc k e base w (.slice (some ⟨g, 0, none⟩) n c) xs) (hn : xs.length = n) (hq : q < n) (hi : (P.info? ty).map (·.size) = some k) (hx : cells.toList = enc x) :
    (Instr.storeAt ty (.pointer (some ⟨g, q * k, none⟩)) (.agg cells)).run P w = .ok () (putCells w g (q * k) (enc x)) := by
  subst hn
  have hsz : cells.size = k := by rw [← Array.length_toList, hx, E.len]
  rw [← setCells_put, ← hx]
  refine run_storeAt_mid w g (q * k) ty cells (fun j hj => ?_) (by rw [hsz]; exact hi) ?_
  · obtain ⟨⟨u, h1⟩, h2⟩ := h.place E.len hq j (by omega)
    exact ⟨by rw [h1]; rfl, h2⟩
  · refine Array.all_eq_true_iff_forall_mem.2 fun v hv => ?_
    exact E.one x v (by rw [← hx]; simpa using hv)
/-- What the walk asks while it stores an element cell by cell. -/
def Stepped (w : World) (g o : Nat) : Nat → List Value → Prop
  | _, [] => True
  | j, u :: us => (∃ x, w.cell? ⟨g, o + j, none⟩ = some x) ∧ w.frozen? ⟨g, o + j, none⟩ = false ∧ Stepped (w.setCell ⟨g, o + j, none⟩ u) g o (j + 1) us
theorem stepped_of (g o : Nat) (us : List Value) : ∀ (j : Nat) (w : World), (∀ m, m < us.length → (∃ x, w.cell? ⟨g, o + (j + m), none⟩ = some x) ∧ w.frozen? ⟨g, o + (j + m), none⟩ = false) → Stepped w g o j us := by
  induction us with
  | nil => intro j w _; trivial
  | cons u us ih =>
    intro j w h
    refine ⟨(h 0 (by simp)).1, (h 0 (by simp)).2, ih (j + 1) _ fun m hm => ?_⟩
    obtain ⟨⟨x, h1⟩, h2⟩ := h (m + 1) (by simpa using hm)
    have e : j + 1 + m = j + (m + 1) := by omega
    rw [e]
    refine ⟨⟨x, ?_⟩, by rw [World.frozen?_setCell]; exact h2⟩
    rw [World.cell?_setCell_other _ _ _ _ (by simp)]
    exact h1
theorem Made.stepped {α : Type} {enc : α → List Value} {k : Nat} {e : TypeId} {base : Nat} {w : World} {g n c q : Nat} {xs : List α} (E : Enc enc k) (h : Made enc k e base w (.slice (some ⟨g, 0, none⟩) n c) xs) (hn : xs.length = n) (hq : q < n) (x : α) : Stepped w g (q * k) 0 (enc x) := by
  subst hn
  refine stepped_of g (q * k) (enc x) 0 w fun m hm => ?_
  rw [E.len] at hm
  rw [Nat.zero_add]
  exact h.place E.len hq m hm
section lists
variable {α : Type} {enc : α → List Value} {k : Nat} {e : TypeId} {base : Nat} {w w' : World} {L G : List Bk} {mk : Nat → Nat → α} {i kk m : Nat} {l c : Bk}
def marks (mk : Nat → Nat → α) (i n : Nat) : List α := (List.range n).map (mk i)
theorem marks_length (mk : Nat → Nat → α) (i n : Nat) : (marks mk i n).length = n := by simp [marks]
theorem marks_succ (mk : Nat → Nat → α) (i n : Nat) : marks mk i (n + 1) = marks mk i n ++ [mk i n] := by simp [marks, List.range_succ]
theorem marks_get (mk : Nat → Nat → α) (i n : Nat) {j : Nat} (h : j < n) : (marks mk i n)[j]? = some (mk i j) := by simp [marks, h]
theorem marks_take (mk : Nat → Nat → α) (i : Nat) {m n : Nat} (h : m ≤ n) : (marks mk i n).take m = marks mk i m := by
  simp only [marks, ← List.map_take, List.take_range, Nat.min_eq_left h]

/-- The lists lie in memory of their own, no two in one block; none is empty. -/
structure Lists (enc : α → List Value) (k : Nat) (e : TypeId) (base : Nat) (w : World) (L : List Bk) : Prop where
  made : ∀ l ∈ L, ∃ xs : List α, xs.length = l.n ∧ Made enc k e base w l.v xs
  apart : L.Pairwise (fun a b => a.g ≠ b.g)
theorem Lists.ne (h : L.Pairwise (fun a b => a.g ≠ b.g)) {i j : Nat} {a b : Bk} (ha : L[i]? = some a) (hb : L[j]? = some b) (hij : i ≠ j) : a.g ≠ b.g := by
  obtain ⟨h1, e1⟩ := List.getElem?_eq_some_iff.1 ha
  obtain ⟨h2, e2⟩ := List.getElem?_eq_some_iff.1 hb
  subst e1 e2
  have hp := List.pairwise_iff_getElem.1 h
  rcases Nat.lt_or_gt_of_ne hij with q | q
  · exact hp i j h1 h2 q
  · exact (hp j i h2 h1 q).symm

/-- In the midst of marking: list i has its first kk marks. -/
def MarkedAt (mk : Nat → Nat → α) (enc : α → List Value) (k : Nat) (e : TypeId) (base : Nat) (w : World) (L : List Bk) (i kk : Nat) : Prop :=
  ∀ (j : Nat) (l : Bk), L[j]? = some l → ∃ xs : List α, xs.length = l.n ∧ Made enc k e base w l.v xs ∧ (j < i → xs = marks mk j l.n) ∧ (j = i → xs.take kk = marks mk i kk)
theorem MarkedAt.start (h : Lists enc k e base w L) : MarkedAt mk enc k e base w L 0 0 := fun j l hj => by
  obtain ⟨xs, h1, h2⟩ := h.made l (List.mem_of_getElem? hj)
  exact ⟨xs, h1, h2, by omega, fun _ => by simp [marks]⟩
theorem MarkedAt.keep (h : MarkedAt mk enc k e base w L i kk) (hb : ∀ l ∈ L, w'.heap[l.g]? = w.heap[l.g]?) : MarkedAt mk enc k e base w' L i kk := fun j l hj => by
  obtain ⟨xs, h1, h2, h3, h4⟩ := h j l hj
  refine ⟨xs, h1, h2.same fun b q => ?_, h3, h4⟩
  simp only [Bk.v, Value.ownBlock] at q
  cases q
  exact hb l (List.mem_of_getElem? hj)
theorem MarkedAt.lt (h : MarkedAt mk enc k e base w L i kk) : ∀ l ∈ L, base ≤ l.g ∧ l.g < w.heap.size := fun l hl => by
  obtain ⟨j, hj⟩ := List.mem_iff_getElem?.1 hl
  obtain ⟨xs, h1, h2, _⟩ := h j l hj
  exact h2.lt l.g rfl
theorem MarkedAt.below (h : MarkedAt mk enc k e base w L i kk) (hb : Below w.heap.size w w') : MarkedAt mk enc k e base w' L i kk :=
  h.keep fun l hl => hb.block _ (h.lt l hl).2
theorem MarkedAt.step (hk : ∀ x, (enc x).length = k) (hp : 0 < k) (ha : L.Pairwise (fun a b => a.g ≠ b.g)) (h : MarkedAt mk enc k e base w L i kk) {l : Bk} (hl : L[i]? = some l) (hkk : kk < l.n) : MarkedAt mk enc k e base (putCells w l.g (kk * k) (enc (mk i kk))) L i (kk + 1) := fun j l' hj => by
  obtain ⟨xs, h1, h2, h3, h4⟩ := h j l' hj
  by_cases hji : j = i
  · subst hji
    rw [hl] at hj; cases hj
    have h2' : Made enc k e base w (.slice (some ⟨l.g, 0, none⟩) xs.length l.c) xs := by rw [h1]; exact h2
    have h5 := Made.put hk hp h2' (i := kk) (by omega) (mk j kk)
    refine ⟨xs.set kk (mk j kk), by simpa using h1, ?_, by omega, fun _ => ?_⟩
    · rw [List.length_set, h1] at h5; exact h5
    · rw [List.take_set, List.take_succ_eq_append_getElem (by omega), h4 rfl, List.set_append_right _ _ (by rw [marks_length]; omega), marks_length, Nat.sub_self, List.set_cons_zero, marks_succ]
  · refine ⟨xs, h1, h2.same fun b q => ?_, h3, fun q => absurd q hji⟩
    simp only [Bk.v, Value.ownBlock] at q
    cases q
    exact putCells_block (Lists.ne ha hj hl hji)
theorem MarkedAt.next (h : MarkedAt mk enc k e base w L i kk) {l : Bk} (hl : L[i]? = some l) (hkk : l.n ≤ kk) : MarkedAt mk enc k e base w L (i + 1) 0 := fun j l' hj => by
  obtain ⟨xs, h1, h2, h3, h4⟩ := h j l' hj
  refine ⟨xs, h1, h2, fun hji => ?_, fun _ => by simp [marks]⟩
  by_cases hq : j < i
  · exact h3 hq
  · obtain rfl : j = i := by omega
    rw [hl] at hj; cases hj
    have := h4 rfl
    rw [List.take_of_length_le (by omega)] at this
    rw [this]
    have hlen := congrArg List.length this
    rw [h1, marks_length] at hlen
    rw [hlen]

/-- In the midst of growing: the lists before i are grown (G), each of them in its old block or in one of its own; all old lists read their marks. -/
structure GrownAt (mk : Nat → Nat → α) (enc : α → List Value) (k : Nat) (e : TypeId) (base : Nat) (w : World) (L G : List Bk) (i : Nat) : Prop where
  len : G.length = i
  lt : ∀ (j : Nat) (l : Bk), L[j]? = some l → l.g < w.heap.size
  old : ∀ (j : Nat) (l : Bk), L[j]? = some l → Rd enc k w w.heap.size (some ⟨l.g, 0, none⟩) (marks mk j l.n)
  rest : ∀ (j : Nat) (l : Bk), L[j]? = some l → i ≤ j → Made enc k e base w l.v (marks mk j l.n)
  grown : ∀ (j : Nat) (b l : Bk), G[j]? = some b → L[j]? = some l → b.n = l.n + 70 ∧ Made enc k e base w b.v (marks mk j b.n)
  other : ∀ (j : Nat) (b : Bk), G[j]? = some b → ∀ (j' : Nat) (l : Bk), L[j']? = some l → j' ≠ j → b.g ≠ l.g
theorem GrownAt.start (h : MarkedAt mk enc k e base w L L.length 0) (hk : ∀ x, (enc x).length = k) : GrownAt mk enc k e base w L [] 0 := by
  have hm : ∀ (j : Nat) (l : Bk), L[j]? = some l → Made enc k e base w l.v (marks mk j l.n) := fun j l hj => by
    obtain ⟨xs, h1, h2, h3, _⟩ := h j l hj
    rw [h3 (List.getElem?_eq_some_iff.1 hj).1] at h2
    exact h2
  exact ⟨rfl, fun j l hj => ((hm j l hj).lt l.g rfl).2, fun j l hj => (hm j l hj).rd' hk, fun j l hj _ => hm j l hj, fun j b l hj => by simp at hj, fun j b hj => by simp at hj⟩
/-- While list i grows: its value is c so far. -/
structure GrowAt (mk : Nat → Nat → α) (enc : α → List Value) (k : Nat) (e : TypeId) (base : Nat) (w : World) (L G : List Bk) (i : Nat) (l c : Bk) (m : Nat) : Prop where
  len : G.length = i
  lt : ∀ (j : Nat) (l : Bk), L[j]? = some l → l.g < w.heap.size
  old : ∀ (j : Nat) (l : Bk), L[j]? = some l → Rd enc k w w.heap.size (some ⟨l.g, 0, none⟩) (marks mk j l.n)
  rest : ∀ (j : Nat) (l : Bk), L[j]? = some l → i < j → Made enc k e base w l.v (marks mk j l.n)
  grown : ∀ (j : Nat) (b l : Bk), G[j]? = some b → L[j]? = some l → b.n = l.n + 70 ∧ Made enc k e base w b.v (marks mk j b.n)
  other : ∀ (j : Nat) (b : Bk), G[j]? = some b → ∀ (j' : Nat) (l : Bk), L[j']? = some l → j' ≠ j → b.g ≠ l.g
  cn : c.n = l.n + m
  cur : Made enc k e base w c.v (marks mk i c.n)
  cother : ∀ (j' : Nat) (l : Bk), L[j']? = some l → j' ≠ i → c.g ≠ l.g
  cG : ∀ (j : Nat) (b : Bk), G[j]? = some b → b.g ≠ c.g
theorem GrowAt.start (h : GrownAt mk enc k e base w L G i) {l : Bk} (hl : L[i]? = some l) (ha : L.Pairwise (fun a b => a.g ≠ b.g)) : GrowAt mk enc k e base w L G i l l 0 :=
  ⟨h.len, h.lt, h.old, fun j l hj hij => h.rest j l hj (by omega), h.grown, h.other, rfl, h.rest i l hl (Nat.le_refl _), fun j' l' hj' hne => Lists.ne ha hl hj' (Ne.symm hne), fun j b hj => h.other j b hj i l hl (fun q => by have := (List.getElem?_eq_some_iff.1 hj).1; have := h.len; omega)⟩
theorem GrowAt.finish (h : GrowAt mk enc k e base w L G i l c 70) (hl : L[i]? = some l) (hi : i < L.length) : GrownAt mk enc k e base w L (G ++ [c]) (i + 1) := by
  have hG := h.len
  refine ⟨by simp [hG], h.lt, h.old, fun j l hj hij => h.rest j l hj (by omega), fun j b l' hj hl' => ?_, fun j b hj j' l' hl' hne => ?_⟩
  · by_cases hji : j < i
    · rw [List.getElem?_append_left (by omega)] at hj
      exact h.grown j b l' hj hl'
    · have hjl := (List.getElem?_eq_some_iff.1 hj).1
      simp at hjl
      obtain rfl : j = i := by omega
      rw [List.getElem?_append_right (by omega), hG, Nat.sub_self] at hj
      simp at hj
      subst hj
      rw [hl] at hl'; cases hl'
      exact ⟨h.cn, h.cur⟩
  · by_cases hji : j < i
    · rw [List.getElem?_append_left (by omega)] at hj
      exact h.other j b hj j' l' hl' hne
    · have hjl := (List.getElem?_eq_some_iff.1 hj).1
      simp at hjl
      obtain rfl : j = i := by omega
      rw [List.getElem?_append_right (by omega), hG, Nat.sub_self] at hj
      simp at hj
      subst hj
      exact h.cother j' l' hl' hne
theorem GrowAt.below (h : GrowAt mk enc k e base w L G i l c m) (hb : Below w.heap.size w w') : GrowAt mk enc k e base w' L G i l c m :=
  ⟨h.len, fun j l hj => Nat.lt_of_lt_of_le (h.lt j l hj) hb.size, fun j l hj => ((h.old j l hj).below hb).more hb.size, fun j l hj hij => (h.rest j l hj hij).below hb fun b q => ((h.rest j l hj hij).lt b q).2,
    fun j b l hj hl => ⟨(h.grown j b l hj hl).1, (h.grown j b l hj hl).2.below hb fun q e => ((h.grown j b l hj hl).2.lt q e).2⟩, h.other, h.cn, h.cur.below hb fun q e => (h.cur.lt q e).2, h.cother, h.cG⟩
theorem GrownAt.keep (h : GrownAt mk enc k e base w L G i) (hs : w.heap.size ≤ w'.heap.size) (hl : ∀ l ∈ L, w'.heap[l.g]? = w.heap[l.g]?) (hg : ∀ b ∈ G, b.g < w.heap.size → (∃ cs, w.heap[b.g]? = some (.cells cs e (0, 0))) → w'.heap[b.g]? = w.heap[b.g]?) (hG : G.length ≤ L.length) : GrownAt mk enc k e base w' L G i := by
  refine ⟨h.len, fun j l hj => Nat.lt_of_lt_of_le (h.lt j l hj) hs, fun j l hj => (h.old j l hj).keepAt2 hs fun ad e _ => ?_, fun j l hj hij => (h.rest j l hj hij).same fun b q => ?_, fun j b l hj hl' => ⟨(h.grown j b l hj hl').1, (h.grown j b l hj hl').2.same fun q e => ?_⟩, h.other⟩
  · cases e; exact hl l (List.mem_of_getElem? hj)
  · simp only [Bk.v, Value.ownBlock] at q
    cases q; exact hl l (List.mem_of_getElem? hj)
  · have h1 := ((h.grown j b l hj hl').2.lt q e).2
    have h2 := (h.grown j b l hj hl').2.cell_block e
    simp only [Bk.v, Value.ownBlock] at e
    cases e
    exact hg b (List.mem_of_getElem? hj) h1 h2
theorem GrownAt.below (h : GrownAt mk enc k e base w L G i) (hb : Below w.heap.size w w') (hG : G.length ≤ L.length) : GrownAt mk enc k e base w' L G i :=
  h.keep hb.size (fun l hl => by obtain ⟨j, hj⟩ := List.mem_iff_getElem?.1 hl; exact hb.block _ (h.lt j l hj)) (fun b _ hlt _ => hb.block _ hlt) hG
/-- One element more. -/
theorem GrowAt.step (h : GrowAt mk enc k e base w L G i l c m) (hk : ∀ x, (enc x).length = k) (hl : L[i]? = some l) (hlG : ∀ (j : Nat) (b : Bk), G[j]? = some b → ∃ l, L[j]? = some l) {b : Bk} (hn : b.n = c.n + 1) (hm : Made enc k e base w' b.v (marks mk i c.n ++ [mk i c.n]))
    (hg : (b.g = c.g ∧ w.grownBy w' (some c.g)) ∨ (b.g = w.heap.size ∧ Below w.heap.size w w')) : GrowAt mk enc k e base w' L G i l b (m + 1) := by
  rw [← marks_succ, ← hn] at hm
  have hcn := h.cn
  have hGb : ∀ (j : Nat) (q : Bk), G[j]? = some q → base ≤ q.g ∧ q.g < w.heap.size := fun j q hj => by
    obtain ⟨l', hl'⟩ := hlG j q hj
    exact (h.grown j q l' hj hl').2.lt q.g rfl
  rcases hg with ⟨h1, h2⟩ | ⟨h1, h2⟩
  · -- in place
    have hbl : ∀ j, j < w.heap.size → j ≠ c.g → w'.heap[j]? = w.heap[j]? := fun j hj hne => h2.block j hj (fun e => hne (by cases e; rfl))
    have hsz := h2.size
    refine ⟨h.len, fun j l hj => Nat.lt_of_lt_of_le (h.lt j l hj) hsz, fun j l' hj => ?_, fun j l' hj hij => ?_, fun j q l' hj hl' => ⟨(h.grown j q l' hj hl').1, ?_⟩, h.other, by omega, hm, fun j' l' hl' hne => by rw [h1]; exact h.cother j' l' hl' hne, fun j q hj => by rw [h1]; exact h.cG j q hj⟩
    · by_cases hji : j = i
      · subst hji
        rw [hl] at hj; cases hj
        by_cases hcl : c.g = l.g
        · have h5 := (Made.rd' hk hm).take l.n
          rw [marks_take mk j (by omega), h1, hcl] at h5
          exact h5
        · refine (h.old j l hl).keepAt2 hsz fun ad q hb => ?_
          cases q
          exact hbl _ hb (fun e => hcl e.symm)
      · refine (h.old j l' hj).keepAt2 hsz fun ad q hb => ?_
        cases q
        exact hbl _ hb (fun e => h.cother j l' hj hji e.symm)
    · refine (h.rest j l' hj hij).same fun q e => ?_
      have hq := (h.rest j l' hj hij).lt q e
      simp only [Bk.v, Value.ownBlock] at e
      cases e
      exact hbl _ hq.2 (fun e => h.cother j l' hj (by omega) e.symm)
    · refine (h.grown j q l' hj hl').2.same fun r e => ?_
      have hq := (h.grown j q l' hj hl').2.lt r e
      simp only [Bk.v, Value.ownBlock] at e
      cases e
      exact hbl _ hq.2 (h.cG j q hj)
  · -- moved
    have hB := h.below h2
    refine ⟨h.len, hB.lt, hB.old, hB.rest, hB.grown, h.other, by omega, hm, fun j' l' hl' hne q => ?_, fun j q hj e => ?_⟩
    · have := h.lt j' l' hl'; omega
    · have := (hGb j q hj).2; omega
end lists
end Go.Proofs.Ytnfilklgogaheaa

namespace Go.Proofs.Ytnfilklgogaheaa
open Go.RowKit
set_option linter.unusedVariables false
set_option linter.unusedSimpArgs false

theorem rowsEntryB : RowT Try.prog 36 22 1 24 := RowT.of (z := .slice none 0 0) Try.underlying36 (by kernel_rfl) rfl (by omega)
theorem rowsCellB : RowT Try.prog 60 41 1 24 := RowT.of (z := .slice none 0 0) Try.underlying60 (by kernel_rfl) rfl (by omega)
theorem rowsRowB : RowT Try.prog 61 76 1 24 := RowT.of (z := .slice none 0 0) Try.underlying61 (by kernel_rfl) rfl (by omega)
theorem rowsResB : RowT Try.prog 62 42 1 24 := RowT.of (z := .slice none 0 0) Try.underlying62 (by kernel_rfl) rfl (by omega)

/-- The book at block b: its lists of entries, cells, rows, results; its other lists are nil. -/
structure BookC (w : World) (b base : Nat) (vE vC vR vS : Value) (LE LC LR LS : List Bk) : Prop where
  at_ : w.heap[b]? = some (.cells #[.slice none 0 0, .slice none 0 0, .slice none 0 0, vE, vC, vR, vS, .slice none 0 0, .slice none 0 0, .slice none 0 0] 67 (0, 0))
  e : Made slc 1 22 base w vE (LE.map Bk.x)
  c : Made slc 1 41 base w vC (LC.map Bk.x)
  r : Made slc 1 76 base w vR (LR.map Bk.x)
  s : Made slc 1 42 base w vS (LS.map Bk.x)
/-- The blocks of the book's own: its struct, and its rows of slices. -/
def BookS (w : World) (b base : Nat) (j : Nat) : Prop := j = b ∨ base ≤ j ∧ ∃ cs t, w.heap[j]? = some (.cells cs t (0, 0)) ∧ (t = 22 ∨ t = 41 ∨ t = 76 ∨ t = 42)
section
variable {w w' : World} {b base : Nat} {vE vC vR vS : Value} {LE LC LR LS : List Bk}
theorem BookC.new (w : World) (base : Nat) : BookC (w.alloc (.cells #[.slice none 0 0, .slice none 0 0, .slice none 0 0, .slice none 0 0, .slice none 0 0, .slice none 0 0, .slice none 0 0, .slice none 0 0, .slice none 0 0, .slice none 0 0] 67)) w.heap.size base (.slice none 0 0) (.slice none 0 0) (.slice none 0 0) (.slice none 0 0) [] [] [] [] :=
  ⟨heap_alloc_new w _, Made.nil _ _ _, Made.nil _ _ _, Made.nil _ _ _, Made.nil _ _ _⟩
theorem BookC.lt (h : BookC w b base vE vC vR vS LE LC LR LS) : b < w.heap.size := (Array.getElem?_eq_some_iff.1 h.at_).1
/-- Whatever keeps the book's own blocks keeps the book. -/
theorem BookC.keep (h : BookC w b base vE vC vR vS LE LC LR LS) (hk : ∀ j, BookS w b base j → w'.heap[j]? = w.heap[j]?) : BookC w' b base vE vC vR vS LE LC LR LS := by
  refine ⟨(hk b (.inl rfl)).trans h.at_, h.e.same fun j hj => ?_, h.c.same fun j hj => ?_, h.r.same fun j hj => ?_, h.s.same fun j hj => ?_⟩
  · obtain ⟨cs, q⟩ := h.e.cell_block hj; exact hk j (.inr ⟨(h.e.lt j hj).1, cs, _, q, .inl rfl⟩)
  · obtain ⟨cs, q⟩ := h.c.cell_block hj; exact hk j (.inr ⟨(h.c.lt j hj).1, cs, _, q, .inr (.inl rfl)⟩)
  · obtain ⟨cs, q⟩ := h.r.cell_block hj; exact hk j (.inr ⟨(h.r.lt j hj).1, cs, _, q, .inr (.inr (.inl rfl))⟩)
  · obtain ⟨cs, q⟩ := h.s.cell_block hj; exact hk j (.inr ⟨(h.s.lt j hj).1, cs, _, q, .inr (.inr (.inr rfl))⟩)
theorem BookS.lt (h : BookC w b base vE vC vR vS LE LC LR LS) {j : Nat} (q : BookS w b base j) : j < w.heap.size := by
  rcases q with rfl | ⟨_, cs, t, q, _⟩
  · exact h.lt
  · exact (Array.getElem?_eq_some_iff.1 q).1
theorem BookC.below (h : BookC w b base vE vC vR vS LE LC LR LS) (hb : Below w.heap.size w w') : BookC w' b base vE vC vR vS LE LC LR LS := h.keep fun j q => hb.block j (BookS.lt h q)
/-- A block of another type is none of the book's. -/
theorem BookS.ne {j : Nat} (q : BookS w b base j) (hb : j ≠ b) {cs : Array Value} {t : TypeId} (h : w.heap[j]? = some (.cells cs t (0, 0))) (ht : t ≠ 22 ∧ t ≠ 41 ∧ t ≠ 76 ∧ t ≠ 42) : False := by
  rcases q with q | ⟨_, cs', t', q, q'⟩
  · exact hb q
  · rw [h] at q
    cases q
    rcases q' with q' | q' | q' | q'
    · exact ht.1 q'
    · exact ht.2.1 q'
    · exact ht.2.2.1 q'
    · exact ht.2.2.2 q'
end

/-- The lists that a value adds to the book: none, if it is empty. -/
def bkOf : Value → List Bk
  | .slice (some ad) n c => if n = 0 then [] else [⟨ad.block, n, c⟩]
  | _ => []

set_option maxRecDepth 100000 in
set_option maxHeartbeats 1600000 in
theorem bookEntryP (b base : Nat) (vE vC vR vS : Value) (LE LC LR LS : List Bk) (A : Option Addr) (n c : Nat) (hA : ∀ ad, A = some ad → ∃ g, ad = ⟨g, 0, none⟩) (hA0 : A = none → n = 0) (w : World) (h : BookC w b base vE vC vR vS LE LC LR LS) (hl : LE.length ≤ 900) (hbase : base ≤ w.heap.size) :
    Calls Try.prog 29 #[.pointer (some ⟨b, 0, none⟩), .slice A n c] w fun e w' => e = .returned (.tuple #[]) ∧ (∃ v', BookC w' b base v' vC vR vS (LE ++ bkOf (.slice A n c)) LC LR LS) ∧ Kept (fun j => j = b ∨ vE.ownBlock = some j) w w' := by
  cases n with
  | zero =>
    have e0 : bkOf (.slice A 0 c) = [] := by cases A <;> simp [bkOf]
    rw [e0]
    have H := Lib.hid h
    clear h e0
    go_enter Try.func29, Try.ntmps29
    go_wp2_with fail
    go_end0
    exact ⟨rfl, ⟨vE, by first | exact H.out | (rw [List.append_nil]; exact H.out)⟩, Kept.refl _ _⟩
  | succ n =>
    cases A with
    | none => exact absurd (hA0 rfl) (by omega)
    | some ad =>
      obtain ⟨g, rfl⟩ := hA ad rfl
      have e0 : bkOf (.slice (some ⟨g, 0, none⟩) (n + 1) c) = [⟨g, n + 1, c⟩] := by simp [bkOf]
      rw [e0]
      have H := Lib.hid h
      have hm := h.e
      obtain ⟨Av, cv, hv, hcv⟩ := hm.form
      have hlen : (LE.map Bk.x).length = LE.length := List.length_map _
      rw [hlen] at hv hcv
      subst hv
      have g4 : w.cell? ⟨b, 3, none⟩ = some (.slice Av LE.length cv) := cell_of_row w b 3 _ _ _ h.at_
      have HM1 := Lib.hid (hm.alloc (.cells #[.slice (some ⟨g, 0, none⟩) (n + 1) c] 22))
      have HR1 := Lib.hid (rd_one encSlc w (Bk.x ⟨g, n + 1, c⟩) #[.slice (some ⟨g, 0, none⟩) (n + 1) c] rfl 22)
      have HLN := Lib.hid hlen
      obtain ⟨N, hN⟩ : ∃ N, N = n + 1 := ⟨_, rfl⟩
      have hN0 : 0 < N := by omega
      have hN1 : decide ((0:Int) < (N:Int)) = true := decide_eq_true (by omega)
      rw [← hN] at HM1 HR1 ⊢
      have HLT : Hid (b < w.heap.size) := h.lt
      clear h hm hlen e0 hA hA0 hN
      go_enter Try.func29, Try.ntmps29
      go_wp2_with (at_builtin; refine wpList_app (v := .slice Av LE.length cv) (xs := LE.map Bk.x) (ys := [Bk.x ⟨g, N, c⟩]) rowsEntryB encSlc rfl (.tmp 11) (.tmp 13) rfl base rfl HM1.out rfl rfl HR1.out (by rw [HLN.out]; simp only [List.length_singleton]; omega) (by rw [HLN.out]; unfold maxLen; simp only [List.length_singleton]; omega) (by simp; omega) ?_; intro v3 w3 hm3 hg3 hat3; obtain ⟨A3, c3, hv3, hc3⟩ := hm3.form; rw [List.length_append, List.length_singleton, HLN.out] at hv3; subst hv3; have HM3 := Lib.hid hm3; have HG3 := Lib.hid hg3; have hgb3 := (hg3.block b (by simp; have := HLT.out; omega) (fun e => by obtain ⟨cs, q⟩ := HM1.out.cell_block e.symm; rw [heap_alloc_old _ _ HLT.out, H.out.at_] at q; cases q)).trans ((heap_alloc_old _ _ HLT.out).trans H.out.at_); have f3 : w3.frozen? ⟨b, 3, none⟩ = false := frozen_of_row w3 b 3 _ _ hgb3; have g3 := cell_of_row w3 b 3 _ _ _ hgb3; have HGB3 := Lib.hid hgb3; clear hm3 hg3 hat3 hgb3)
      go_end0
      refine ⟨rfl, ⟨.slice A3 (LE.length + 1) c3, ?_⟩, ?_⟩
      · have hk : ∀ j, BookS w b base j → j ≠ b → (Value.slice Av LE.length cv).ownBlock ≠ some j → (w3.setCell ⟨b, 3, none⟩ (.slice A3 (LE.length + 1) c3)).heap[j]? = w.heap[j]? := fun j q hb hne =>
          (Below.heap_setCell _ _ _ _ hb).trans ((HG3.out.block j (by simp; have := BookS.lt H.out q; omega) (fun e => hne e.symm)).trans (heap_alloc_old _ _ (BookS.lt H.out q)))
        have hneB : ∀ (j : Nat) (cs : Array Value) (t : TypeId), t ≠ 67 → w.heap[j]? = some (.cells cs t (0, 0)) → j ≠ b := fun j cs t ht q e => by
          subst e
          rw [H.out.at_] at q
          cases q
          exact ht rfl
        refine ⟨?_, ?_, ?_, ?_, ?_⟩
        · rw [heap_setCell_same _ _ _ _ _ _ HGB3.out]; rfl
        · rw [List.map_append]
          exact HM3.out.same fun j hj => Below.heap_setCell _ _ _ _ fun e => by
            obtain ⟨cs, q⟩ := HM3.out.cell_block hj
            rw [show j = b from e, HGB3.out] at q; cases q
        · refine H.out.c.same fun j hj => ?_
          obtain ⟨cs, q⟩ := H.out.c.cell_block hj
          refine hk j (.inr ⟨(H.out.c.lt j hj).1, cs, _, q, .inr (.inl rfl)⟩) (hneB j _ _ (by decide) q) fun e => ?_
          obtain ⟨cs', q'⟩ := H.out.e.cell_block e
          rw [q] at q'; cases q'
        · refine H.out.r.same fun j hj => ?_
          obtain ⟨cs, q⟩ := H.out.r.cell_block hj
          refine hk j (.inr ⟨(H.out.r.lt j hj).1, cs, _, q, .inr (.inr (.inl rfl))⟩) (hneB j _ _ (by decide) q) fun e => ?_
          obtain ⟨cs', q'⟩ := H.out.e.cell_block e
          rw [q] at q'; cases q'
        · refine H.out.s.same fun j hj => ?_
          obtain ⟨cs, q⟩ := H.out.s.cell_block hj
          refine hk j (.inr ⟨(H.out.s.lt j hj).1, cs, _, q, .inr (.inr (.inr rfl))⟩) (hneB j _ _ (by decide) q) fun e => ?_
          obtain ⟨cs', q'⟩ := H.out.e.cell_block e
          rw [q] at q'; cases q'
      · refine ⟨HG3.out.os, HG3.out.tape, HG3.out.output, ?_, fun j hj hn => ?_⟩
        · have h9 := HG3.out.size
          simp [World.setCell] at h9 ⊢
          omega
        · refine (Below.heap_setCell _ _ _ _ (fun e => hn (.inl e))).trans ((HG3.out.block j (by simp; omega) (fun e => ?_)).trans (heap_alloc_old _ _ hj))
          exact hn (.inr e.symm)
theorem bookEntry (b base : Nat) (vE vC vR vS : Value) (LE LC LR LS : List Bk) (A : Option Addr) (n c : Nat) (hA : ∀ ad, A = some ad → ∃ g, ad = ⟨g, 0, none⟩) (hA0 : A = none → n = 0) (w : World) (h : BookC w b base vE vC vR vS LE LC LR LS) (hl : LE.length ≤ 900) (hbase : base ≤ w.heap.size) :
    Calls Try.prog 29 #[.pointer (some ⟨b, 0, none⟩), .slice A n c] w fun e w' => e = .returned (.tuple #[]) ∧ (∃ v', BookC w' b base v' vC vR vS (LE ++ bkOf (.slice A n c)) LC LR LS) ∧ Kept (BookS w b base) w w' :=
  (bookEntryP b base vE vC vR vS LE LC LR LS A n c hA hA0 w h hl hbase).mono fun e w' ⟨h1, h2, h3⟩ => ⟨h1, h2, h3.mono fun j _ q => by
    rcases q with q | q
    · exact .inl q
    · obtain ⟨cs, q'⟩ := h.e.cell_block q
      exact .inr ⟨(h.e.lt j q).1, cs, _, q', .inl rfl⟩⟩

set_option maxRecDepth 100000 in
set_option maxHeartbeats 1600000 in
theorem bookCellP (b base : Nat) (vE vC vR vS : Value) (LE LC LR LS : List Bk) (A : Option Addr) (n c : Nat) (hA : ∀ ad, A = some ad → ∃ g, ad = ⟨g, 0, none⟩) (hA0 : A = none → n = 0) (w : World) (h : BookC w b base vE vC vR vS LE LC LR LS) (hl : LC.length ≤ 900) (hbase : base ≤ w.heap.size) :
    Calls Try.prog 30 #[.pointer (some ⟨b, 0, none⟩), .slice A n c] w fun e w' => e = .returned (.tuple #[]) ∧ (∃ v', BookC w' b base vE v' vR vS LE (LC ++ bkOf (.slice A n c)) LR LS) ∧ Kept (fun j => j = b ∨ vC.ownBlock = some j) w w' := by
  cases n with
  | zero =>
    have e0 : bkOf (.slice A 0 c) = [] := by cases A <;> simp [bkOf]
    rw [e0]
    have H := Lib.hid h
    clear h e0
    go_enter Try.func30, Try.ntmps30
    go_wp2_with fail
    go_end0
    exact ⟨rfl, ⟨vC, by first | exact H.out | (rw [List.append_nil]; exact H.out)⟩, Kept.refl _ _⟩
  | succ n =>
    cases A with
    | none => exact absurd (hA0 rfl) (by omega)
    | some ad =>
      obtain ⟨g, rfl⟩ := hA ad rfl
      have e0 : bkOf (.slice (some ⟨g, 0, none⟩) (n + 1) c) = [⟨g, n + 1, c⟩] := by simp [bkOf]
      rw [e0]
      have H := Lib.hid h
      have hm := h.c
      obtain ⟨Av, cv, hv, hcv⟩ := hm.form
      have hlen : (LC.map Bk.x).length = LC.length := List.length_map _
      rw [hlen] at hv hcv
      subst hv
      have g4 : w.cell? ⟨b, 4, none⟩ = some (.slice Av LC.length cv) := cell_of_row w b 4 _ _ _ h.at_
      have HM1 := Lib.hid (hm.alloc (.cells #[.slice (some ⟨g, 0, none⟩) (n + 1) c] 41))
      have HR1 := Lib.hid (rd_one encSlc w (Bk.x ⟨g, n + 1, c⟩) #[.slice (some ⟨g, 0, none⟩) (n + 1) c] rfl 41)
      have HLN := Lib.hid hlen
      obtain ⟨N, hN⟩ : ∃ N, N = n + 1 := ⟨_, rfl⟩
      have hN0 : 0 < N := by omega
      have hN1 : decide ((0:Int) < (N:Int)) = true := decide_eq_true (by omega)
      rw [← hN] at HM1 HR1 ⊢
      have HLT : Hid (b < w.heap.size) := h.lt
      clear h hm hlen e0 hA hA0 hN
      go_enter Try.func30, Try.ntmps30
      go_wp2_with (at_builtin; refine wpList_app (v := .slice Av LC.length cv) (xs := LC.map Bk.x) (ys := [Bk.x ⟨g, N, c⟩]) rowsCellB encSlc rfl (.tmp 11) (.tmp 13) rfl base rfl HM1.out rfl rfl HR1.out (by rw [HLN.out]; simp only [List.length_singleton]; omega) (by rw [HLN.out]; unfold maxLen; simp only [List.length_singleton]; omega) (by simp; omega) ?_; intro v3 w3 hm3 hg3 hat3; obtain ⟨A3, c3, hv3, hc3⟩ := hm3.form; rw [List.length_append, List.length_singleton, HLN.out] at hv3; subst hv3; have HM3 := Lib.hid hm3; have HG3 := Lib.hid hg3; have hgb3 := (hg3.block b (by simp; have := HLT.out; omega) (fun e => by obtain ⟨cs, q⟩ := HM1.out.cell_block e.symm; rw [heap_alloc_old _ _ HLT.out, H.out.at_] at q; cases q)).trans ((heap_alloc_old _ _ HLT.out).trans H.out.at_); have f3 : w3.frozen? ⟨b, 4, none⟩ = false := frozen_of_row w3 b 4 _ _ hgb3; have g3 := cell_of_row w3 b 4 _ _ _ hgb3; have HGB3 := Lib.hid hgb3; clear hm3 hg3 hat3 hgb3)
      go_end0
      refine ⟨rfl, ⟨.slice A3 (LC.length + 1) c3, ?_⟩, ?_⟩
      · have hk : ∀ j, BookS w b base j → j ≠ b → (Value.slice Av LC.length cv).ownBlock ≠ some j → (w3.setCell ⟨b, 4, none⟩ (.slice A3 (LC.length + 1) c3)).heap[j]? = w.heap[j]? := fun j q hb hne =>
          (Below.heap_setCell _ _ _ _ hb).trans ((HG3.out.block j (by simp; have := BookS.lt H.out q; omega) (fun e => hne e.symm)).trans (heap_alloc_old _ _ (BookS.lt H.out q)))
        have hneB : ∀ (j : Nat) (cs : Array Value) (t : TypeId), t ≠ 67 → w.heap[j]? = some (.cells cs t (0, 0)) → j ≠ b := fun j cs t ht q e => by
          subst e
          rw [H.out.at_] at q
          cases q
          exact ht rfl
        refine ⟨?_, ?_, ?_, ?_, ?_⟩
        · rw [heap_setCell_same _ _ _ _ _ _ HGB3.out]; rfl
        · refine H.out.e.same fun j hj => ?_
          obtain ⟨cs, q⟩ := H.out.e.cell_block hj
          refine hk j (.inr ⟨(H.out.e.lt j hj).1, cs, _, q, .inl rfl⟩) (hneB j _ _ (by decide) q) fun e => ?_
          obtain ⟨cs', q'⟩ := H.out.c.cell_block e
          rw [q] at q'; cases q'
        · rw [List.map_append]
          exact HM3.out.same fun j hj => Below.heap_setCell _ _ _ _ fun e => by
            obtain ⟨cs, q⟩ := HM3.out.cell_block hj
            rw [show j = b from e, HGB3.out] at q; cases q
        · refine H.out.r.same fun j hj => ?_
          obtain ⟨cs, q⟩ := H.out.r.cell_block hj
          refine hk j (.inr ⟨(H.out.r.lt j hj).1, cs, _, q, .inr (.inr (.inl rfl))⟩) (hneB j _ _ (by decide) q) fun e => ?_
          obtain ⟨cs', q'⟩ := H.out.c.cell_block e
          rw [q] at q'; cases q'
        · refine H.out.s.same fun j hj => ?_
          obtain ⟨cs, q⟩ := H.out.s.cell_block hj
          refine hk j (.inr ⟨(H.out.s.lt j hj).1, cs, _, q, .inr (.inr (.inr rfl))⟩) (hneB j _ _ (by decide) q) fun e => ?_
          obtain ⟨cs', q'⟩ := H.out.c.cell_block e
          rw [q] at q'; cases q'
      · refine ⟨HG3.out.os, HG3.out.tape, HG3.out.output, ?_, fun j hj hn => ?_⟩
        · have h9 := HG3.out.size
          simp [World.setCell] at h9 ⊢
          omega
        · refine (Below.heap_setCell _ _ _ _ (fun e => hn (.inl e))).trans ((HG3.out.block j (by simp; omega) (fun e => ?_)).trans (heap_alloc_old _ _ hj))
          exact hn (.inr e.symm)
theorem bookCell (b base : Nat) (vE vC vR vS : Value) (LE LC LR LS : List Bk) (A : Option Addr) (n c : Nat) (hA : ∀ ad, A = some ad → ∃ g, ad = ⟨g, 0, none⟩) (hA0 : A = none → n = 0) (w : World) (h : BookC w b base vE vC vR vS LE LC LR LS) (hl : LC.length ≤ 900) (hbase : base ≤ w.heap.size) :
    Calls Try.prog 30 #[.pointer (some ⟨b, 0, none⟩), .slice A n c] w fun e w' => e = .returned (.tuple #[]) ∧ (∃ v', BookC w' b base vE v' vR vS LE (LC ++ bkOf (.slice A n c)) LR LS) ∧ Kept (BookS w b base) w w' :=
  (bookCellP b base vE vC vR vS LE LC LR LS A n c hA hA0 w h hl hbase).mono fun e w' ⟨h1, h2, h3⟩ => ⟨h1, h2, h3.mono fun j _ q => by
    rcases q with q | q
    · exact .inl q
    · obtain ⟨cs, q'⟩ := h.c.cell_block q
      exact .inr ⟨(h.c.lt j q).1, cs, _, q', .inr (.inl rfl)⟩⟩

set_option maxRecDepth 100000 in
set_option maxHeartbeats 1600000 in
theorem bookRowP (b base : Nat) (vE vC vR vS : Value) (LE LC LR LS : List Bk) (A : Option Addr) (n c : Nat) (hA : ∀ ad, A = some ad → ∃ g, ad = ⟨g, 0, none⟩) (hA0 : A = none → n = 0) (w : World) (h : BookC w b base vE vC vR vS LE LC LR LS) (hl : LR.length ≤ 900) (hbase : base ≤ w.heap.size) :
    Calls Try.prog 45 #[.pointer (some ⟨b, 0, none⟩), .slice A n c] w fun e w' => e = .returned (.tuple #[]) ∧ (∃ v', BookC w' b base vE vC v' vS LE LC (LR ++ bkOf (.slice A n c)) LS) ∧ Kept (fun j => j = b ∨ vR.ownBlock = some j) w w' := by
  cases n with
  | zero =>
    have e0 : bkOf (.slice A 0 c) = [] := by cases A <;> simp [bkOf]
    rw [e0]
    have H := Lib.hid h
    clear h e0
    go_enter Try.func45, Try.ntmps45
    go_wp2_with fail
    go_end0
    exact ⟨rfl, ⟨vR, by first | exact H.out | (rw [List.append_nil]; exact H.out)⟩, Kept.refl _ _⟩
  | succ n =>
    cases A with
    | none => exact absurd (hA0 rfl) (by omega)
    | some ad =>
      obtain ⟨g, rfl⟩ := hA ad rfl
      have e0 : bkOf (.slice (some ⟨g, 0, none⟩) (n + 1) c) = [⟨g, n + 1, c⟩] := by simp [bkOf]
      rw [e0]
      have H := Lib.hid h
      have hm := h.r
      obtain ⟨Av, cv, hv, hcv⟩ := hm.form
      have hlen : (LR.map Bk.x).length = LR.length := List.length_map _
      rw [hlen] at hv hcv
      subst hv
      have g4 : w.cell? ⟨b, 5, none⟩ = some (.slice Av LR.length cv) := cell_of_row w b 5 _ _ _ h.at_
      have HM1 := Lib.hid (hm.alloc (.cells #[.slice (some ⟨g, 0, none⟩) (n + 1) c] 76))
      have HR1 := Lib.hid (rd_one encSlc w (Bk.x ⟨g, n + 1, c⟩) #[.slice (some ⟨g, 0, none⟩) (n + 1) c] rfl 76)
      have HLN := Lib.hid hlen
      obtain ⟨N, hN⟩ : ∃ N, N = n + 1 := ⟨_, rfl⟩
      have hN0 : 0 < N := by omega
      have hN1 : decide ((0:Int) < (N:Int)) = true := decide_eq_true (by omega)
      rw [← hN] at HM1 HR1 ⊢
      have HLT : Hid (b < w.heap.size) := h.lt
      clear h hm hlen e0 hA hA0 hN
      go_enter Try.func45, Try.ntmps45
      go_wp2_with (at_builtin; refine wpList_app (v := .slice Av LR.length cv) (xs := LR.map Bk.x) (ys := [Bk.x ⟨g, N, c⟩]) rowsRowB encSlc rfl (.tmp 11) (.tmp 13) rfl base rfl HM1.out rfl rfl HR1.out (by rw [HLN.out]; simp only [List.length_singleton]; omega) (by rw [HLN.out]; unfold maxLen; simp only [List.length_singleton]; omega) (by simp; omega) ?_; intro v3 w3 hm3 hg3 hat3; obtain ⟨A3, c3, hv3, hc3⟩ := hm3.form; rw [List.length_append, List.length_singleton, HLN.out] at hv3; subst hv3; have HM3 := Lib.hid hm3; have HG3 := Lib.hid hg3; have hgb3 := (hg3.block b (by simp; have := HLT.out; omega) (fun e => by obtain ⟨cs, q⟩ := HM1.out.cell_block e.symm; rw [heap_alloc_old _ _ HLT.out, H.out.at_] at q; cases q)).trans ((heap_alloc_old _ _ HLT.out).trans H.out.at_); have f3 : w3.frozen? ⟨b, 5, none⟩ = false := frozen_of_row w3 b 5 _ _ hgb3; have g3 := cell_of_row w3 b 5 _ _ _ hgb3; have HGB3 := Lib.hid hgb3; clear hm3 hg3 hat3 hgb3)
      go_end0
      refine ⟨rfl, ⟨.slice A3 (LR.length + 1) c3, ?_⟩, ?_⟩
      · have hk : ∀ j, BookS w b base j → j ≠ b → (Value.slice Av LR.length cv).ownBlock ≠ some j → (w3.setCell ⟨b, 5, none⟩ (.slice A3 (LR.length + 1) c3)).heap[j]? = w.heap[j]? := fun j q hb hne =>
          (Below.heap_setCell _ _ _ _ hb).trans ((HG3.out.block j (by simp; have := BookS.lt H.out q; omega) (fun e => hne e.symm)).trans (heap_alloc_old _ _ (BookS.lt H.out q)))
        have hneB : ∀ (j : Nat) (cs : Array Value) (t : TypeId), t ≠ 67 → w.heap[j]? = some (.cells cs t (0, 0)) → j ≠ b := fun j cs t ht q e => by
          subst e
          rw [H.out.at_] at q
          cases q
          exact ht rfl
        refine ⟨?_, ?_, ?_, ?_, ?_⟩
        · rw [heap_setCell_same _ _ _ _ _ _ HGB3.out]; rfl
        · refine H.out.e.same fun j hj => ?_
          obtain ⟨cs, q⟩ := H.out.e.cell_block hj
          refine hk j (.inr ⟨(H.out.e.lt j hj).1, cs, _, q, .inl rfl⟩) (hneB j _ _ (by decide) q) fun e => ?_
          obtain ⟨cs', q'⟩ := H.out.r.cell_block e
          rw [q] at q'; cases q'
        · refine H.out.c.same fun j hj => ?_
          obtain ⟨cs, q⟩ := H.out.c.cell_block hj
          refine hk j (.inr ⟨(H.out.c.lt j hj).1, cs, _, q, .inr (.inl rfl)⟩) (hneB j _ _ (by decide) q) fun e => ?_
          obtain ⟨cs', q'⟩ := H.out.r.cell_block e
          rw [q] at q'; cases q'
        · rw [List.map_append]
          exact HM3.out.same fun j hj => Below.heap_setCell _ _ _ _ fun e => by
            obtain ⟨cs, q⟩ := HM3.out.cell_block hj
            rw [show j = b from e, HGB3.out] at q; cases q
        · refine H.out.s.same fun j hj => ?_
          obtain ⟨cs, q⟩ := H.out.s.cell_block hj
          refine hk j (.inr ⟨(H.out.s.lt j hj).1, cs, _, q, .inr (.inr (.inr rfl))⟩) (hneB j _ _ (by decide) q) fun e => ?_
          obtain ⟨cs', q'⟩ := H.out.r.cell_block e
          rw [q] at q'; cases q'
      · refine ⟨HG3.out.os, HG3.out.tape, HG3.out.output, ?_, fun j hj hn => ?_⟩
        · have h9 := HG3.out.size
          simp [World.setCell] at h9 ⊢
          omega
        · refine (Below.heap_setCell _ _ _ _ (fun e => hn (.inl e))).trans ((HG3.out.block j (by simp; omega) (fun e => ?_)).trans (heap_alloc_old _ _ hj))
          exact hn (.inr e.symm)
theorem bookRow (b base : Nat) (vE vC vR vS : Value) (LE LC LR LS : List Bk) (A : Option Addr) (n c : Nat) (hA : ∀ ad, A = some ad → ∃ g, ad = ⟨g, 0, none⟩) (hA0 : A = none → n = 0) (w : World) (h : BookC w b base vE vC vR vS LE LC LR LS) (hl : LR.length ≤ 900) (hbase : base ≤ w.heap.size) :
    Calls Try.prog 45 #[.pointer (some ⟨b, 0, none⟩), .slice A n c] w fun e w' => e = .returned (.tuple #[]) ∧ (∃ v', BookC w' b base vE vC v' vS LE LC (LR ++ bkOf (.slice A n c)) LS) ∧ Kept (BookS w b base) w w' :=
  (bookRowP b base vE vC vR vS LE LC LR LS A n c hA hA0 w h hl hbase).mono fun e w' ⟨h1, h2, h3⟩ => ⟨h1, h2, h3.mono fun j _ q => by
    rcases q with q | q
    · exact .inl q
    · obtain ⟨cs, q'⟩ := h.r.cell_block q
      exact .inr ⟨(h.r.lt j q).1, cs, _, q', .inr (.inr (.inl rfl))⟩⟩

set_option maxRecDepth 100000 in
set_option maxHeartbeats 1600000 in
theorem bookResP (b base : Nat) (vE vC vR vS : Value) (LE LC LR LS : List Bk) (A : Option Addr) (n c : Nat) (hA : ∀ ad, A = some ad → ∃ g, ad = ⟨g, 0, none⟩) (hA0 : A = none → n = 0) (w : World) (h : BookC w b base vE vC vR vS LE LC LR LS) (hl : LS.length ≤ 900) (hbase : base ≤ w.heap.size) :
    Calls Try.prog 31 #[.pointer (some ⟨b, 0, none⟩), .slice A n c] w fun e w' => e = .returned (.tuple #[]) ∧ (∃ v', BookC w' b base vE vC vR v' LE LC LR (LS ++ bkOf (.slice A n c))) ∧ Kept (fun j => j = b ∨ vS.ownBlock = some j) w w' := by
  cases n with
  | zero =>
    have e0 : bkOf (.slice A 0 c) = [] := by cases A <;> simp [bkOf]
    rw [e0]
    have H := Lib.hid h
    clear h e0
    go_enter Try.func31, Try.ntmps31
    go_wp2_with fail
    go_end0
    exact ⟨rfl, ⟨vS, by first | exact H.out | (rw [List.append_nil]; exact H.out)⟩, Kept.refl _ _⟩
  | succ n =>
    cases A with
    | none => exact absurd (hA0 rfl) (by omega)
    | some ad =>
      obtain ⟨g, rfl⟩ := hA ad rfl
      have e0 : bkOf (.slice (some ⟨g, 0, none⟩) (n + 1) c) = [⟨g, n + 1, c⟩] := by simp [bkOf]
      rw [e0]
      have H := Lib.hid h
      have hm := h.s
      obtain ⟨Av, cv, hv, hcv⟩ := hm.form
      have hlen : (LS.map Bk.x).length = LS.length := List.length_map _
      rw [hlen] at hv hcv
      subst hv
      have g4 : w.cell? ⟨b, 6, none⟩ = some (.slice Av LS.length cv) := cell_of_row w b 6 _ _ _ h.at_
      have HM1 := Lib.hid (hm.alloc (.cells #[.slice (some ⟨g, 0, none⟩) (n + 1) c] 42))
      have HR1 := Lib.hid (rd_one encSlc w (Bk.x ⟨g, n + 1, c⟩) #[.slice (some ⟨g, 0, none⟩) (n + 1) c] rfl 42)
      have HLN := Lib.hid hlen
      obtain ⟨N, hN⟩ : ∃ N, N = n + 1 := ⟨_, rfl⟩
      have hN0 : 0 < N := by omega
      have hN1 : decide ((0:Int) < (N:Int)) = true := decide_eq_true (by omega)
      rw [← hN] at HM1 HR1 ⊢
      have HLT : Hid (b < w.heap.size) := h.lt
      clear h hm hlen e0 hA hA0 hN
      go_enter Try.func31, Try.ntmps31
      go_wp2_with (at_builtin; refine wpList_app (v := .slice Av LS.length cv) (xs := LS.map Bk.x) (ys := [Bk.x ⟨g, N, c⟩]) rowsResB encSlc rfl (.tmp 11) (.tmp 13) rfl base rfl HM1.out rfl rfl HR1.out (by rw [HLN.out]; simp only [List.length_singleton]; omega) (by rw [HLN.out]; unfold maxLen; simp only [List.length_singleton]; omega) (by simp; omega) ?_; intro v3 w3 hm3 hg3 hat3; obtain ⟨A3, c3, hv3, hc3⟩ := hm3.form; rw [List.length_append, List.length_singleton, HLN.out] at hv3; subst hv3; have HM3 := Lib.hid hm3; have HG3 := Lib.hid hg3; have hgb3 := (hg3.block b (by simp; have := HLT.out; omega) (fun e => by obtain ⟨cs, q⟩ := HM1.out.cell_block e.symm; rw [heap_alloc_old _ _ HLT.out, H.out.at_] at q; cases q)).trans ((heap_alloc_old _ _ HLT.out).trans H.out.at_); have f3 : w3.frozen? ⟨b, 6, none⟩ = false := frozen_of_row w3 b 6 _ _ hgb3; have g3 := cell_of_row w3 b 6 _ _ _ hgb3; have HGB3 := Lib.hid hgb3; clear hm3 hg3 hat3 hgb3)
      go_end0
      refine ⟨rfl, ⟨.slice A3 (LS.length + 1) c3, ?_⟩, ?_⟩
      · have hk : ∀ j, BookS w b base j → j ≠ b → (Value.slice Av LS.length cv).ownBlock ≠ some j → (w3.setCell ⟨b, 6, none⟩ (.slice A3 (LS.length + 1) c3)).heap[j]? = w.heap[j]? := fun j q hb hne =>
          (Below.heap_setCell _ _ _ _ hb).trans ((HG3.out.block j (by simp; have := BookS.lt H.out q; omega) (fun e => hne e.symm)).trans (heap_alloc_old _ _ (BookS.lt H.out q)))
        have hneB : ∀ (j : Nat) (cs : Array Value) (t : TypeId), t ≠ 67 → w.heap[j]? = some (.cells cs t (0, 0)) → j ≠ b := fun j cs t ht q e => by
          subst e
          rw [H.out.at_] at q
          cases q
          exact ht rfl
        refine ⟨?_, ?_, ?_, ?_, ?_⟩
        · rw [heap_setCell_same _ _ _ _ _ _ HGB3.out]; rfl
        · refine H.out.e.same fun j hj => ?_
          obtain ⟨cs, q⟩ := H.out.e.cell_block hj
          refine hk j (.inr ⟨(H.out.e.lt j hj).1, cs, _, q, .inl rfl⟩) (hneB j _ _ (by decide) q) fun e => ?_
          obtain ⟨cs', q'⟩ := H.out.s.cell_block e
          rw [q] at q'; cases q'
        · refine H.out.c.same fun j hj => ?_
          obtain ⟨cs, q⟩ := H.out.c.cell_block hj
          refine hk j (.inr ⟨(H.out.c.lt j hj).1, cs, _, q, .inr (.inl rfl)⟩) (hneB j _ _ (by decide) q) fun e => ?_
          obtain ⟨cs', q'⟩ := H.out.s.cell_block e
          rw [q] at q'; cases q'
        · refine H.out.r.same fun j hj => ?_
          obtain ⟨cs, q⟩ := H.out.r.cell_block hj
          refine hk j (.inr ⟨(H.out.r.lt j hj).1, cs, _, q, .inr (.inr (.inl rfl))⟩) (hneB j _ _ (by decide) q) fun e => ?_
          obtain ⟨cs', q'⟩ := H.out.s.cell_block e
          rw [q] at q'; cases q'
        · rw [List.map_append]
          exact HM3.out.same fun j hj => Below.heap_setCell _ _ _ _ fun e => by
            obtain ⟨cs, q⟩ := HM3.out.cell_block hj
            rw [show j = b from e, HGB3.out] at q; cases q
      · refine ⟨HG3.out.os, HG3.out.tape, HG3.out.output, ?_, fun j hj hn => ?_⟩
        · have h9 := HG3.out.size
          simp [World.setCell] at h9 ⊢
          omega
        · refine (Below.heap_setCell _ _ _ _ (fun e => hn (.inl e))).trans ((HG3.out.block j (by simp; omega) (fun e => ?_)).trans (heap_alloc_old _ _ hj))
          exact hn (.inr e.symm)
theorem bookRes (b base : Nat) (vE vC vR vS : Value) (LE LC LR LS : List Bk) (A : Option Addr) (n c : Nat) (hA : ∀ ad, A = some ad → ∃ g, ad = ⟨g, 0, none⟩) (hA0 : A = none → n = 0) (w : World) (h : BookC w b base vE vC vR vS LE LC LR LS) (hl : LS.length ≤ 900) (hbase : base ≤ w.heap.size) :
    Calls Try.prog 31 #[.pointer (some ⟨b, 0, none⟩), .slice A n c] w fun e w' => e = .returned (.tuple #[]) ∧ (∃ v', BookC w' b base vE vC vR v' LE LC LR (LS ++ bkOf (.slice A n c))) ∧ Kept (BookS w b base) w w' :=
  (bookResP b base vE vC vR vS LE LC LR LS A n c hA hA0 w h hl hbase).mono fun e w' ⟨h1, h2, h3⟩ => ⟨h1, h2, h3.mono fun j _ q => by
    rcases q with q | q
    · exact .inl q
    · obtain ⟨cs, q'⟩ := h.s.cell_block q
      exact .inr ⟨(h.s.lt j q).1, cs, _, q', .inr (.inr (.inr rfl))⟩⟩
end Go.Proofs.Ytnfilklgogaheaa

namespace Go.Proofs.Ytnfilklgogaheaa
open Go.RowKit
set_option linter.unusedVariables false
set_option linter.unusedSimpArgs false

section
variable {α : Type} {enc : α → List Value} {k : Nat} {e : TypeId} {base : Nat} {w w' : World}
/-- Values that calls handed out: each in memory of its own, no two in one block. -/
structure Outs (enc : α → List Value) (k : Nat) (e : TypeId) (base : Nat) (w : World) (V : List (Value × List α)) : Prop where
  made : ∀ p ∈ V, Made enc k e base w p.1 p.2
  apart : V.Pairwise (fun p q => ∀ j, p.1.ownBlock = some j → q.1.ownBlock ≠ some j)
theorem Outs.nil : Outs enc k e base w [] := ⟨fun p h => by simp at h, List.Pairwise.nil⟩
theorem Outs.keep {V : List (Value × List α)} (h : Outs enc k e base w V) (hk : ∀ j, j < w.heap.size → base ≤ j → (∃ cs, w.heap[j]? = some (.cells cs e (0, 0))) → w'.heap[j]? = w.heap[j]?) : Outs enc k e base w' V :=
  ⟨fun p hp => (h.made p hp).same fun j hj => hk j ((h.made p hp).lt j hj).2 ((h.made p hp).lt j hj).1 ((h.made p hp).cell_block hj), h.apart⟩
theorem Outs.below {V : List (Value × List α)} (h : Outs enc k e base w V) (hb : Below w.heap.size w w') : Outs enc k e base w' V := h.keep fun j hj _ _ => hb.block j hj
theorem Outs.add {V : List (Value × List α)} (h : Outs enc k e base w V) (hb : Below w.heap.size w w') (hbase : base ≤ w.heap.size) {v : Value} {xs : List α} (hm : Made enc k e w.heap.size w' v xs) : Outs enc k e base w' (V ++ [(v, xs)]) := by
  refine ⟨fun p hp => ?_, List.pairwise_append.2 ⟨h.apart, by simp, fun p hp q hq j hj => ?_⟩⟩
  · rcases List.mem_append.1 hp with hp | hp
    · exact (h.below hb).made p hp
    · rw [List.mem_singleton.1 hp]; exact hm.base' hbase
  · rw [List.mem_singleton.1 hq]
    intro e
    have h1 := ((h.made p hp).lt j hj).2
    have h2 := (hm.lt j e).1
    omega
/-- As the book has them. -/
theorem Outs.lists {V : List (Value × List α)} (h : Outs enc k e base w V) : Lists enc k e base w (V.flatMap fun p => bkOf p.1) := by
  have key : ∀ p ∈ V, ∀ b ∈ bkOf p.1, p.1 = b.v ∧ b.n = p.2.length := fun p hp b hb => by
    have hm := h.made p hp
    obtain ⟨v, xs⟩ := p
    rcases hm.2 with ⟨hv, hn⟩ | ⟨g, cap, cur, hv, _⟩
    · simp only at hv; subst hv; simp [bkOf] at hb
    · simp only at hv; subst hv
      unfold bkOf at hb
      by_cases h0 : xs.length = 0
      · simp [h0] at hb
      · simp only [if_neg h0, List.mem_singleton] at hb
        subst hb
        exact ⟨rfl, rfl⟩
  constructor
  · intro b hb
    obtain ⟨p, hp, hb⟩ := List.mem_flatMap.1 hb
    obtain ⟨h1, h2⟩ := key p hp b hb
    refine ⟨p.2, h2.symm, ?_⟩
    rw [← h1]
    exact h.made p hp
  · have hap := h.apart
    clear h
    induction V with
    | nil => simp
    | cons p V ih =>
      rw [List.flatMap_cons, List.pairwise_append]
      obtain ⟨h1, h2⟩ := List.pairwise_cons.1 hap
      refine ⟨?_, ih (fun p hp => key p (by simp [hp])) h2, fun a ha b hb => ?_⟩
      · have hl : (bkOf p.1).length ≤ 1 := by unfold bkOf; split <;> (try split) <;> simp
        match hq : bkOf p.1, hl with
        | [], _ => simp
        | [x], _ => simp
      · obtain ⟨q, hq, hb⟩ := List.mem_flatMap.1 hb
        have ka := (key p (by simp) a ha).1
        have kb := (key q (by simp [hq]) b hb).1
        intro e
        refine h1 q hq a.g (by rw [ka]; rfl) ?_
        rw [kb, e]; rfl
theorem Outs.lens {V : List (Value × List α)} (h : Outs enc k e base w V) {m : Nat} (hm : ∀ p ∈ V, p.2.length ≤ m) : ∀ b ∈ (V.flatMap fun p => bkOf p.1), b.n ≤ m := fun b hb => by
  obtain ⟨p, hp, hb⟩ := List.mem_flatMap.1 hb
  have hmd := h.made p hp
  have hl := hm p hp
  obtain ⟨v, xs⟩ := p
  rcases hmd.2 with ⟨hv, hn⟩ | ⟨g, cap, cur, hv, _⟩
  · simp only at hv; subst hv; simp [bkOf] at hb
  · simp only at hv; subst hv
    unfold bkOf at hb
    by_cases h0 : xs.length = 0
    · simp [h0] at hb
    · simp only [if_neg h0, List.mem_singleton] at hb
      subst hb
      exact hl
theorem bkOf_le (v : Value) : (bkOf v).length ≤ 1 := by unfold bkOf; split <;> (try split) <;> simp
theorem outs_length (V : List (Value × List α)) : (V.flatMap fun p => bkOf p.1).length ≤ V.length := by
  induction V with
  | nil => simp
  | cons p V ih => rw [List.flatMap_cons, List.length_append]; have := bkOf_le p.1; simp only [List.length_cons]; omega
theorem Made.addr {A : Option Addr} {n c : Nat} {xs : List α} (h : Made enc k e base w (.slice A n c) xs) : (∀ ad, A = some ad → ∃ g, ad = ⟨g, 0, none⟩) ∧ (A = none → n = 0) := by
  rcases h.2 with ⟨hv, hn⟩ | ⟨g, cap, cur, hv, _⟩
  · injection hv with h1 h2 h3
    subst h1 h2
    exact ⟨fun ad e => (by cases e), fun _ => rfl⟩
  · injection hv with h1 h2 h3
    subst h1
    exact ⟨fun ad e => (by cases e; exact ⟨g, rfl⟩), fun e => (by cases e)⟩
end

theorem keptB {S : Nat → Prop} {B : Nat} {w w1 w2 : World} (h : Below B w w1) (k : Kept S w1 w2) (hs : ∀ j, S j → B ≤ j) (hB : B ≤ w.heap.size) : Below B w w2 :=
  ⟨k.os.trans h.os, k.tape.trans h.tape, k.output.trans h.output, Nat.le_trans h.size k.size, fun j hj => (k.block j (by have := h.size; omega) (fun q => by have := hs j q; omega)).trans (h.block j hj)⟩
section
variable {w W W' : World} {bk : Nat} {vC vS : Value} {LC LS : List Bk}
theorem Outs.sub {α : Type} {enc : α → List Value} {k : Nat} {e : TypeId} {base : Nat} {V V' : List (Value × List α)} (h : Outs enc k e base w V) (hs : V'.Sublist V) : Outs enc k e base w V' := ⟨fun p hp => h.made p (hs.mem hp), h.apart.sublist hs⟩
theorem Lists.other {α : Type} {enc : α → List Value} {k : Nat} {e e' : TypeId} {base : Nat} {S : Nat → Prop} {L : List Bk} (h : Lists enc k e base w L) (hk : Kept S w W') (hS : ∀ j, S j → ∃ cs, w.heap[j]? = some (.cells cs e' (0, 0))) (hne : e ≠ e') : Lists enc k e base W' L := by
  refine ⟨fun l hl => ?_, h.apart⟩
  obtain ⟨xs, h1, h2⟩ := h.made l hl
  refine ⟨xs, h1, h2.same fun j hj => hk.block j (h2.lt j hj).2 fun q => ?_⟩
  obtain ⟨cs, q1⟩ := hS j q
  obtain ⟨cs', q2⟩ := h2.cell_block hj
  rw [q1] at q2; cases q2; exact hne rfl
theorem Lists.types {α : Type} {enc : α → List Value} {k : Nat} {e : TypeId} {base : Nat} {L : List Bk} (h : Lists enc k e base w L) : ∀ j, (∃ l ∈ L, j = l.g) → ∃ cs, w.heap[j]? = some (.cells cs e (0, 0)) := fun j ⟨l, hl, e⟩ => by
  obtain ⟨xs, _, h2⟩ := h.made l hl
  subst e
  exact h2.cell_block rfl
theorem BookC.other {base : Nat} {vE vR : Value} {LE LR : List Bk} {S : Nat → Prop} (h : BookC w bk base vE vC vR vS LE LC LR LS) (hk : Kept S w W') (hS : ∀ j, S j → ∃ cs t, w.heap[j]? = some (.cells cs t (0, 0)) ∧ (t ≠ 67 ∧ t ≠ 22 ∧ t ≠ 41 ∧ t ≠ 76 ∧ t ≠ 42)) : BookC W' bk base vE vC vR vS LE LC LR LS :=
  h.keep fun j q => hk.block j (BookS.lt h q) fun q' => by
    obtain ⟨cs, t, q2, q3⟩ := hS j q'
    exact BookS.ne q (fun e => by subst e; rw [h.at_] at q2; cases q2; exact q3.1 rfl) q2 q3.2
end
end Go.Proofs.Ytnfilklgogaheaa

namespace Go.Proofs.Ytnfilklgogaheaa
open Go.RowKit
set_option linter.unusedVariables false
set_option linter.unusedSimpArgs false

set_option maxRecDepth 100000 in
theorem noneBytes (b : Nat) (w : World) (hc : w.cell? ⟨b, 0, none⟩ = some (.slice none 0 0)) :
    Calls Try.prog 59 #[.pointer (some ⟨b, 0, none⟩)] w fun e w' => e = .returned (.bool true) ∧ w' = w := by
  go_enter Try.func59, Try.ntmps59
  go_wp2_with fail
  refine wp_loop_rounds 1 ?_
  rw [rounds_succ]
  go_wp2_with fail
  refine wp_loop_rounds 1 ?_
  rw [rounds_succ]
  go_wp2_with fail
  refine wp_loop_rounds 1 ?_
  rw [rounds_succ]
  go_wp2_with fail
  go_ret
  exact ⟨rfl, rfl⟩
set_option maxRecDepth 100000 in
theorem noneInts (b : Nat) (w : World) (hc : w.cell? ⟨b, 1, none⟩ = some (.slice none 0 0)) :
    Calls Try.prog 60 #[.pointer (some ⟨b, 0, none⟩)] w fun e w' => e = .returned (.bool true) ∧ w' = w := by
  go_enter Try.func60, Try.ntmps60
  go_wp2_with fail
  refine wp_loop_rounds 1 ?_
  rw [rounds_succ]
  go_wp2_with fail
  refine wp_loop_rounds 1 ?_
  rw [rounds_succ]
  go_wp2_with fail
  refine wp_loop_rounds 1 ?_
  rw [rounds_succ]
  go_wp2_with fail
  go_ret
  exact ⟨rfl, rfl⟩
set_option maxRecDepth 100000 in
theorem noneVector (b : Nat) (w : World) (hc : w.cell? ⟨b, 2, none⟩ = some (.slice none 0 0)) :
    Calls Try.prog 61 #[.pointer (some ⟨b, 0, none⟩)] w fun e w' => e = .returned (.bool true) ∧ w' = w := by
  go_enter Try.func61, Try.ntmps61
  go_wp2_with fail
  refine wp_loop_rounds 1 ?_
  rw [rounds_succ]
  go_wp2_with fail
  refine wp_loop_rounds 1 ?_
  rw [rounds_succ]
  go_wp2_with fail
  refine wp_loop_rounds 1 ?_
  rw [rounds_succ]
  go_wp2_with fail
  go_ret
  exact ⟨rfl, rfl⟩
set_option maxRecDepth 100000 in
theorem noneEntries (b : Nat) (w : World) (hc : w.cell? ⟨b, 3, none⟩ = some (.slice none 0 0)) :
    Calls Try.prog 62 #[.pointer (some ⟨b, 0, none⟩)] w fun e w' => e = .returned (.bool true) ∧ w' = w := by
  go_enter Try.func62, Try.ntmps62
  go_wp2_with fail
  refine wp_loop_rounds 1 ?_
  rw [rounds_succ]
  go_wp2_with fail
  refine wp_loop_rounds 1 ?_
  rw [rounds_succ]
  go_wp2_with fail
  refine wp_loop_rounds 1 ?_
  rw [rounds_succ]
  go_wp2_with fail
  go_ret
  exact ⟨rfl, rfl⟩
set_option maxRecDepth 100000 in
theorem noneCells (b : Nat) (w : World) (hc : w.cell? ⟨b, 4, none⟩ = some (.slice none 0 0)) :
    Calls Try.prog 63 #[.pointer (some ⟨b, 0, none⟩)] w fun e w' => e = .returned (.bool true) ∧ w' = w := by
  go_enter Try.func63, Try.ntmps63
  go_wp2_with fail
  refine wp_loop_rounds 1 ?_
  rw [rounds_succ]
  go_wp2_with fail
  refine wp_loop_rounds 1 ?_
  rw [rounds_succ]
  go_wp2_with fail
  refine wp_loop_rounds 1 ?_
  rw [rounds_succ]
  go_wp2_with fail
  go_ret
  exact ⟨rfl, rfl⟩
set_option maxRecDepth 100000 in
theorem noneRows (b : Nat) (w : World) (hc : w.cell? ⟨b, 5, none⟩ = some (.slice none 0 0)) :
    Calls Try.prog 64 #[.pointer (some ⟨b, 0, none⟩)] w fun e w' => e = .returned (.bool true) ∧ w' = w := by
  go_enter Try.func64, Try.ntmps64
  go_wp2_with fail
  refine wp_loop_rounds 1 ?_
  rw [rounds_succ]
  go_wp2_with fail
  refine wp_loop_rounds 1 ?_
  rw [rounds_succ]
  go_wp2_with fail
  refine wp_loop_rounds 1 ?_
  rw [rounds_succ]
  go_wp2_with fail
  go_ret
  exact ⟨rfl, rfl⟩
set_option maxRecDepth 100000 in
theorem noneResults (b : Nat) (w : World) (hc : w.cell? ⟨b, 6, none⟩ = some (.slice none 0 0)) :
    Calls Try.prog 65 #[.pointer (some ⟨b, 0, none⟩)] w fun e w' => e = .returned (.bool true) ∧ w' = w := by
  go_enter Try.func65, Try.ntmps65
  go_wp2_with fail
  refine wp_loop_rounds 1 ?_
  rw [rounds_succ]
  go_wp2_with fail
  refine wp_loop_rounds 1 ?_
  rw [rounds_succ]
  go_wp2_with fail
  refine wp_loop_rounds 1 ?_
  rw [rounds_succ]
  go_wp2_with fail
  go_ret
  exact ⟨rfl, rfl⟩
set_option maxRecDepth 100000 in
theorem noneStamps (b : Nat) (w : World) (hc : w.cell? ⟨b, 7, none⟩ = some (.slice none 0 0)) :
    Calls Try.prog 66 #[.pointer (some ⟨b, 0, none⟩)] w fun e w' => e = .returned (.bool true) ∧ w' = w := by
  go_enter Try.func66, Try.ntmps66
  go_wp2_with fail
  refine wp_loop_rounds 1 ?_
  rw [rounds_succ]
  go_wp2_with fail
  refine wp_loop_rounds 1 ?_
  rw [rounds_succ]
  go_wp2_with fail
  refine wp_loop_rounds 1 ?_
  rw [rounds_succ]
  go_wp2_with fail
  go_ret
  exact ⟨rfl, rfl⟩
set_option maxRecDepth 100000 in
theorem noneAcks (b : Nat) (w : World) (hc : w.cell? ⟨b, 8, none⟩ = some (.slice none 0 0)) :
    Calls Try.prog 67 #[.pointer (some ⟨b, 0, none⟩)] w fun e w' => e = .returned (.bool true) ∧ w' = w := by
  go_enter Try.func67, Try.ntmps67
  go_wp2_with fail
  refine wp_loop_rounds 1 ?_
  rw [rounds_succ]
  go_wp2_with fail
  refine wp_loop_rounds 1 ?_
  rw [rounds_succ]
  go_wp2_with fail
  refine wp_loop_rounds 1 ?_
  rw [rounds_succ]
  go_wp2_with fail
  go_ret
  exact ⟨rfl, rfl⟩
set_option maxRecDepth 100000 in
theorem noneMarks (b : Nat) (w : World) (hc : w.cell? ⟨b, 9, none⟩ = some (.slice none 0 0)) :
    Calls Try.prog 68 #[.pointer (some ⟨b, 0, none⟩)] w fun e w' => e = .returned (.bool true) ∧ w' = w := by
  go_enter Try.func68, Try.ntmps68
  go_wp2_with fail
  refine wp_loop_rounds 1 ?_
  rw [rounds_succ]
  go_wp2_with fail
  refine wp_loop_rounds 1 ?_
  rw [rounds_succ]
  go_wp2_with fail
  refine wp_loop_rounds 1 ?_
  rw [rounds_succ]
  go_wp2_with fail
  go_ret
  exact ⟨rfl, rfl⟩
set_option maxRecDepth 100000 in
set_option maxHeartbeats 1600000 in
theorem apartAll (b : Nat) (J0 J1 J2 J3 J4 : World → Prop) (S : Nat → Prop) (hJ : ∀ W, J0 W ∨ J4 W → ∀ f, f < 3 ∨ 6 < f ∧ f < 10 → W.cell? ⟨b, f, none⟩ = some (.slice none 0 0))
    (HE : ∀ W, J0 W → Calls Try.prog 62 #[.pointer (some ⟨b, 0, none⟩)] W fun e w' => e = .returned (.bool true) ∧ J1 w' ∧ Kept S W w')
    (HC : ∀ W, J1 W → Calls Try.prog 63 #[.pointer (some ⟨b, 0, none⟩)] W fun e w' => e = .returned (.bool true) ∧ J2 w' ∧ Kept S W w')
    (HR : ∀ W, J2 W → Calls Try.prog 64 #[.pointer (some ⟨b, 0, none⟩)] W fun e w' => e = .returned (.bool true) ∧ J3 w' ∧ Kept S W w')
    (HS : ∀ W, J3 W → Calls Try.prog 65 #[.pointer (some ⟨b, 0, none⟩)] W fun e w' => e = .returned (.bool true) ∧ J4 w' ∧ Kept S W w')
    (w : World) (h : J0 w) :
    Calls Try.prog 32 #[.pointer (some ⟨b, 0, none⟩)] w fun e w' => e = .returned (.bool true) ∧ J4 w' ∧ Kept S w w' := by
  have H0 := Lib.hid hJ
  have H1 := Lib.hid HE
  have H2 := Lib.hid HC
  have H3 := Lib.hid HR
  have H4 := Lib.hid HS
  have HJ := Lib.hid h
  clear hJ HE HC HR HS h
  go_enter Try.func32, Try.ntmps32
  go_wp2_with (first
    | (go_at_call 59; refine (noneBytes b _ (H0.out _ (.inl HJ.out) 0 (by omega))).mono ?_; rintro e w' ⟨rfl, hw'⟩; rw [hw']; clear hw' w')
    | (go_at_call 60; refine (noneInts b _ (H0.out _ (.inl HJ.out) 1 (by omega))).mono ?_; rintro e w' ⟨rfl, hw'⟩; rw [hw']; clear hw' w')
    | (go_at_call 61; refine (noneVector b _ (H0.out _ (.inl HJ.out) 2 (by omega))).mono ?_; rintro e w' ⟨rfl, hw'⟩; rw [hw']; clear hw' w')
    | (go_at_call 62; refine (H1.out _ HJ.out).mono ?_; rintro e w1 ⟨rfl, hj1, hk1⟩; have HJ1 := Lib.hid hj1; have HK1 := Lib.hid hk1; clear hj1 hk1)
    | (go_at_call 63; refine (H2.out _ HJ1.out).mono ?_; rintro e w2 ⟨rfl, hj2, hk2⟩; have HJ2 := Lib.hid hj2; have HK2 := Lib.hid (HK1.out.trans hk2); clear hj2 hk2)
    | (go_at_call 64; refine (H3.out _ HJ2.out).mono ?_; rintro e w3 ⟨rfl, hj3, hk3⟩; have HJ3 := Lib.hid hj3; have HK3 := Lib.hid (HK2.out.trans hk3); clear hj3 hk3)
    | (go_at_call 65; refine (H4.out _ HJ3.out).mono ?_; rintro e w4 ⟨rfl, hj4, hk4⟩; have HJ4 := Lib.hid hj4; have HK4 := Lib.hid (HK3.out.trans hk4); clear hj4 hk4)
    | (go_at_call 66; refine (noneStamps b _ (H0.out _ (.inr HJ4.out) 7 (by omega))).mono ?_; rintro e w' ⟨rfl, hw'⟩; rw [hw']; clear hw' w')
    | (go_at_call 67; refine (noneAcks b _ (H0.out _ (.inr HJ4.out) 8 (by omega))).mono ?_; rintro e w' ⟨rfl, hw'⟩; rw [hw']; clear hw' w')
    | (go_at_call 68; refine (noneMarks b _ (H0.out _ (.inr HJ4.out) 9 (by omega))).mono ?_; rintro e w' ⟨rfl, hw'⟩; rw [hw']; clear hw' w'))
  go_ret
  exact ⟨rfl, HJ4.out, HK4.out⟩
end Go.Proofs.Ytnfilklgogaheaa

namespace Go.Proofs.Ytnfilklgogaheaa
open Go.RowKit
set_option linter.unusedVariables false
set_option linter.unusedSimpArgs false

def mkRow (i k : Nat) : Row := ⟨-1000003 * ((i : Int) + 1) - k, 0, -9, false, ⟨0, 0, ⟨#[]⟩⟩⟩
theorem rowsRow : RowT Try.prog 61 76 1 24 := RowT.of (z := .slice none 0 0) Try.underlying61 (by kernel_rfl) rfl (by omega)
theorem sizeRowBk : (Try.prog.info? 90).map (·.size) = some 7 := by kernel_rfl
set_option maxRecDepth 100000 in
theorem markRowBk (i k : Nat) (w : World) (hi : i ≤ 1000) (hk : k ≤ 140737488355328) : Calls Try.prog 94 #[.int .i64 i, .int .i64 k] w fun e w' => e = .returned (.agg #[.int .i64 (mkRow i k).client, .int .i64 (mkRow i k).number, .int .i64 (mkRow i k).place, .bool (mkRow i k).done, .int .i64 (mkRow i k).res.code, .int .i64 (mkRow i k).res.slot, .string (mkRow i k).res.value]) ∧ Below w.heap.size w w' := by
  unfold mkRow
  simp only
  go_enter Try.func94, Try.ntmps94
  go_wp2
  exact bodyPost_ret (by simp [results, Try.results94, go_sem]) rfl ⟨rfl, (Below.refl _ _).alloc (Nat.le_refl _) _⟩

theorem putRow_eq (W : World) (g o : Nat) (x : Row) : putCells W g o (Row.cells x) = (((((((W.setCell ⟨g, o, none⟩ (.int .i64 x.client)).setCell ⟨g, o + 1, none⟩ (.int .i64 x.number)).setCell ⟨g, o + 2, none⟩ (.int .i64 x.place)).setCell ⟨g, o + 3, none⟩ (.bool x.done)).setCell ⟨g, o + 4, none⟩ (.int .i64 x.res.code)).setCell ⟨g, o + 5, none⟩ (.int .i64 x.res.slot)).setCell ⟨g, o + 6, none⟩ (.string x.res.value)) := rfl

/-- The row of the book's slices, read in any world that keeps all but the lists' own blocks. -/
theorem slicesRow {base : Nat} {w wq : World} {Av : Option Addr} {n cv : Nat} {L : List Bk} (hv : Made slc 1 76 base w (.slice Av n cv) (L.map Bk.x)) (hL : ∀ l ∈ L, ∃ cs, w.heap[l.g]? = some (.cells cs 90 (0, 0))) (hk : Kept (fun j => ∃ l ∈ L, j = l.g) w wq) :
    Made slc 1 76 base wq (.slice Av n cv) (L.map Bk.x) := by
  refine hv.same fun b hb => hk.block b (hv.lt b hb).2 fun ⟨l, hl, e⟩ => ?_
  obtain ⟨cs, h1⟩ := hv.cell_block hb
  obtain ⟨cs', h2⟩ := hL l hl
  subst e
  rw [h2] at h1; cases h1

set_option maxRecDepth 100000 in
set_option maxHeartbeats 8000000 in
theorem apartRow (b : Nat) (v : Value) (L : List Bk) (base : Nat) (w : World) (hc : w.cell? ⟨b, 5, none⟩ = some v) (hv : Made slc 1 76 base w v (L.map Bk.x)) (hl : L.length ≤ 1000) (hn : ∀ l ∈ L, (l.n + 70) * 64 ≤ 140737488355328) (hL : Lists Row.cells 7 90 base w L) (hbase : base ≤ w.heap.size) :
    Calls Try.prog 64 #[.pointer (some ⟨b, 0, none⟩)] w fun e w' => e = .returned (.bool true) ∧ Kept (fun j => ∃ l ∈ L, j = l.g) w w' := by
  obtain ⟨Av, cv, rfl, hcv⟩ := hv.form
  have hLT : ∀ l ∈ L, ∃ cs, w.heap[l.g]? = some (.cells cs 90 (0, 0)) := fun l hl => by
    obtain ⟨xs, _, hm⟩ := hL.made l hl
    exact hm.cell_block rfl
  have HSL := Lib.hid (fun wq (hk : Kept (fun j => ∃ l ∈ L, j = l.g) w wq) => slicesRow hv hLT hk)
  have HN := Lib.hid hn
  have HAP := Lib.hid hL.apart
  have HLL : Hid (∀ l ∈ L, l.g < w.heap.size) := fun l hl => by obtain ⟨xs, _, hm⟩ := hL.made l hl; exact (hm.lt l.g rfl).2
  have HM0 : Hid (MarkedAt mkRow Row.cells 7 90 base w L 0 0) := MarkedAt.start hL
  have hlm : (L.map Bk.x).length = L.length := List.length_map _
  rw [hlm] at HSL hc hcv
  clear hv hLT hn hL hlm hcv
  go_enter Try.func64, Try.ntmps64
  go_wp2_with fail
  go_loopw [4, 5] (fun i _ wr => ∃ p : Nat, p ≤ L.length ∧ i = .int .i64 p ∧ Hid (MarkedAt mkRow Row.cells 7 90 base wr L p 0) ∧ Hid (Kept (fun j => ∃ l ∈ L, j = l.g) w wr)) (fun i _ _ => L.length - (intOf i).toNat)
  case atStart => exact ⟨0, by omega, rfl, HM0.out, Kept.refl _ _⟩
  case round =>
    obtain ⟨p, hp, rfl, hmr, hkr⟩ := hrel
    by_cases h1 : p < L.length
    · have g1 : decide ((p:Int) < (L.length:Int)) = true := decide_eq_true (by omega)
      have g1b : decide (p < L.length) = true := decide_eq_true h1
      have k1 : IntKind.i64.wrap ((p:Int) + 1) = (p:Int) + 1 := IntWalk.i64_in _ (by omega)
      obtain ⟨l, hl0⟩ : ∃ l, l = L[p] := ⟨_, rfl⟩
      have hlp : L[p]? = some l := by rw [hl0]; exact List.getElem?_eq_getElem h1
      have HLP := Lib.hid hlp
      have hnl := HN.out l (List.mem_of_getElem? hlp)
      have hln : l.n ≤ 140737488355328 := by omega
      have hp1 : p ≤ 1000 := by omega
      obtain ⟨av, hAv, hsl0⟩ : ∃ av, Av = some av ∧ ∀ wq, Kept (fun j => ∃ l ∈ L, j = l.g) w wq → wq.cell? (av.add (p * 1)) = some (.slice (some ⟨l.g, 0, none⟩) l.n l.c) := by
        have hx : (L.map Bk.x)[p]? = some l.x := by rw [List.getElem?_map, hlp]; rfl
        obtain ⟨av, e, _, hat⟩ := Made.rd' encSlc.len (HSL.out w (Kept.refl _ _)) p l.x hx
        refine ⟨av, e, fun wq hk => ?_⟩
        obtain ⟨av', e', _, hat⟩ := Made.rd' encSlc.len (HSL.out wq hk) p l.x hx
        rw [e] at e'; cases e'
        exact hat 0 _ rfl
      rw [Nat.mul_one] at hsl0
      subst hAv
      have HSLP := Lib.hid hsl0
      clear hl0 hlp hsl0 hnl
      obtain ⟨g, n, c⟩ := l
      simp only at HSLP hln
      go_wp2_with fail
      go_loopw [5] (fun kk wq => ∃ q : Nat, q ≤ n ∧ kk = .int .i64 q ∧ Hid (MarkedAt mkRow Row.cells 7 90 base wq L p q) ∧ Hid (Kept (fun j => ∃ l ∈ L, j = l.g) w wq)) (fun kk _ => n - (intOf kk).toNat)
      case atStart => exact ⟨0, by omega, rfl, hmr.out, hkr.out⟩
      case round =>
        obtain ⟨q, hq, rfl, hmq, hkq⟩ := hrel
        have w0 := HSLP.out wr hkq.out
        by_cases h2 : q < n
        · have g2 : decide ((q:Int) < (n:Int)) = true := decide_eq_true (by omega)
          have g2b : decide (q < n) = true := decide_eq_true h2
          have k2 : IntKind.i64.wrap ((q:Int) + 1) = (q:Int) + 1 := IntWalk.i64_in _ (by omega)
          have HMK := Lib.hid (fun W => markRowBk p q W hp1 (by omega))
          have i0 : (0:Int) ≤ (q:Int) := by omega
          have i1 : (0:Int) ≤ (p:Int) := by omega
          have i2 : (q:Int) < (n:Int) := by omega
          have i3 : (p:Int) < (L.length:Int) := by omega
          go_wp2_with fail
          go_region_held3 (fun W => W.cell? (av.add p) = some (.slice (some ⟨g, 0, none⟩) n c))
            (first
              | with_reducible exact HF6.out
              | with_reducible exact HF5.out
              | exact HF6.out
              | go_keep)
            (first
              | (go_at_call 94
                 refine (HMK.out _).mono ?_
                 rintro e w5 ⟨rfl, hb5⟩
                 have HF5 := Lib.hid (HSLP.out w5 (hkq.out.trans (Kept.of_below (a := wr) (b := w5) (by exact ⟨hb5.os, hb5.tape, hb5.output, hb5.size, hb5.block⟩) _)))
                 have hm5 : MarkedAt mkRow Row.cells 7 90 base w5 L p q := hmq.out.below ⟨hb5.os, hb5.tape, hb5.output, hb5.size, hb5.block⟩
                 have HB5 : Hid (Below wr.heap.size wr w5) := ⟨hb5.os, hb5.tape, hb5.output, hb5.size, hb5.block⟩
                 obtain ⟨xs5, x1, x2, _, _⟩ := hm5 p _ HLP.out
                 have hst5 := x2.stepped encRow x1 h2 (mkRow p q)
                 simp only [Stepped, Row.cells, Nat.add_zero, Nat.zero_add, Nat.reduceAdd] at hst5
                 obtain ⟨⟨_, _⟩, _, ⟨_, _⟩, _, ⟨_, _⟩, _, ⟨_, _⟩, _, ⟨_, _⟩, _, ⟨_, _⟩, _, ⟨_, _⟩, _, _⟩ := hst5
                 have hkp5 : Kept (fun j => ∃ l ∈ L, j = l.g) w (putCells w5 g (q * 7) (Row.cells (mkRow p q))) := (hkq.out.trans (Kept.of_below HB5.out _)).trans (putCells_kept.mono (fun j _ e => ⟨_, List.mem_of_getElem? HLP.out, e⟩))
                 have hm6 : MarkedAt mkRow Row.cells 7 90 base (putCells w5 g (q * 7) (Row.cells (mkRow p q))) L p (q + 1) := MarkedAt.step (l := ⟨g, n, c⟩) encRow.len (by omega) HAP.out hm5 HLP.out h2
                 rw [putRow_eq] at hkp5 hm6
                 have HF6 := Lib.hid (HSLP.out _ hkp5)
                 have HKP5 := Lib.hid hkp5
                 have HM5 := Lib.hid hm6
                 clear hkp5 hm6
                 clear x1 x2 hm5 hb5))
          all_goals
            go_wp2_with fail
            go_roundw
            case rel => exact ⟨q + 1, by omega, by go_num, HM5.out, HKP5.out⟩
            case measure => simp [intOf]; omega
        · have g2 : decide ((q:Int) < (n:Int)) = false := decide_eq_false (by omega)
          have g2b : decide (q < n) = false := decide_eq_false h2
          go_wp2_with fail
          go_roundw
          case rel => exact ⟨p + 1, by omega, by go_num, hmq.out.next HLP.out (by simp only; omega), hkq.out⟩
          case measure => simp [intOf]; omega
    · have g1 : decide ((p:Int) < (L.length:Int)) = false := decide_eq_false (by omega)
      have g1b : decide (p < L.length) = false := decide_eq_false h1
      obtain rfl : p = L.length := by omega
      have HG0 : Hid (GrownAt mkRow Row.cells 7 90 base wr L [] 0) := GrownAt.start hmr.out encRow.len
      have HK0 := Lib.hid hkr.out
      clear hmr hkr HM0 g1 g1b h1
      go_wp2_with fail
      generalize wr = w2 at *
      go_loopw [6, 7, 8, 9] (fun gr i _ _ wr => ∃ (p : Nat) (G : List Bk) (Ag : Option Addr) (cg : Nat), p ≤ L.length ∧ i = .int .i64 p ∧ gr = .slice Ag p cg ∧ Hid (G.length = p) ∧ Hid (Made slc 1 76 w.heap.size wr (.slice Ag p cg) (G.map Bk.x)) ∧ Hid (GrownAt mkRow Row.cells 7 90 base wr L G p) ∧ Hid (Kept (fun j => ∃ l ∈ L, j = l.g) w wr)) (fun _ i _ _ _ => L.length - (intOf i).toNat)
      case atStart => exact ⟨0, [], none, 0, by omega, rfl, rfl, rfl, Made.nil _ _ _, HG0.out, HK0.out⟩
      case round =>
        obtain ⟨p, G, Ag, cg, hp, rfl, rfl, hGl, hmg, hgr, hkr⟩ := hrel
        by_cases h1 : p < L.length
        · have g1 : decide ((p:Int) < (L.length:Int)) = true := decide_eq_true (by omega)
          have g1b : decide (p < L.length) = true := decide_eq_true h1
          have k1 : IntKind.i64.wrap ((p:Int) + 1) = (p:Int) + 1 := IntWalk.i64_in _ (by omega)
          obtain ⟨l, hl0⟩ : ∃ l, l = L[p] := ⟨_, rfl⟩
          have hlp : L[p]? = some l := by rw [hl0]; exact List.getElem?_eq_getElem h1
          have HLP := Lib.hid hlp
          have hnl := HN.out l (List.mem_of_getElem? hlp)
          have hln : l.n + 70 ≤ 140737488355328 := by omega
          have HNL := Lib.hid hnl
          have hp1 : p ≤ 1000 := by omega
          obtain ⟨av, hAv, hsl0⟩ : ∃ av, Av = some av ∧ ∀ wq, Kept (fun j => ∃ l ∈ L, j = l.g) w wq → wq.cell? (av.add (p * 1)) = some (.slice (some ⟨l.g, 0, none⟩) l.n l.c) := by
            have hx : (L.map Bk.x)[p]? = some l.x := by rw [List.getElem?_map, hlp]; rfl
            obtain ⟨av, e, _, hat⟩ := Made.rd' encSlc.len (HSL.out w (Kept.refl _ _)) p l.x hx
            refine ⟨av, e, fun wq hk => ?_⟩
            obtain ⟨av', e', _, hat⟩ := Made.rd' encSlc.len (HSL.out wq hk) p l.x hx
            rw [e] at e'; cases e'
            exact hat 0 _ rfl
          rw [Nat.mul_one] at hsl0
          subst hAv
          have w0 := hsl0 wr hkr.out
          have HGW : Hid (GrowAt mkRow Row.cells 7 90 base wr L G p l l 0) := GrowAt.start hgr.out hlp HAP.out
          have HSW : Hid (w.heap.size ≤ wr.heap.size) := hkr.out.size
          clear hl0 hlp hsl0 hnl
          go_wp2_with fail
          go_loopw [8, 9] (fun gv m wq => ∃ (q : Nat) (c : Bk), q ≤ 70 ∧ m = .int .i64 q ∧ gv = .slice (some ⟨c.g, 0, none⟩) c.n c.c ∧ Hid (GrowAt mkRow Row.cells 7 90 base wq L G p l c q) ∧ Hid (c.g = l.g ∨ w.heap.size ≤ c.g) ∧ Hid (Made slc 1 76 w.heap.size wq (.slice Ag p cg) (G.map Bk.x)) ∧ Hid (Kept (fun j => ∃ l ∈ L, j = l.g) w wq)) (fun _ m _ => 70 - (intOf m).toNat)
          case atStart => exact ⟨0, l, by omega, rfl, rfl, HGW.out, .inl rfl, hmg.out, hkr.out⟩
          case round =>
            obtain ⟨q, cb, hq, rfl, rfl, hgq, hcl, hmq, hkq⟩ := hrel
            have hcn := hgq.out.cn
            by_cases h2 : q < 70
            · have g2 : decide ((q:Int) < 70) = true := decide_eq_true (by omega)
              have k2 : IntKind.i64.wrap ((q:Int) + 1) = (q:Int) + 1 := IntWalk.i64_in _ (by omega)
              have hcn2 : cb.n + 1 ≤ l.n + 70 := by omega
              have HMK := Lib.hid (fun W => markRowBk p cb.n W hp1 (by omega))
              have HCN := Lib.hid hcn
              have hcl2 : (marks mkRow p cb.n).length = cb.n := marks_length _ _ _
              have HCL2 := Lib.hid hcl2
              have hkb : base ≤ wr.heap.size := by have := hkq.out.size; omega
              clear hcn hcl2
              obtain ⟨cbg, cbn, cbc⟩ := cb
              simp only at hcn2 HCN HCL2 HMK
              go_wp2_with (first
                | (go_at_call 94
                   refine (HMK.out _).mono ?_
                   rintro e w5 ⟨rfl, hb5⟩
                   have HG5 := Lib.hid ((hgq.out.below hb5).below ((Below.refl _ w5).alloc (Nat.le_refl _) (.cells #[.int .i64 (mkRow p cbn).client, .int .i64 (mkRow p cbn).number, .int .i64 (mkRow p cbn).place, .bool (mkRow p cbn).done, .int .i64 (mkRow p cbn).res.code, .int .i64 (mkRow p cbn).res.slot, .string (mkRow p cbn).res.value] 90)))
                   have HS5 : Hid (wr.heap.size ≤ w5.heap.size) := hb5.size
                   have HM5 := Lib.hid ((hmq.out.below hb5 (fun b e => (hmq.out.lt b e).2)).alloc (.cells #[.int .i64 (mkRow p cbn).client, .int .i64 (mkRow p cbn).number, .int .i64 (mkRow p cbn).place, .bool (mkRow p cbn).done, .int .i64 (mkRow p cbn).res.code, .int .i64 (mkRow p cbn).res.slot, .string (mkRow p cbn).res.value] 90))
                   have HK5 := Lib.hid ((hkq.out.trans (Kept.of_below hb5 _)).alloc (.cells #[.int .i64 (mkRow p cbn).client, .int .i64 (mkRow p cbn).number, .int .i64 (mkRow p cbn).place, .bool (mkRow p cbn).done, .int .i64 (mkRow p cbn).res.code, .int .i64 (mkRow p cbn).res.slot, .string (mkRow p cbn).res.value] 90))
                   have HR5 := Lib.hid (rd_one encRow w5 (mkRow p cbn) #[.int .i64 (mkRow p cbn).client, .int .i64 (mkRow p cbn).number, .int .i64 (mkRow p cbn).place, .bool (mkRow p cbn).done, .int .i64 (mkRow p cbn).res.code, .int .i64 (mkRow p cbn).res.slot, .string (mkRow p cbn).res.value] rfl 90)
                   clear hb5)
                | (at_builtin
                   refine wpList_app2 (g := cbg) (n := cbn) (cap := cbc) (xs := marks mkRow p cbn) (y := mkRow p cbn) rowRow encRow rfl (.tmp 54) (.tmp 59) rfl base rfl HCL2.out.symm HG5.out.cur rfl rfl HR5.out (by rw [HCL2.out]; have := HNL.out; omega) (by rw [HCL2.out]; unfold maxLen; omega) (by simp; have := HS5.out; omega) ?_
                   intro b6 w6 hbn hm6 hg6
                   have HBN := Lib.hid hbn
                   have HM6 := Lib.hid hm6
                   have HG6 := Lib.hid hg6
                   clear hbn hm6 hg6))
              go_roundw
              case rel =>
                have hw5 : w.heap.size ≤ (w5.alloc (.cells #[.int .i64 (mkRow p cbn).client, .int .i64 (mkRow p cbn).number, .int .i64 (mkRow p cbn).place, .bool (mkRow p cbn).done, .int .i64 (mkRow p cbn).res.code, .int .i64 (mkRow p cbn).res.slot, .string (mkRow p cbn).res.value] 90)).heap.size := HK5.out.size
                refine ⟨q + 1, b6, by omega, by go_num, rfl, HG5.out.step encRow.len HLP.out (fun j b hj => ⟨_, List.getElem?_eq_getElem (by have h3 := (List.getElem?_eq_some_iff.1 hj).1; have h4 := hGl.out; omega)⟩) HBN.out HM6.out HG6.out, ?_, ?_, ?_⟩
                · rcases HG6.out with ⟨e, _⟩ | ⟨e, _⟩
                  · rw [e]; exact hcl.out
                  · exact .inr (by omega)
                · refine HM5.out.same fun j ej => ?_
                  have hj := HM5.out.lt j ej
                  rcases HG6.out with ⟨e, hgb⟩ | ⟨e, hgb⟩
                  · refine hgb.block j hj.2 fun e2 => ?_
                    obtain ⟨cs, h3⟩ := HM5.out.cell_block ej
                    obtain ⟨cs', h4⟩ := HG5.out.cur.cell_block (b := cbg) rfl
                    cases e2
                    rw [h3] at h4; cases h4
                  · exact hgb.block j hj.2
                · rcases HG6.out with ⟨e, hgb⟩ | ⟨e, hgb⟩
                  · refine ⟨hgb.os.trans HK5.out.os, hgb.tape.trans HK5.out.tape, hgb.output.trans HK5.out.output, Nat.le_trans HK5.out.size hgb.size, fun j hj hn => (hgb.block j (by omega) fun e2 => ?_).trans (HK5.out.block j hj hn)⟩
                    cases e2
                    rcases hcl.out with e3 | e3
                    · exact hn ⟨l, List.mem_of_getElem? HLP.out, e3⟩
                    · omega
                  · exact HK5.out.trans (Kept.of_below hgb _)
              case measure => simp [intOf]; omega
            · have g2 : decide ((q:Int) < 70) = false := decide_eq_false (by omega)
              obtain rfl : q = 70 := by omega
              obtain ⟨cbg, cbn, cbc⟩ := cb
              have HGL := hGl.out
              have hGL2 : (G.map Bk.x).length = p := by rw [List.length_map]; exact HGL
              have HFN := Lib.hid (hgq.out.finish HLP.out h1)
              have HM7 := Lib.hid (hmq.out.alloc (.cells #[.slice (some ⟨cbg, 0, none⟩) cbn cbc] 76))
              have HR7 := Lib.hid (rd_one encSlc wr (Bk.x ⟨cbg, cbn, cbc⟩) #[.slice (some ⟨cbg, 0, none⟩) cbn cbc] rfl 76)
              have HK7 := Lib.hid (hkq.out.alloc (.cells #[.slice (some ⟨cbg, 0, none⟩) cbn cbc] 76))
              have HSW7 : Hid (w.heap.size ≤ wr.heap.size) := hkq.out.size
              have HGL3 := Lib.hid hGL2
              clear HGL hGL2 hcn
              go_wp2_with (at_builtin; refine wpList_app (v := .slice Ag p cg) (xs := G.map Bk.x) (ys := [Bk.x ⟨cbg, cbn, cbc⟩]) rowsRow encSlc rfl (.tmp 61) (.tmp 63) rfl w.heap.size rfl HM7.out rfl rfl HR7.out (by rw [HGL3.out]; simp only [List.length_singleton]; omega) (by rw [HGL3.out]; unfold maxLen; simp only [List.length_singleton]; omega) (by simp; have := HSW7.out; omega) ?_; intro v8 w8 hm8 hg8 hat8; have HM8 := Lib.hid hm8; have HG8 := Lib.hid hg8; clear hm8 hg8 hat8)
              go_roundw
              case rel =>
                obtain ⟨A8, c8, hv8, hc8⟩ := HM8.out.form
                have hl8 : (G.map Bk.x ++ [Bk.x ⟨cbg, cbn, cbc⟩]).length = p + 1 := by rw [List.length_append, HGL3.out]; rfl
                have hm8 := HM8.out
                rw [hl8] at hv8
                subst hv8
                have e8 : G.map Bk.x ++ [Bk.x ⟨cbg, cbn, cbc⟩] = (G ++ [(⟨cbg, cbn, cbc⟩ : Bk)]).map Bk.x := by simp
                rw [e8] at hm8
                have hGl2 : (G ++ [(⟨cbg, cbn, cbc⟩ : Bk)]).length = p + 1 := by simp [hGl.out]
                refine ⟨p + 1, G ++ [(⟨cbg, cbn, cbc⟩ : Bk)], A8, c8, by omega, by go_num, rfl, hGl2, hm8, ?_, ?_⟩
                · refine (HFN.out.below ((Below.refl _ wr).alloc (Nat.le_refl _) _) (by omega)).keep HG8.out.size (fun l hl => HG8.out.block _ (Nat.lt_of_lt_of_le (HLL.out l hl) HK7.out.size) fun e => ?_) (fun b hb hlt hcs => HG8.out.block _ hlt fun e => ?_) (by omega)
                  · have h3 := (HM7.out.lt l.g e.symm).1
                    have h4 := HLL.out l hl
                    omega
                  · obtain ⟨cs, h3⟩ := HM7.out.cell_block e.symm
                    obtain ⟨cs', h4⟩ := hcs
                    rw [h3] at h4; cases h4
                · exact ⟨HG8.out.os.trans HK7.out.os, HG8.out.tape.trans HK7.out.tape, HG8.out.output.trans HK7.out.output, Nat.le_trans HK7.out.size HG8.out.size, fun j hj hn => (HG8.out.block j (Nat.lt_of_lt_of_le hj HK7.out.size) fun e => by have h3 := (HM7.out.lt j e.symm).1; omega).trans (HK7.out.block j hj hn)⟩
              case measure => simp [intOf]; omega
        · have g1 : decide ((p:Int) < (L.length:Int)) = false := decide_eq_false (by omega)
          have g1b : decide (p < L.length) = false := decide_eq_false h1
          obtain rfl : p = L.length := by omega
          have HKW := Lib.hid hkr.out
          have HGW := Lib.hid hgr.out
          have HGS := Lib.hid hmg.out
          clear hgr hkr hmg h1 g1 g1b HG0 HK0
          go_wp2_with fail
          generalize wr = w8 at *
          go_loopw [10, 11] (fun i _ wq => ∃ p : Nat, p ≤ L.length ∧ i = .int .i64 p ∧ Hid (Below w8.heap.size w8 wq)) (fun i _ _ => L.length - (intOf i).toNat)
          case atStart => exact ⟨0, by omega, rfl, Below.refl _ _⟩
          case round =>
            obtain ⟨p, hp, rfl, hbr⟩ := hrel
            by_cases h1 : p < L.length
            · have g1 : decide ((p:Int) < (L.length:Int)) = true := decide_eq_true (by omega)
              have g1b : decide (p < L.length) = true := decide_eq_true h1
              have k1 : IntKind.i64.wrap ((p:Int) + 1) = (p:Int) + 1 := IntWalk.i64_in _ (by omega)
              have hpG : p < G.length := by rw [hGl.out]; exact h1
              obtain ⟨l, hl0⟩ : ∃ l, l = L[p] := ⟨_, rfl⟩
              obtain ⟨b6, hb0⟩ : ∃ b6, b6 = G[p] := ⟨_, rfl⟩
              have hlp : L[p]? = some l := by rw [hl0]; exact List.getElem?_eq_getElem h1
              have hbp : G[p]? = some b6 := by rw [hb0]; exact List.getElem?_eq_getElem hpG
              obtain ⟨hbn, hbm⟩ := HGW.out.grown p b6 l hbp hlp
              have hnl := HN.out l (List.mem_of_getElem? hlp)
              have hln : l.n + 70 ≤ 140737488355328 := by omega
              have hp1 : p ≤ 1000 := by omega
              have hpi : (0:Int) ≤ (p:Int) := by omega
              have hpi2 : (p:Int) < (L.length:Int) := by omega
              have HRO := Lib.hid (HGW.out.old p l hlp)
              have HRG := Lib.hid (Made.rd' encRow.len hbm)
              obtain ⟨av, hAv, hsl0⟩ : ∃ av, Av = some av ∧ w8.cell? (av.add (p * 1)) = some (.slice (some ⟨l.g, 0, none⟩) l.n l.c) ∧ av.block < w8.heap.size := by
                have hx : (L.map Bk.x)[p]? = some l.x := by rw [List.getElem?_map, hlp]; rfl
                obtain ⟨av, e, hlt, hat⟩ := Made.rd' encSlc.len (HSL.out w8 HKW.out) p l.x hx
                exact ⟨av, e, hat 0 _ rfl, hlt⟩
              obtain ⟨ag, hAg, hsl1⟩ : ∃ ag, Ag = some ag ∧ w8.cell? (ag.add (p * 1)) = some (.slice (some ⟨b6.g, 0, none⟩) b6.n b6.c) ∧ ag.block < w8.heap.size := by
                have hx : (G.map Bk.x)[p]? = some b6.x := by rw [List.getElem?_map, hbp]; rfl
                obtain ⟨ag, e, hlt, hat⟩ := Made.rd' encSlc.len HGS.out p b6.x hx
                exact ⟨ag, e, hat 0 _ rfl, hlt⟩
              rw [Nat.mul_one] at hsl0 hsl1
              subst hAv hAg
              obtain ⟨g, n, c⟩ := l
              obtain ⟨bg, bn, bc⟩ := b6
              simp only at hbn hsl0 hsl1 HRO HRG hln
              subst hbn
              have HSW : Hid (∀ wq, Below w8.heap.size w8 wq → wq.cell? (av.add p) = some (.slice (some ⟨g, 0, none⟩) n c) ∧ wq.cell? (ag.add p) = some (.slice (some ⟨bg, 0, none⟩) (n + 70) bc)) := fun wq hb => ⟨(hb.cell (p := av.add p) (by rw [block_add]; exact hsl0.2)).trans hsl0.1, (hb.cell (p := ag.add p) (by rw [block_add]; exact hsl1.2)).trans hsl1.1⟩
              clear hl0 hb0 hlp hbp hbm hsl0 hsl1 hnl hpG
              go_wp2_with fail
              go_loopw [11] (fun kk wq => ∃ q : Nat, q ≤ n + 70 ∧ kk = .int .i64 q ∧ Hid (Below w8.heap.size w8 wq)) (fun kk _ => n + 70 - (intOf kk).toNat)
              case atStart => exact ⟨0, by omega, rfl, hbr.out⟩
              case round =>
                obtain ⟨q, hq, rfl, hbq⟩ := hrel
                have HBQ := Lib.hid hbq.out
                obtain ⟨w0, w1⟩ := HSW.out wr HBQ.out
                have i0 : (0:Int) ≤ (q:Int) := by omega
                have jn : (((n + 70 : Nat) : Int)) = (n : Int) + 70 := by omega
                by_cases h2 : q < n + 70
                · have HMK := Lib.hid (fun W => markRowBk p q W hp1 (by omega))
                  have i2 : (q:Int) < (n:Int) + 70 := by omega
                  have i2b : (q:Int) < ((n + 70 : Nat):Int) := by omega
                  have k2 : IntKind.i64.wrap ((q:Int) + 1) = (q:Int) + 1 := IntWalk.i64_in _ (by omega)
                  have hgr := guard_row
                  have geq : ∀ W, (binOp .neq 90 (.agg #[.int .i64 (mkRow p q).client, .int .i64 (mkRow p q).number, .int .i64 (mkRow p q).place, .bool (mkRow p q).done, .int .i64 (mkRow p q).res.code, .int .i64 (mkRow p q).res.slot, .string (mkRow p q).res.value]) (.agg #[.int .i64 (mkRow p q).client, .int .i64 (mkRow p q).number, .int .i64 (mkRow p q).place, .bool (mkRow p q).done, .int .i64 (mkRow p q).res.code, .int .i64 (mkRow p q).res.slot, .string (mkRow p q).res.value])).run Try.prog W = .ok (.bool false) W := fun W => by have h := neq_row (mkRow p q) (mkRow p q) W; simpa using h
                  have hatG : ∀ wq, Below w8.heap.size w8 wq → At wq ⟨bg, q * 7, none⟩ (Row.cells (mkRow p q)) := fun wq hb => by
                    obtain ⟨ad, e, _, hat⟩ := (HRG.out.below hb) q _ (marks_get mkRow p (n + 70) h2)
                    cases e
                    rw [addr_at] at hat
                    exact hat
                  by_cases h3 : q < n
                  · have i3 : decide ((q:Int) < (n:Int)) = true := decide_eq_true (by omega)
                    have i4 : (q:Int) < (n:Int) := by omega
                    have i3b : decide (q < n) = true := decide_eq_true h3
                    have hatO : ∀ wq, Below w8.heap.size w8 wq → At wq ⟨g, q * 7, none⟩ (Row.cells (mkRow p q)) := fun wq hb => by
                      obtain ⟨ad, e, _, hat⟩ := (HRO.out.below hb) q _ (marks_get mkRow p n h3)
                      cases e
                      rw [addr_at] at hat
                      exact hat
                    have HFX : Hid (∀ wq, Below w8.heap.size w8 wq → (wq.cell? (av.add p) = some (.slice (some ⟨g, 0, none⟩) n c) ∧ wq.cell? (ag.add p) = some (.slice (some ⟨bg, 0, none⟩) (n + 70) bc) ∧ wq.cell? ⟨bg, q * 7, none⟩ = some (.int .i64 (mkRow p q).client) ∧ wq.cell? ⟨bg, q * 7 + 1, none⟩ = some (.int .i64 (mkRow p q).number) ∧ wq.cell? ⟨bg, q * 7 + 2, none⟩ = some (.int .i64 (mkRow p q).place) ∧ wq.cell? ⟨bg, q * 7 + 3, none⟩ = some (.bool (mkRow p q).done) ∧ wq.cell? ⟨bg, q * 7 + 4, none⟩ = some (.int .i64 (mkRow p q).res.code) ∧ wq.cell? ⟨bg, q * 7 + 5, none⟩ = some (.int .i64 (mkRow p q).res.slot) ∧ wq.cell? ⟨bg, q * 7 + 6, none⟩ = some (.string (mkRow p q).res.value) ∧ wq.cell? ⟨g, q * 7, none⟩ = some (.int .i64 (mkRow p q).client) ∧ wq.cell? ⟨g, q * 7 + 1, none⟩ = some (.int .i64 (mkRow p q).number) ∧ wq.cell? ⟨g, q * 7 + 2, none⟩ = some (.int .i64 (mkRow p q).place) ∧ wq.cell? ⟨g, q * 7 + 3, none⟩ = some (.bool (mkRow p q).done) ∧ wq.cell? ⟨g, q * 7 + 4, none⟩ = some (.int .i64 (mkRow p q).res.code) ∧ wq.cell? ⟨g, q * 7 + 5, none⟩ = some (.int .i64 (mkRow p q).res.slot) ∧ wq.cell? ⟨g, q * 7 + 6, none⟩ = some (.string (mkRow p q).res.value))) := fun wq hb => ⟨(HSW.out wq hb).1, (HSW.out wq hb).2, hatG wq hb 0 _ rfl, hatG wq hb 1 _ rfl, hatG wq hb 2 _ rfl, hatG wq hb 3 _ rfl, hatG wq hb 4 _ rfl, hatG wq hb 5 _ rfl, hatG wq hb 6 _ rfl, hatO wq hb 0 _ rfl, hatO wq hb 1 _ rfl, hatO wq hb 2 _ rfl, hatO wq hb 3 _ rfl, hatO wq hb 4 _ rfl, hatO wq hb 5 _ rfl, hatO wq hb 6 _ rfl⟩
                    clear hatG hatO w0 w1
                    obtain ⟨w0, w1, d0, d1, d2, d3, d4, d5, d6, e0, e1, e2, e3, e4, e5, e6⟩ := HFX.out wr HBQ.out
                    clear h2 h3
                    go_wp2_with fail
                    go_region_held3 (fun wq => (wq.cell? (av.add p) = some (.slice (some ⟨g, 0, none⟩) n c) ∧ wq.cell? (ag.add p) = some (.slice (some ⟨bg, 0, none⟩) (n + 70) bc) ∧ wq.cell? ⟨bg, q * 7, none⟩ = some (.int .i64 (mkRow p q).client) ∧ wq.cell? ⟨bg, q * 7 + 1, none⟩ = some (.int .i64 (mkRow p q).number) ∧ wq.cell? ⟨bg, q * 7 + 2, none⟩ = some (.int .i64 (mkRow p q).place) ∧ wq.cell? ⟨bg, q * 7 + 3, none⟩ = some (.bool (mkRow p q).done) ∧ wq.cell? ⟨bg, q * 7 + 4, none⟩ = some (.int .i64 (mkRow p q).res.code) ∧ wq.cell? ⟨bg, q * 7 + 5, none⟩ = some (.int .i64 (mkRow p q).res.slot) ∧ wq.cell? ⟨bg, q * 7 + 6, none⟩ = some (.string (mkRow p q).res.value) ∧ wq.cell? ⟨g, q * 7, none⟩ = some (.int .i64 (mkRow p q).client) ∧ wq.cell? ⟨g, q * 7 + 1, none⟩ = some (.int .i64 (mkRow p q).number) ∧ wq.cell? ⟨g, q * 7 + 2, none⟩ = some (.int .i64 (mkRow p q).place) ∧ wq.cell? ⟨g, q * 7 + 3, none⟩ = some (.bool (mkRow p q).done) ∧ wq.cell? ⟨g, q * 7 + 4, none⟩ = some (.int .i64 (mkRow p q).res.code) ∧ wq.cell? ⟨g, q * 7 + 5, none⟩ = some (.int .i64 (mkRow p q).res.slot) ∧ wq.cell? ⟨g, q * 7 + 6, none⟩ = some (.string (mkRow p q).res.value)))
                      (first
                        | with_reducible exact HFX.out _ HB6.out
                        | with_reducible exact HFX.out _ HB5.out
                        | exact HFX.out _ HB6.out
                        | exact HFX.out _ HB5.out
                        | go_keep)
                      (first
                        | (go_at_call 94
                           refine (HMK.out _).mono ?_
                           rintro e w6 ⟨rfl, hb6⟩
                           have hb6' : Below w5.heap.size w5 w6 := ⟨hb6.os, hb6.tape, hb6.output, hb6.size, hb6.block⟩
                           have HB6 := Lib.hid (HB5.out.trans (hb6'.mono HB5.out.size))
                           clear hb6'
                           clear hb6)
                        | (go_at_call 94
                           refine (HMK.out _).mono ?_
                           rintro e w5 ⟨rfl, hb5⟩
                           have hb5' : Below wr.heap.size wr w5 := ⟨hb5.os, hb5.tape, hb5.output, hb5.size, hb5.block⟩
                           have HB5 := Lib.hid (HBQ.out.trans (hb5'.mono HBQ.out.size))
                           clear hb5'
                           clear hb5)
                        | fail)
                    all_goals
                      go_wp2_with fail
                      go_roundw
                      case rel => exact ⟨q + 1, by omega, by go_num, HB6.out⟩
                      case measure => simp [intOf]; omega
                  · have i3 : decide ((q:Int) < (n:Int)) = false := decide_eq_false (by omega)
                    have i3b : decide (q < n) = false := decide_eq_false h3
                    have HFX : Hid (∀ wq, Below w8.heap.size w8 wq → (wq.cell? (av.add p) = some (.slice (some ⟨g, 0, none⟩) n c) ∧ wq.cell? (ag.add p) = some (.slice (some ⟨bg, 0, none⟩) (n + 70) bc) ∧ wq.cell? ⟨bg, q * 7, none⟩ = some (.int .i64 (mkRow p q).client) ∧ wq.cell? ⟨bg, q * 7 + 1, none⟩ = some (.int .i64 (mkRow p q).number) ∧ wq.cell? ⟨bg, q * 7 + 2, none⟩ = some (.int .i64 (mkRow p q).place) ∧ wq.cell? ⟨bg, q * 7 + 3, none⟩ = some (.bool (mkRow p q).done) ∧ wq.cell? ⟨bg, q * 7 + 4, none⟩ = some (.int .i64 (mkRow p q).res.code) ∧ wq.cell? ⟨bg, q * 7 + 5, none⟩ = some (.int .i64 (mkRow p q).res.slot) ∧ wq.cell? ⟨bg, q * 7 + 6, none⟩ = some (.string (mkRow p q).res.value))) := fun wq hb => ⟨(HSW.out wq hb).1, (HSW.out wq hb).2, hatG wq hb 0 _ rfl, hatG wq hb 1 _ rfl, hatG wq hb 2 _ rfl, hatG wq hb 3 _ rfl, hatG wq hb 4 _ rfl, hatG wq hb 5 _ rfl, hatG wq hb 6 _ rfl⟩
                    clear hatG w0 w1
                    obtain ⟨w0, w1, d0, d1, d2, d3, d4, d5, d6⟩ := HFX.out wr HBQ.out
                    clear h2 h3
                    go_wp2_with fail
                    refine wp_region_held_drew (S := (fun wq => (wq.cell? (av.add p) = some (.slice (some ⟨g, 0, none⟩) n c) ∧ wq.cell? (ag.add p) = some (.slice (some ⟨bg, 0, none⟩) (n + 70) bc) ∧ wq.cell? ⟨bg, q * 7, none⟩ = some (.int .i64 (mkRow p q).client) ∧ wq.cell? ⟨bg, q * 7 + 1, none⟩ = some (.int .i64 (mkRow p q).number) ∧ wq.cell? ⟨bg, q * 7 + 2, none⟩ = some (.int .i64 (mkRow p q).place) ∧ wq.cell? ⟨bg, q * 7 + 3, none⟩ = some (.bool (mkRow p q).done) ∧ wq.cell? ⟨bg, q * 7 + 4, none⟩ = some (.int .i64 (mkRow p q).res.code) ∧ wq.cell? ⟨bg, q * 7 + 5, none⟩ = some (.int .i64 (mkRow p q).res.slot) ∧ wq.cell? ⟨bg, q * 7 + 6, none⟩ = some (.string (mkRow p q).res.value)))) (by kernel_rfl) (HFX.out wr HBQ.out) (fun hHeld => ?_)
                    simp only [List.size_toArray, List.length_cons, List.length_nil, Nat.reduceAdd]
                    simp only [show Array.replicate 33 false = #[false, false, false, false, false, false, false, false, false, false, false, false, false, false, false, false, false, false, false, false, false, false, false, false, false, false, false, false, false, false, false, false, false] from rfl]
                    refine wpAnyH_take (i := 0) (oi := ⟨some 80, _, _, _, _, _⟩) (v := ?_) rfl (by kernel_rfl) (by kernel_rfl) (by kernel_rfl) (fun _ _ _ h => h) (Or.inl ⟨by kernel_rfl, ?_⟩) hHeld ?_
                    rotate_left
                    · intro w hSw; go_split_ands; go_simp; try with_reducible rfl
                    try simp only [Act.put, List.setIfInBounds_toArray, List.set_cons_zero, List.set_cons_succ]
                    refine wpAnyH_take (i := 1) (oi := ⟨some 81, _, _, _, _, _⟩) (v := ?_) rfl (by kernel_rfl) (by kernel_rfl) (by kernel_rfl) (fun _ _ _ h => h) (Or.inl ⟨by kernel_rfl, ?_⟩) hHeld ?_
                    rotate_left
                    · intro w hSw; go_split_ands; go_simp; try with_reducible rfl
                    try simp only [Act.put, List.setIfInBounds_toArray, List.set_cons_zero, List.set_cons_succ]
                    refine wpAnyH_take (i := 2) (oi := ⟨some 82, _, _, _, _, _⟩) (v := ?_) rfl (by kernel_rfl) (by kernel_rfl) (by kernel_rfl) (fun _ _ _ h => h) (Or.inl ⟨by kernel_rfl, ?_⟩) hHeld ?_
                    rotate_left
                    · intro w hSw; go_split_ands; go_simp; try with_reducible rfl
                    try simp only [Act.put, List.setIfInBounds_toArray, List.set_cons_zero, List.set_cons_succ]
                    refine wpAnyH_take (i := 3) (oi := ⟨some 83, _, _, _, _, _⟩) (v := ?_) rfl (by kernel_rfl) (by kernel_rfl) (by kernel_rfl) (fun _ _ _ h => h) (Or.inl ⟨by kernel_rfl, ?_⟩) hHeld ?_
                    rotate_left
                    · intro w hSw; go_split_ands; go_simp; try with_reducible rfl
                    try simp only [Act.put, List.setIfInBounds_toArray, List.set_cons_zero, List.set_cons_succ]
                    refine wpAnyH_take (i := 4) (oi := ⟨some 84, _, _, _, _, _⟩) (v := ?_) rfl (by kernel_rfl) (by kernel_rfl) (by kernel_rfl) (fun _ _ _ h => h) (Or.inl ⟨by kernel_rfl, ?_⟩) hHeld ?_
                    rotate_left
                    · intro w hSw; go_split_ands; go_simp; try with_reducible rfl
                    try simp only [Act.put, List.setIfInBounds_toArray, List.set_cons_zero, List.set_cons_succ]
                    refine wpAnyH_take (i := 5) (oi := ⟨some 85, _, _, _, _, _⟩) (v := ?_) rfl (by kernel_rfl) (by kernel_rfl) (by kernel_rfl) (fun _ _ _ h => h) (Or.inl ⟨by kernel_rfl, ?_⟩) hHeld ?_
                    rotate_left
                    · intro w hSw; go_split_ands; go_simp; try with_reducible rfl
                    try simp only [Act.put, List.setIfInBounds_toArray, List.set_cons_zero, List.set_cons_succ]
                    refine wpAnyH_take (i := 6) (oi := ⟨some 86, _, _, _, _, _⟩) (v := ?_) rfl (by kernel_rfl) (by kernel_rfl) (by kernel_rfl) (fun _ _ _ h => h) (Or.inl ⟨by kernel_rfl, ?_⟩) hHeld ?_
                    rotate_left
                    · intro w hSw; go_split_ands; go_simp; try with_reducible rfl
                    try simp only [Act.put, List.setIfInBounds_toArray, List.set_cons_zero, List.set_cons_succ]
                    refine wpAnyH_take (i := 7) (oi := ⟨some 87, _, _, _, _, _⟩) (v := ?_) rfl (by kernel_rfl) (by kernel_rfl) (by kernel_rfl) (fun _ _ _ h => h) (Or.inl ⟨by kernel_rfl, ?_⟩) hHeld ?_
                    rotate_left
                    · intro w hSw; go_split_ands; go_simp; try with_reducible rfl
                    try simp only [Act.put, List.setIfInBounds_toArray, List.set_cons_zero, List.set_cons_succ]
                    refine wpAnyH_take (i := 8) (oi := ⟨some 88, _, _, _, _, _⟩) (v := ?_) rfl (by kernel_rfl) (by kernel_rfl) (by kernel_rfl) (fun _ _ _ h => h) (Or.inl ⟨by kernel_rfl, ?_⟩) hHeld ?_
                    rotate_left
                    · intro w hSw; go_split_ands; go_simp; try with_reducible rfl
                    try simp only [Act.put, List.setIfInBounds_toArray, List.set_cons_zero, List.set_cons_succ]
                    refine wpAnyH_ready (rs := [9]) (by kernel_rfl) (by simp) ?_
                    refine AllReadyH.cons rfl (fun K hK => ?_) AllReadyH.nil
                    go_simp
                    refine (HMK.out _).mono ?_
                    rintro e w5 ⟨rfl, hb5⟩
                    have hb5' : Below wr.heap.size wr w5 := ⟨hb5.os, hb5.tape, hb5.output, hb5.size, hb5.block⟩
                    have HB5 := Lib.hid (HBQ.out.trans (hb5'.mono HBQ.out.size))
                    clear hb5 hb5'
                    dsimp only
                    clear hHeld
                    refine hK.out _ _ (HFX.out _ HB5.out) (fun hHeld => ?_)
                    clear hK K
                    simp only [Act.put, List.setIfInBounds_toArray, List.set_cons_zero, List.set_cons_succ]
                    refine wpAnyH_take (i := 10) (oi := ⟨some 90, _, _, _, _, _⟩) (v := ?_) rfl (by kernel_rfl) (by kernel_rfl) (by kernel_rfl) (fun _ _ _ h => h) (Or.inl ⟨by kernel_rfl, ?_⟩) hHeld ?_
                    rotate_left
                    · intro w hSw; go_split_ands; go_simp; try with_reducible rfl
                    try simp only [Act.put, List.setIfInBounds_toArray, List.set_cons_zero, List.set_cons_succ]
                    refine wpAnyH_take (i := 11) (oi := ⟨some 91, _, _, _, _, _⟩) (v := ?_) rfl (by kernel_rfl) (by kernel_rfl) (by kernel_rfl) (fun _ _ _ h => h) (Or.inl ⟨by kernel_rfl, ?_⟩) hHeld ?_
                    rotate_left
                    · intro w hSw; go_split_ands; go_simp; try with_reducible rfl
                    try simp only [Act.put, List.setIfInBounds_toArray, List.set_cons_zero, List.set_cons_succ]
                    refine wpAnyH_take (i := 12) (oi := ⟨some 92, _, _, _, _, _⟩) (v := ?_) rfl (by kernel_rfl) (by kernel_rfl) (by kernel_rfl) (fun _ _ _ h => h) (Or.inl ⟨by kernel_rfl, ?_⟩) hHeld ?_
                    rotate_left
                    · intro w hSw; go_split_ands; go_simp; try with_reducible rfl
                    try simp only [Act.put, List.setIfInBounds_toArray, List.set_cons_zero, List.set_cons_succ]
                    refine wpAnyH_take (i := 13) (oi := ⟨some 93, _, _, _, _, _⟩) (v := ?_) rfl (by kernel_rfl) (by kernel_rfl) (by kernel_rfl) (fun _ _ _ h => h) (Or.inl ⟨by kernel_rfl, ?_⟩) hHeld ?_
                    rotate_left
                    · intro w hSw; go_split_ands; go_simp; try with_reducible rfl
                    try simp only [Act.put, List.setIfInBounds_toArray, List.set_cons_zero, List.set_cons_succ]
                    refine wpAnyH_take (i := 14) (oi := ⟨some 94, _, _, _, _, _⟩) (v := ?_) rfl (by kernel_rfl) (by kernel_rfl) (by kernel_rfl) (fun _ _ _ h => h) (Or.inl ⟨by kernel_rfl, ?_⟩) hHeld ?_
                    rotate_left
                    · intro w hSw; go_split_ands; go_simp; try with_reducible rfl
                    try simp only [Act.put, List.setIfInBounds_toArray, List.set_cons_zero, List.set_cons_succ]
                    refine wpAnyH_take (i := 15) (oi := ⟨some 95, _, _, _, _, _⟩) (v := ?_) rfl (by kernel_rfl) (by kernel_rfl) (by kernel_rfl) (fun _ _ _ h => h) (Or.inl ⟨by kernel_rfl, ?_⟩) hHeld ?_
                    rotate_left
                    · intro w hSw; go_split_ands; go_simp; try with_reducible rfl
                    try simp only [Act.put, List.setIfInBounds_toArray, List.set_cons_zero, List.set_cons_succ]
                    refine wpAnyH_take (i := 16) (oi := ⟨some 96, _, _, _, _, _⟩) (v := ?_) rfl (by kernel_rfl) (by kernel_rfl) (by kernel_rfl) (fun _ _ _ h => h) (Or.inl ⟨by kernel_rfl, ?_⟩) hHeld ?_
                    rotate_left
                    · intro w hSw; go_split_ands; go_simp; try with_reducible rfl
                    try simp only [Act.put, List.setIfInBounds_toArray, List.set_cons_zero, List.set_cons_succ]
                    refine wpAnyH_take (i := 17) (oi := ⟨some 97, _, _, _, _, _⟩) (v := ?_) rfl (by kernel_rfl) (by kernel_rfl) (by kernel_rfl) (fun _ _ _ h => h) (Or.inl ⟨by kernel_rfl, ?_⟩) hHeld ?_
                    rotate_left
                    · intro w hSw; go_split_ands; go_simp; try with_reducible rfl
                    try simp only [Act.put, List.setIfInBounds_toArray, List.set_cons_zero, List.set_cons_succ]
                    refine wpAnyH_take (i := 18) (oi := ⟨some 98, _, _, _, _, _⟩) (v := ?_) rfl (by kernel_rfl) (by kernel_rfl) (by kernel_rfl) (fun _ _ _ h => h) (Or.inl ⟨by kernel_rfl, ?_⟩) hHeld ?_
                    rotate_left
                    · intro w hSw; go_split_ands; go_simp; try with_reducible rfl
                    try simp only [Act.put, List.setIfInBounds_toArray, List.set_cons_zero, List.set_cons_succ]
                    refine wpAnyH_take (i := 19) (oi := ⟨some 99, _, _, _, _, _⟩) (v := ?_) rfl (by kernel_rfl) (by kernel_rfl) (by kernel_rfl) (fun _ _ _ h => h) (Or.inl ⟨by kernel_rfl, ?_⟩) hHeld ?_
                    rotate_left
                    · intro w hSw; go_split_ands; go_simp; try with_reducible rfl
                    try simp only [Act.put, List.setIfInBounds_toArray, List.set_cons_zero, List.set_cons_succ]
                    refine wpAnyH_take (i := 20) (oi := ⟨some 100, _, _, _, _, _⟩) (v := undef) rfl (by kernel_rfl) (by kernel_rfl) (by kernel_rfl) (fun _ _ _ h => h) (Or.inr ⟨by kernel_rfl, rfl⟩) hHeld ?_
                    try simp only [Act.put, List.setIfInBounds_toArray, List.set_cons_zero, List.set_cons_succ]
                    refine wpAnyH_take (i := 21) (oi := ⟨some 101, _, _, _, _, _⟩) (v := undef) rfl (by kernel_rfl) (by kernel_rfl) (by kernel_rfl) (fun _ _ _ h => h) (Or.inr ⟨by kernel_rfl, rfl⟩) hHeld ?_
                    try simp only [Act.put, List.setIfInBounds_toArray, List.set_cons_zero, List.set_cons_succ]
                    refine wpAnyH_take (i := 22) (oi := ⟨some 102, _, _, _, _, _⟩) (v := undef) rfl (by kernel_rfl) (by kernel_rfl) (by kernel_rfl) (fun _ _ _ h => h) (Or.inr ⟨by kernel_rfl, rfl⟩) hHeld ?_
                    try simp only [Act.put, List.setIfInBounds_toArray, List.set_cons_zero, List.set_cons_succ]
                    refine wpAnyH_take (i := 23) (oi := ⟨some 103, _, _, _, _, _⟩) (v := undef) rfl (by kernel_rfl) (by kernel_rfl) (by kernel_rfl) (fun _ _ _ h => h) (Or.inr ⟨by kernel_rfl, rfl⟩) hHeld ?_
                    try simp only [Act.put, List.setIfInBounds_toArray, List.set_cons_zero, List.set_cons_succ]
                    refine wpAnyH_take (i := 24) (oi := ⟨some 104, _, _, _, _, _⟩) (v := undef) rfl (by kernel_rfl) (by kernel_rfl) (by kernel_rfl) (fun _ _ _ h => h) (Or.inr ⟨by kernel_rfl, rfl⟩) hHeld ?_
                    try simp only [Act.put, List.setIfInBounds_toArray, List.set_cons_zero, List.set_cons_succ]
                    refine wpAnyH_take (i := 25) (oi := ⟨some 105, _, _, _, _, _⟩) (v := undef) rfl (by kernel_rfl) (by kernel_rfl) (by kernel_rfl) (fun _ _ _ h => h) (Or.inr ⟨by kernel_rfl, rfl⟩) hHeld ?_
                    try simp only [Act.put, List.setIfInBounds_toArray, List.set_cons_zero, List.set_cons_succ]
                    refine wpAnyH_take (i := 26) (oi := ⟨some 106, _, _, _, _, _⟩) (v := undef) rfl (by kernel_rfl) (by kernel_rfl) (by kernel_rfl) (fun _ _ _ h => h) (Or.inr ⟨by kernel_rfl, rfl⟩) hHeld ?_
                    try simp only [Act.put, List.setIfInBounds_toArray, List.set_cons_zero, List.set_cons_succ]
                    refine wpAnyH_take (i := 27) (oi := ⟨some 107, _, _, _, _, _⟩) (v := undef) rfl (by kernel_rfl) (by kernel_rfl) (by kernel_rfl) (fun _ _ _ h => h) (Or.inr ⟨by kernel_rfl, rfl⟩) hHeld ?_
                    try simp only [Act.put, List.setIfInBounds_toArray, List.set_cons_zero, List.set_cons_succ]
                    refine wpAnyH_take (i := 28) (oi := ⟨some 108, _, _, _, _, _⟩) (v := undef) rfl (by kernel_rfl) (by kernel_rfl) (by kernel_rfl) (fun _ _ _ h => h) (Or.inr ⟨by kernel_rfl, rfl⟩) hHeld ?_
                    try simp only [Act.put, List.setIfInBounds_toArray, List.set_cons_zero, List.set_cons_succ]
                    refine wpAnyH_take (i := 29) (oi := ⟨some 109, _, _, _, _, _⟩) (v := undef) rfl (by kernel_rfl) (by kernel_rfl) (by kernel_rfl) (fun _ _ _ h => h) (Or.inr ⟨by kernel_rfl, rfl⟩) hHeld ?_
                    try simp only [Act.put, List.setIfInBounds_toArray, List.set_cons_zero, List.set_cons_succ]
                    refine wpAnyH_take (i := 30) (oi := ⟨some 110, _, _, _, _, _⟩) (v := undef) rfl (by kernel_rfl) (by kernel_rfl) (by kernel_rfl) (fun _ _ _ h => h) (Or.inr ⟨by kernel_rfl, rfl⟩) hHeld ?_
                    try simp only [Act.put, List.setIfInBounds_toArray, List.set_cons_zero, List.set_cons_succ]
                    refine wpAnyH_take (i := 31) (oi := ⟨some 111, _, _, _, _, _⟩) (v := ?_) rfl (by kernel_rfl) (by kernel_rfl) (by kernel_rfl) (fun _ _ _ h => h) (Or.inl ⟨by kernel_rfl, ?_⟩) hHeld ?_
                    rotate_left
                    · intro w hSw; go_split_ands; go_simp; try with_reducible rfl
                    try simp only [Act.put, List.setIfInBounds_toArray, List.set_cons_zero, List.set_cons_succ]
                    refine wpAnyH_take (i := 32) (oi := ⟨some 112, _, _, _, _, _⟩) (v := ?_) rfl (by kernel_rfl) (by kernel_rfl) (by kernel_rfl) (fun _ _ _ h => h) (Or.inl ⟨by kernel_rfl, ?_⟩) hHeld ?_
                    rotate_left
                    · intro w hSw; go_split_ands; go_simp; try with_reducible rfl
                    try simp only [Act.put, List.setIfInBounds_toArray, List.set_cons_zero, List.set_cons_succ]
                    refine wpAnyH_done (by kernel_rfl) ?_ _
                    clear hHeld
                    all_goals
                      go_wp2_with fail
                      go_roundw
                      case rel => exact ⟨q + 1, by omega, by go_num, HB5.out⟩
                      case measure => simp [intOf]; omega
                · have i2 : decide ((q:Int) < (n:Int) + 70) = false := decide_eq_false (by omega)
                  have i2b : decide ((q:Int) < ((n + 70 : Nat):Int)) = false := decide_eq_false (by omega)
                  have i2c : decide (q < n + 70) = false := decide_eq_false h2
                  go_wp2_with fail
                  go_roundw
                  case rel => exact ⟨p + 1, by omega, by go_num, HBQ.out⟩
                  case measure => simp [intOf]; omega
            · have g1 : decide ((p:Int) < (L.length:Int)) = false := decide_eq_false (by omega)
              have g1b : decide (p < L.length) = false := decide_eq_false h1
              go_wp2_with fail
              go_ret
              exact ⟨rfl, HKW.out.trans (Kept.of_below hbr.out _)⟩

end Go.Proofs.Ytnfilklgogaheaa

namespace Go.Proofs.Ytnfilklgogaheaa
open Go.RowKit
set_option linter.unusedVariables false
set_option linter.unusedSimpArgs false

theorem betRs_256 (xs : List Entry) (f t : Int) : (betRs xs f t).length ≤ 256 := by
  by_cases h : logE xs 256 = 0
  · have := (good_logE h).2
    have := betRs_length xs f t
    omega
  · have e : betRs xs f t = [] := by unfold betRs; rw [if_neg (fun q => h q.1)]
    rw [e]; simp
/-- Given stays where only blocks of cells of other types turn. -/
theorem Given.types {W W' : World} {gb base : Nat} {G : List Gv} {S : Nat → Prop} (h : Given W gb base G) (hk : Kept S W W') (hS : ∀ j, S j → ∃ cs t, W.heap[j]? = some (.cells cs t (0, 0)) ∧ (t ≠ 40 ∧ t ≠ 22 ∧ t ≠ 32)) : Given W' gb base G := by
  obtain ⟨ve, vw, V, hgb, hbase, hve, hvw, hne, hWG, hall⟩ := h
  have key : ∀ (j : Nat) (cs : Array Value) (t : TypeId), W.heap[j]? = some (.cells cs t (0, 0)) → (t = 40 ∨ t = 22 ∨ t = 32) → W'.heap[j]? = W.heap[j]? := fun j cs t hj ht => hk.block j (Array.getElem?_eq_some_iff.1 hj).1 fun q => by
    obtain ⟨cs', t', h1, h2⟩ := hS j q
    rw [hj] at h1; cases h1
    rcases ht with e | e | e
    · exact h2.1 e
    · exact h2.2.1 e
    · exact h2.2.2 e
  refine ⟨ve, vw, V, (key gb _ _ hgb (.inl rfl)).trans hgb, hbase, hve.same fun b q => ?_, hvw.same fun b q => ?_, hne, hWG, fun g hg => (hall g hg).same fun b q => ?_⟩
  · obtain ⟨cs, e⟩ := hve.cell_block q; exact key b _ _ e (.inr (.inl rfl))
  · obtain ⟨cs, e⟩ := hvw.cell_block q; exact key b _ _ e (.inr (.inl rfl))
  · obtain ⟨cs, e⟩ := (hall g hg).cell_block q; exact key b _ _ e (.inr (.inr rfl))

structure Own5 (w W : World) (gb bk : Nat) (G : List Gv) (vR : Value) (LR : List Bk) (RV : List (Value × List Row)) : Prop where
  below : Below w.heap.size w W
  given : Given W gb w.heap.size G
  book : BookC W bk w.heap.size (.slice none 0 0) (.slice none 0 0) vR (.slice none 0 0) [] [] LR []
  or : Outs Row.cells 7 90 w.heap.size W RV
  hbk : w.heap.size ≤ bk
section
variable {w W W' : World} {gb bk : Nat} {G : List Gv} {vR vR' : Value} {LR LR' : List Bk} {RV : List (Value × List Row)}
theorem Own5.step (h : Own5 w W gb bk G vR LR RV) (hb : Below W.heap.size W W') : Own5 w W' gb bk G vR LR RV :=
  ⟨h.below.trans (hb.mono h.below.size), h.given.below6 hb, h.book.below hb, h.or.below hb, h.hbk⟩
theorem Own5.add (h : Own5 w W gb bk G vR LR RV) (hb : Below W.heap.size W W') {v : Value} {xs : List Row} (hm : Made Row.cells 7 90 W.heap.size W' v xs) : Own5 w W' gb bk G vR LR (RV ++ [(v, xs)]) :=
  { h.step hb with or := h.or.add hb h.below.size hm }
theorem Own5.put (h : Own5 w W gb bk G vR LR RV) (hk : Kept (fun j => j = bk ∨ vR.ownBlock = some j) W W') (hb : BookC W' bk w.heap.size (.slice none 0 0) (.slice none 0 0) vR' (.slice none 0 0) [] [] LR' []) : Own5 w W' gb bk G vR' LR' RV := by
  have hS : ∀ j, (j = bk ∨ vR.ownBlock = some j) → ∃ cs t, W.heap[j]? = some (.cells cs t (0, 0)) ∧ (t = 67 ∨ t = 76) := fun j q => by
    rcases q with rfl | q
    · exact ⟨_, _, h.book.at_, .inl rfl⟩
    · obtain ⟨cs, q'⟩ := h.book.r.cell_block q
      exact ⟨cs, _, q', .inr rfl⟩
  refine ⟨keptB h.below hk (fun j q => ?_) (Nat.le_refl _), h.given.types hk fun j q => ?_, hb, h.or.keep fun j hj _ ⟨cs, q⟩ => hk.block j hj fun q' => ?_, h.hbk⟩
  · rcases q with rfl | q
    · exact h.hbk
    · exact (h.book.r.lt j q).1
  · obtain ⟨cs, t, q1, q2⟩ := hS j q
    exact ⟨cs, t, q1, by rcases q2 with rfl | rfl <;> decide⟩
  · obtain ⟨cs', t, q1, q2⟩ := hS j q'
    rw [q] at q1; cases q1
    rcases q2 with q2 | q2 <;> exact absurd q2 (by decide)
theorem Own5.apart (h : Own5 w W gb bk G vR LR RV) (hLR : LR = RV.flatMap fun p => bkOf p.1) (hR9 : RV.length ≤ 900) (hr : ∀ p ∈ RV, p.2.length ≤ 256) :
    Calls Try.prog 32 #[.pointer (some ⟨bk, 0, none⟩)] W fun e W' => e = .returned (.bool true) ∧ Below w.heap.size w W' ∧ Given W' gb w.heap.size G := by
  have hlr : Lists Row.cells 7 90 w.heap.size W LR := by rw [hLR]; exact h.or.lists
  have hR : LR.length ≤ 900 := by rw [hLR]; exact Nat.le_trans (outs_length RV) hR9
  have hRn : ∀ l ∈ LR, l.n ≤ 256 := by rw [hLR]; exact h.or.lens hr
  have hb0 := h.below.size
  have hnil : ∀ W1 v L, BookC W1 bk w.heap.size (.slice none 0 0) (.slice none 0 0) v (.slice none 0 0) [] [] L [] → ∀ f, f < 5 ∨ 5 < f ∧ f < 10 → W1.cell? ⟨bk, f, none⟩ = some (.slice none 0 0) := fun W1 v L hb f hf => by
    rw [cell_of_row W1 bk f _ _ _ hb.at_]
    rcases hf with hf | hf
    · match f, hf with
      | 0, _ => rfl
      | 1, _ => rfl
      | 2, _ => rfl
      | 3, _ => rfl
      | 4, _ => rfl
    · match f, hf with
      | 6, _ => rfl
      | 7, _ => rfl
      | 8, _ => rfl
      | 9, _ => rfl
  refine (apartAll bk (fun W1 => BookC W1 bk w.heap.size (.slice none 0 0) (.slice none 0 0) vR (.slice none 0 0) [] [] LR [] ∧ Lists Row.cells 7 90 w.heap.size W1 LR ∧ w.heap.size ≤ W1.heap.size)
    (fun W1 => BookC W1 bk w.heap.size (.slice none 0 0) (.slice none 0 0) vR (.slice none 0 0) [] [] LR [] ∧ Lists Row.cells 7 90 w.heap.size W1 LR ∧ w.heap.size ≤ W1.heap.size)
    (fun W1 => BookC W1 bk w.heap.size (.slice none 0 0) (.slice none 0 0) vR (.slice none 0 0) [] [] LR [] ∧ Lists Row.cells 7 90 w.heap.size W1 LR ∧ w.heap.size ≤ W1.heap.size)
    (fun W1 => BookC W1 bk w.heap.size (.slice none 0 0) (.slice none 0 0) vR (.slice none 0 0) [] [] LR [])
    (fun W1 => BookC W1 bk w.heap.size (.slice none 0 0) (.slice none 0 0) vR (.slice none 0 0) [] [] LR [])
    (fun j => ∃ l ∈ LR, j = l.g) ?_ ?_ ?_ ?_ ?_ W ⟨h.book, hlr, hb0⟩).mono ?_
  · intro W1 hJ f hf
    rcases hJ with hJ | hJ
    · exact hnil W1 _ _ hJ.1 f (by omega)
    · exact hnil W1 _ _ hJ f (by omega)
  · intro W1 hJ
    exact (noneEntries bk W1 (hnil W1 _ _ hJ.1 3 (by omega))).mono fun e w' ⟨he, hw⟩ => by rw [hw]; exact ⟨he, hJ, Kept.refl _ _⟩
  · intro W1 hJ
    exact (noneCells bk W1 (hnil W1 _ _ hJ.1 4 (by omega))).mono fun e w' ⟨he, hw⟩ => by rw [hw]; exact ⟨he, hJ, Kept.refl _ _⟩
  · rintro W1 ⟨j1, j2, j4⟩
    refine (apartRow bk vR LR w.heap.size W1 (cell_of_row W1 bk 5 _ _ _ j1.at_) j1.r (by omega) (fun l hl => by have := hRn l hl; omega) j2 j4).mono fun e w' ⟨he, hk⟩ => ⟨he, ?_, hk⟩
    exact j1.other hk fun j q => by obtain ⟨cs, q2⟩ := j2.types j q; exact ⟨cs, _, q2, by decide⟩
  · intro W1 hJ
    exact (noneResults bk W1 (hnil W1 _ _ hJ 6 (by omega))).mono fun e w' ⟨he, hw⟩ => by rw [hw]; exact ⟨he, hJ, Kept.refl _ _⟩
  · rintro e W' ⟨he, _, hk⟩
    refine ⟨he, keptB h.below hk (fun j q => ?_) (Nat.le_refl _), h.given.types hk fun j q => ?_⟩
    · obtain ⟨l, hl, e⟩ := q
      obtain ⟨xs, _, hm⟩ := hlr.made l hl
      rw [e]; exact (hm.lt l.g rfl).1
    · obtain ⟨cs, q2⟩ := hlr.types j q
      exact ⟨cs, _, q2, by decide⟩
end
end Go.Proofs.Ytnfilklgogaheaa

namespace Go.Proofs.Ytnfilklgogaheaa
open Go.RowKit
set_option linter.unusedVariables false
set_option linter.unusedSimpArgs false

theorem flat_spoil (zs : List Entry) (k : Nat) (h : k < zs.length) (c : Int) (o : Op) :
    ((((flat Entry.cells zs).set (k * 5 + 2) (.int .i64 o.kind)).set (k * 5 + 3) (.int .i64 o.slot)).set (k * 5 + 4) (.string o.value)).set (k * 5) (.int .i64 c) = flat Entry.cells (zs.set k ⟨c, zs[k].number, o⟩) := by
  have hl := flat_length encEntry.len zs
  have hm : k * 5 + 5 ≤ zs.length * 5 := by rw [← Nat.succ_mul]; exact Nat.mul_le_mul_right _ h
  have h1 : (flat Entry.cells zs)[k * 5 + 1]? = some (.int .i64 zs[k].number) := flat_get encEntry.len zs k 1 _ _ (List.getElem?_eq_getElem h) rfl
  rw [flat_set encEntry.len (by omega) zs k h]
  apply List.ext_getElem?
  intro m
  rw [setMany_get _ _ _ _ (by rw [hl]; exact hm)]
  simp only [List.getElem?_set, List.length_set, hl, Entry.cells, List.length_cons, List.length_nil, Nat.zero_add, Nat.reduceAdd]
  by_cases c0 : m = k * 5
  · subst c0; simp; omega
  by_cases c1 : m = k * 5 + 1
  · subst c1
    rw [if_neg (by omega), if_neg (by omega), if_neg (by omega), if_neg (by omega), if_pos (by omega), h1, show k * 5 + 1 - k * 5 = 1 by omega]
    rfl
  by_cases c2 : m = k * 5 + 2
  · subst c2
    rw [if_neg (by omega), if_neg (by omega), if_neg (by omega), if_pos rfl, if_pos (by omega), if_pos (by omega), show k * 5 + 2 - k * 5 = 2 by omega]
    rfl
  by_cases c3 : m = k * 5 + 3
  · subst c3
    rw [if_neg (by omega), if_neg (by omega), if_pos rfl, if_pos (by omega), if_pos (by omega), show k * 5 + 3 - k * 5 = 3 by omega]
    rfl
  by_cases c4 : m = k * 5 + 4
  · subst c4
    rw [if_neg (by omega), if_pos rfl, if_pos (by omega), if_pos (by omega), show k * 5 + 4 - k * 5 = 4 by omega]
    rfl
  rw [if_neg (by omega), if_neg (by omega), if_neg (by omega), if_neg (by omega), if_neg (by omega)]
theorem Made.spoil {base g c : Nat} {e : TypeId} {w : World} {zs : List Entry} (h : Made Entry.cells 5 e base w (.slice (some ⟨g, 0, none⟩) zs.length c) zs) (k : Nat) (hk : k < zs.length) (x : Int) (o : Op) :
    Made Entry.cells 5 e base ((((w.setCell ⟨g, k * 5 + 2, none⟩ (.int .i64 o.kind)).setCell ⟨g, k * 5 + 3, none⟩ (.int .i64 o.slot)).setCell ⟨g, k * 5 + 4, none⟩ (.string o.value)).setCell ⟨g, k * 5, none⟩ (.int .i64 x)) (.slice (some ⟨g, 0, none⟩) zs.length c) (zs.set k ⟨x, zs[k].number, o⟩) := by
  have h1 := ((((World.ownsRow.stored h (k * 5 + 2) (.int .i64 o.kind)).1.stored (k * 5 + 3) (.int .i64 o.slot)).1.stored (k * 5 + 4) (.string o.value)).1.stored (k * 5) (.int .i64 x)).1
  unfold Made
  rw [List.length_set, ← flat_spoil zs k hk]
  exact h1
theorem Made.spoilN {base g c n : Nat} {e : TypeId} {w : World} {zs : List Entry} (h : Made Entry.cells 5 e base w (.slice (some ⟨g, 0, none⟩) zs.length c) zs) (hn : zs.length = n) (k : Nat) (hk : k < zs.length) (x : Int) (o : Op) :
    Made Entry.cells 5 e base ((((w.setCell ⟨g, k * 5 + 2, none⟩ (.int .i64 o.kind)).setCell ⟨g, k * 5 + 3, none⟩ (.int .i64 o.slot)).setCell ⟨g, k * 5 + 4, none⟩ (.string o.value)).setCell ⟨g, k * 5, none⟩ (.int .i64 x)) (.slice (some ⟨g, 0, none⟩) n c) (zs.set k ⟨x, zs[k].number, o⟩) := by
  subst hn
  exact h.spoil k hk x o
end Go.Proofs.Ytnfilklgogaheaa

namespace Go.Proofs.Ytnfilklgogaheaa
open Go.RowKit
set_option linter.unusedVariables false
set_option linter.unusedSimpArgs false

set_option maxRecDepth 100000 in
set_option maxHeartbeats 16000000 in
theorem own05_calls (A A2 : Option Addr) (c n c2 n2 : Nat) (xs ys : List Entry) (m : Int) (hn : n = xs.length) (hn2 : n2 = ys.length) (w : World) (hb : (xs.length + 1) * 48 ≤ 140737488355328) (hb2 : (ys.length + 1) * 48 ≤ 140737488355328)
    (hv : ∀ x ∈ xs, x.op.value.size ≤ 9223372036854775807) (hv2 : ∀ x ∈ ys, x.op.value.size ≤ 9223372036854775807) (ha : Rd Entry.cells 5 w w.heap.size A xs) (ha2 : Rd Entry.cells 5 w w.heap.size A2 ys) :
    Calls Try.prog 12 #[.slice A n c, .slice A2 n2 c2, .int .i64 m] w fun e w' => e = .returned (.bool true) ∧ Below w.heap.size w w' := by
  subst hn hn2
  have HA := Lib.hid ha
  have HA2 := Lib.hid ha2
  have HV := Lib.hid hv
  have HV2 := Lib.hid hv2
  clear ha ha2 hv hv2
  go_enter Try.func12, Try.ntmps12
  go_wp2_with fail
  with_reducible refine (alive05 _).mono ?_
  rintro e w0 ⟨rfl, hb0⟩
  dsimp only
  obtain ⟨WG, hWG⟩ : ∃ WG, WG = (w0.alloc (.cells #[.slice none 0 0, .slice none 0 0, .slice none 0 0, .slice none 0 0, .slice none 0 0, .slice none 0 0, .slice none 0 0, .slice none 0 0, .slice none 0 0, .slice none 0 0] 40)).alloc (.cells #[.slice none 0 0, .slice none 0 0, .slice none 0 0, .slice none 0 0, .slice none 0 0, .slice none 0 0, .slice none 0 0, .slice none 0 0, .slice none 0 0, .slice none 0 0] 67) := ⟨_, rfl⟩
  have hbG : Below w0.heap.size w0 WG := by rw [hWG]; exact ((Below.refl _ _).alloc (Nat.le_refl _) _).alloc (by simp) _
  have hgG : Given WG w0.heap.size w.heap.size [] := by
    rw [hWG]
    exact (given_new w0 w.heap.size hb0.size).below6 ((Below.refl _ _).alloc (Nat.le_refl _) _)
  have hkG : BookC WG (w0.heap.size + 1) w.heap.size (.slice none 0 0) (.slice none 0 0) (.slice none 0 0) (.slice none 0 0) [] [] [] [] := by
    have h := BookC.new (w0.alloc (.cells #[.slice none 0 0, .slice none 0 0, .slice none 0 0, .slice none 0 0, .slice none 0 0, .slice none 0 0, .slice none 0 0, .slice none 0 0, .slice none 0 0, .slice none 0 0] 40)) w.heap.size
    rw [hWG]
    have e : (w0.alloc (.cells #[.slice none 0 0, .slice none 0 0, .slice none 0 0, .slice none 0 0, .slice none 0 0, .slice none 0 0, .slice none 0 0, .slice none 0 0, .slice none 0 0, .slice none 0 0] 40)).heap.size = w0.heap.size + 1 := by simp
    rw [e] at h
    exact h
  have hbw := hb0.trans (hbG.mono hb0.size)
  have HBG := Lib.hid hbw
  have HGG := Lib.hid hgG
  have HKG := Lib.hid hkG
  have HWG := Lib.hid hWG
  have HSZ : Hid (w.heap.size ≤ w0.heap.size) := hb0.size
  clear hWG hbG hgG hkG hbw hb0
  go_wp2_with fail
  rw [← HWG.out]
  clear HWG
  generalize w0.heap.size = gb at *
  refine (givenEntries gb w.heap.size [] A c xs WG HGG.out (by simp) hb (((HA.out.below HBG.out)))).mono ?_
  rintro e w1 ⟨A1, c1, rfl, hc1, hg1, hk1, hb1⟩
  have HG1 := Lib.hid hg1
  have HK1 : Hid (BookC w1 (gb + 1) w.heap.size (.slice none 0 0) (.slice none 0 0) (.slice none 0 0) (.slice none 0 0) [] [] [] []) := ⟨(hk1.block (gb + 1) HKG.out.lt (fun q => by
    rcases q with q | ⟨cs, q⟩
    · omega
    · rw [HKG.out.at_] at q; cases q)).trans HKG.out.at_, Made.nil _ _ _, Made.nil _ _ _, Made.nil _ _ _, Made.nil _ _ _⟩
  have HB1 := Lib.hid (HBG.out.trans hb1)
  clear hg1 hk1 hb1 HGG HKG HBG
  dsimp only
  go_wp2_with fail
  refine (givenEntries gb w.heap.size [⟨A1, c1, xs⟩] A2 c2 ys w1 (by simpa using HG1.out) (by simp) hb2 (HA2.out.below HB1.out)).mono ?_
  rintro e w2 ⟨A3, c3, rfl, hc3, hg2, hk2, hb2'⟩
  have HS2 : Hid (Own5 w w2 gb (gb + 1) [⟨A1, c1, xs⟩, ⟨A3, c3, ys⟩] (.slice none 0 0) [] []) := ⟨HB1.out.trans hb2', by simpa using hg2, ⟨(hk2.block (gb + 1) HK1.out.lt (fun q => by
    rcases q with q | ⟨cs, q⟩
    · omega
    · rw [HK1.out.at_] at q; cases q)).trans HK1.out.at_, Made.nil _ _ _, Made.nil _ _ _, Made.nil _ _ _, Made.nil _ _ _⟩, Outs.nil, by have := HSZ.out; omega⟩
  clear hg2 hk2 hb2' HG1 HK1 HB1
  generalize gb + 1 = bk at *
  dsimp only
  go_wp2_with fail
  have HGX : Hid (∀ W vR LR RV, Own5 w W gb bk [⟨A1, c1, xs⟩, ⟨A3, c3, ys⟩] vR LR RV → Rd Entry.cells 5 W W.heap.size A1 xs) := fun W vR LR RV h => h.given.get (g := ⟨A1, c1, xs⟩) (by simp)
  have HGY : Hid (∀ W vR LR RV, Own5 w W gb bk [⟨A1, c1, xs⟩, ⟨A3, c3, ys⟩] vR LR RV → Rd Entry.cells 5 W W.heap.size A3 ys) := fun W vR LR RV h => h.given.get (g := ⟨A3, c3, ys⟩) (by simp)
  go_loopw [11, 12, 13, 14, 15, 16] (fun i _ _ _ _ _ wr => ∃ k : Nat, k ≤ 3 ∧ i = .int .i64 k ∧ Hid (∃ vR LR RV, Own5 w wr gb bk [⟨A1, c1, xs⟩, ⟨A3, c3, ys⟩] vR LR RV ∧ (LR = RV.flatMap fun p => bkOf p.1) ∧ RV.length = 2 * k ∧ ∀ p ∈ RV, p.2.length ≤ 256)) (fun i _ _ _ _ _ _ => 3 - (intOf i).toNat)
  case atStart => exact ⟨0, by omega, rfl, ⟨_, [], [], HS2.out, rfl, rfl, fun p hp => by simp at hp⟩⟩
  case round =>
    obtain ⟨k, hk, rfl, hst⟩ := hrel
    obtain ⟨vR, LR, RV, hst, hLR, hRL, hRn⟩ := hst.out
    have HST := Lib.hid hst
    have HLR := Lib.hid hLR
    have HRL := Lib.hid hRL
    have HRN := Lib.hid hRn
    clear hst hLR hRL hRn HS2
    by_cases h1 : k < 3
    · have g1 : decide ((k:Int) < 3) = true := decide_eq_true (by omega)
      have k1 : IntKind.i64.wrap ((k:Int) + 1) = (k:Int) + 1 := IntWalk.i64_in _ (by omega)
      by_cases h2 : k = 1
      · have g2 : ((k:Int) == 1) = true := by simp; omega
        clear h2
        have HTB := Lib.hid (table_all A3 c3 ys.length ys m rfl (by omega) wr (by omega) HV2.out (HGY.out _ _ _ _ HST.out))
        have HBT := Lib.hid (fun W vR LR RV h => between_all A3 c3 ys.length ys 0 (ys.length : Int) rfl (by omega) W (by omega) HV2.out (HGY.out W vR LR RV h))
        have ht1 := tabRs_length ys m
        have ht2 := betRs_256 ys 0 (ys.length : Int)
        generalize tabRs ys m = r1 at *
        generalize betRs ys 0 (ys.length : Int) = r2 at *
        generalize withinE ys m = e1 at *
        generalize betQ ys 0 (ys.length : Int) = e2 at *
        have HT1 := Lib.hid ht1
        have HT2 := Lib.hid ht2
        clear ht1 ht2
        go_wp2_with fail
        with_reducible refine HTB.out.mono ?_
        rintro e w3 ⟨A4, c4, rfl, hm, hb3⟩
        have HX4 := Lib.hid hm.addr
        have HS3 := Lib.hid (HST.out.add hb3 hm)
        clear hm hb3 HTB
        dsimp only
        go_wp2_with fail
        with_reducible refine (HBT.out w3 _ _ _ HS3.out).mono ?_
        rintro e w4 ⟨A5, c5, rfl, hm, hb4⟩
        have HX5 := Lib.hid hm.addr
        have HS4 := Lib.hid (HS3.out.add hb4 hm)
        clear hm hb4 HBT HS3
        dsimp only
        go_wp2_with fail
        refine (bookRowP bk w.heap.size _ _ _ _ _ _ _ _ A4 r1.length c4 HX4.out.1 HX4.out.2 w4 HS4.out.book (by rw [HLR.out]; have q1 := outs_length RV; have q2 := HRL.out; omega) HS4.out.below.size).mono ?_
        rintro e w5 ⟨rfl, ⟨v5, hb5⟩, hk5⟩
        have HS5 := Lib.hid (HS4.out.put hk5 hb5)
        clear hb5 hk5 HS4
        dsimp only
        go_wp2_with fail
        refine (bookRowP bk w.heap.size _ _ _ _ _ _ _ _ A5 r2.length c5 HX5.out.1 HX5.out.2 w5 HS5.out.book (by rw [HLR.out, List.length_append]; have q1 := outs_length RV; have q2 := HRL.out; have q3 := bkOf_le (.slice A4 r1.length c4); omega) HS5.out.below.size).mono ?_
        rintro e w6 ⟨rfl, ⟨v6, hb6⟩, hk6⟩
        have HS6 := Lib.hid (HS5.out.put hk6 hb6)
        clear hb6 hk6 HS5
        dsimp only
        go_wp2_with fail
        go_roundw
        case rel =>
          refine ⟨k + 1, by omega, by go_num, ⟨_, _, _, HS6.out, by rw [HLR.out]; simp, by simp [HRL.out]; omega, fun p hp => ?_⟩⟩
          simp only [List.mem_append, List.mem_singleton] at hp
          rcases hp with (hp | rfl) | rfl
          · exact HRN.out p hp
          · have := HT1.out; show r1.length ≤ 256; omega
          · exact HT2.out
        case measure => simp [intOf]; omega
      · have g2 : ((k:Int) == 1) = false := by simp; omega
        clear h2
        have HTB := Lib.hid (table_all A1 c1 xs.length xs m rfl (by omega) wr (by omega) HV.out (HGX.out _ _ _ _ HST.out))
        have HBT := Lib.hid (fun W vR LR RV h => between_all A1 c1 xs.length xs 0 (xs.length : Int) rfl (by omega) W (by omega) HV.out (HGX.out W vR LR RV h))
        have ht1 := tabRs_length xs m
        have ht2 := betRs_256 xs 0 (xs.length : Int)
        generalize tabRs xs m = r1 at *
        generalize betRs xs 0 (xs.length : Int) = r2 at *
        generalize withinE xs m = e1 at *
        generalize betQ xs 0 (xs.length : Int) = e2 at *
        have HT1 := Lib.hid ht1
        have HT2 := Lib.hid ht2
        clear ht1 ht2
        go_wp2_with fail
        with_reducible refine HTB.out.mono ?_
        rintro e w3 ⟨A4, c4, rfl, hm, hb3⟩
        have HX4 := Lib.hid hm.addr
        have HS3 := Lib.hid (HST.out.add hb3 hm)
        clear hm hb3 HTB
        dsimp only
        go_wp2_with fail
        with_reducible refine (HBT.out w3 _ _ _ HS3.out).mono ?_
        rintro e w4 ⟨A5, c5, rfl, hm, hb4⟩
        have HX5 := Lib.hid hm.addr
        have HS4 := Lib.hid (HS3.out.add hb4 hm)
        clear hm hb4 HBT HS3
        dsimp only
        go_wp2_with fail
        refine (bookRowP bk w.heap.size _ _ _ _ _ _ _ _ A4 r1.length c4 HX4.out.1 HX4.out.2 w4 HS4.out.book (by rw [HLR.out]; have q1 := outs_length RV; have q2 := HRL.out; omega) HS4.out.below.size).mono ?_
        rintro e w5 ⟨rfl, ⟨v5, hb5⟩, hk5⟩
        have HS5 := Lib.hid (HS4.out.put hk5 hb5)
        clear hb5 hk5 HS4
        dsimp only
        go_wp2_with fail
        refine (bookRowP bk w.heap.size _ _ _ _ _ _ _ _ A5 r2.length c5 HX5.out.1 HX5.out.2 w5 HS5.out.book (by rw [HLR.out, List.length_append]; have q1 := outs_length RV; have q2 := HRL.out; have q3 := bkOf_le (.slice A4 r1.length c4); omega) HS5.out.below.size).mono ?_
        rintro e w6 ⟨rfl, ⟨v6, hb6⟩, hk6⟩
        have HS6 := Lib.hid (HS5.out.put hk6 hb6)
        clear hb6 hk6 HS5
        dsimp only
        go_wp2_with fail
        go_roundw
        case rel =>
          refine ⟨k + 1, by omega, by go_num, ⟨_, _, _, HS6.out, by rw [HLR.out]; simp, by simp [HRL.out]; omega, fun p hp => ?_⟩⟩
          simp only [List.mem_append, List.mem_singleton] at hp
          rcases hp with (hp | rfl) | rfl
          · exact HRN.out p hp
          · have := HT1.out; show r1.length ≤ 256; omega
          · exact HT2.out
        case measure => simp [intOf]; omega
    · have g1 : decide ((k:Int) < 3) = false := decide_eq_false (by omega)
      have HAP := Lib.hid (HST.out.apart HLR.out (by have := HRL.out; omega) HRN.out)
      clear HGX HGY h1 HST
      go_wp2_with fail
      refine HAP.out.mono ?_
      rintro e w7 ⟨rfl, hb7, hg7⟩
      have HB7 := Lib.hid hb7
      have HG7 := Lib.hid hg7
      clear hb7 hg7 HAP
      dsimp only
      go_wp2_with fail
      refine (givenIntact gb w.heap.size _ w7 HG7.out (by simp)).mono ?_
      rintro e w' ⟨rfl, q8, rfl⟩
      have HB8 := Lib.hid (below_drewN HB7.out q8)
      generalize w7.drewN q8 = w8 at *
      clear HG7 HB7
      dsimp only
      go_wp2_with fail
      refine (copyEntries A c xs.length xs rfl w8 (by omega) ((HA.out.below HB8.out).more HB8.out.size)).mono ?_
      rintro e w9 ⟨A9, c9, rfl, hm9, hb9⟩
      have hc9 : xs.length ≤ c9 := by obtain ⟨A', c', hv, hc'⟩ := hm9.form; injection hv with h1 h2 h3; omega
      have HB9 := Lib.hid (HB8.out.trans (hb9.mono HB8.out.size))
      have HM9 := Lib.hid (hm9.base' HB8.out.size)
      have HR9 := Lib.hid (hm9.rd' encEntry.len)
      clear hm9 hb9 HB8
      have HTB := Lib.hid (table_all A9 c9 xs.length xs m rfl hc9 w9 (by omega) HV.out HR9.out)
      dsimp only
      go_wp2_with fail
      with_reducible refine HTB.out.mono ?_
      rintro e w10 ⟨A10, c10, rfl, hm, hb10⟩
      have HBX := Lib.hid hb10
      clear hm hb10 HTB
      have HBT := Lib.hid (between_all A9 c9 xs.length xs 0 (xs.length : Int) rfl hc9 w10 (by omega) HV.out ((HR9.out.below HBX.out).more HBX.out.size))
      dsimp only
      go_wp2_with fail
      with_reducible refine HBT.out.mono ?_
      rintro e w11 ⟨A11, c11, rfl, hm, hb11⟩
      have HBY := Lib.hid (HBX.out.trans (hb11.mono HBX.out.size))
      clear hm hb11 HBT HBX
      have HAK := Lib.hid (ask_all A9 c9 xs.length xs m 1 1 rfl hc9 w11 (by omega) HV.out ((HR9.out.below HBY.out).more HBY.out.size))
      dsimp only
      go_wp2_with fail
      with_reducible refine HAK.out.mono ?_
      rintro e w12 ⟨rfl, hb12⟩
      have hbz := HBY.out.trans (hb12.mono HBY.out.size)
      have HM12 := Lib.hid (HM9.out.below hbz fun b q => (HM9.out.lt b q).2)
      have HB12 := Lib.hid (HB9.out.trans (hbz.mono HB9.out.size))
      clear hb12 HAK hbz HBY HM9 HB9 HR9
      dsimp only
      go_wp2_with fail
      obtain ⟨N, hN⟩ : ∃ N, N = xs.length := ⟨_, rfl⟩
      have HNX := Lib.hid hN
      have hN2 : (N + 1) * 48 ≤ 140737488355328 := by omega
      have HMN : Hid (Made Entry.cells 5 32 w.heap.size w12 (.slice A9 N c9) xs) := by rw [hN]; exact HM12.out
      have hNc : N ≤ c9 := by omega
      rw [← hN]
      clear hN HM12 hc9
      go_loopw [18] (fun i wr => ∃ (k : Nat) (zs : List Entry), k ≤ N ∧ i = .int .i64 k ∧ Hid (zs.length = N) ∧ Hid (∀ z ∈ zs, z.op.value.size ≤ 9223372036854775807) ∧ Hid (Made Entry.cells 5 32 w.heap.size wr (.slice A9 N c9) zs) ∧ Hid (Below w.heap.size w wr)) (fun i _ => N - (intOf i).toNat)
      case atStart => exact ⟨0, xs, by omega, rfl, HNX.out.symm, HV.out, HMN.out, HB12.out⟩
      case round =>
        obtain ⟨j, zs, hj, rfl, hzl, hzv, hzm, hzb⟩ := hrel
        by_cases h4 : j < N
        · have g4 : decide ((j:Int) < (N:Int)) = true := decide_eq_true (by omega)
          have g4b : decide (j < N) = true := decide_eq_true h4
          have i0 : (0:Int) ≤ (j:Int) := by omega
          have i1 : (j:Int) < (N:Int) := by omega
          have k2 : IntKind.i64.wrap ((j:Int) + 1) = (j:Int) + 1 := IntWalk.i64_in _ (by omega)
          have HZL := hzl
          have hjz : j < zs.length := by rw [hzl.out]; exact h4
          have hmz : Made Entry.cells 5 32 w.heap.size wr (.slice A9 zs.length c9) zs := by rw [hzl.out]; exact hzm.out
          obtain ⟨ad, hAd, hx1, hx2⟩ := (Made.rd' encEntry.len hmz).at_ hjz
          obtain ⟨g, rfl⟩ := (hmz.addr).1 ad hAd
          subst hAd
          clear hx1 hx2
          have HMZ := Lib.hid hmz
          have HJZ : Hid (j < zs.length) := hjz
          clear hmz hjz
          go_wp2_with fail
          refine (write05 _ _ wr).mono ?_
          rintro e w13 ⟨rfl, hb13⟩
          have hm13 := HMZ.out.below hb13 fun b q => (HMZ.out.lt b q).2
          have HB13 := Lib.hid (hzb.out.trans (hb13.mono hzb.out.size))
          have hpl := fun m hm => Made.place encEntry.len hm13 HJZ.out m hm
          obtain ⟨⟨u2, e2⟩, f2⟩ := hpl 2 (by omega)
          obtain ⟨⟨u3, e3⟩, f3⟩ := hpl 3 (by omega)
          obtain ⟨⟨u4, e4⟩, f4⟩ := hpl 4 (by omega)
          obtain ⟨_, f0⟩ := hpl 0 (by omega)
          obtain ⟨ad', e', _, hca⟩ := (Made.rd' encEntry.len hm13).at_ HJZ.out
          cases e'
          rw [addr_at] at hca
          rw [Nat.add_zero] at f0
          obtain ⟨zc, hzc⟩ : ∃ zc, zc = (zs[j]'HJZ.out).client := ⟨_, rfl⟩
          have e0 : w13.cell? ⟨g, j * 5, none⟩ = some (.int .i64 zc) := by rw [hzc]; exact hca.five.1
          have e3' : (w13.setCell ⟨g, j * 5 + 2, none⟩ (.int .i64 1)).cell? ⟨g, j * 5 + 3, none⟩ = some u3 := (World.cell?_setCell_other _ _ _ _ (by simp)).trans e3
          have f3' : (w13.setCell ⟨g, j * 5 + 2, none⟩ (.int .i64 1)).frozen? ⟨g, j * 5 + 3, none⟩ = false := by rw [World.frozen?_setCell]; exact f3
          have e4' : ((w13.setCell ⟨g, j * 5 + 2, none⟩ (.int .i64 1)).setCell ⟨g, j * 5 + 3, none⟩ (.int .i64 ((j : Int) % 5))).cell? ⟨g, j * 5 + 4, none⟩ = some u4 := (World.cell?_setCell_other _ _ _ _ (by simp)).trans ((World.cell?_setCell_other _ _ _ _ (by simp)).trans e4)
          have f4' : ((w13.setCell ⟨g, j * 5 + 2, none⟩ (.int .i64 1)).setCell ⟨g, j * 5 + 3, none⟩ (.int .i64 ((j : Int) % 5))).frozen? ⟨g, j * 5 + 4, none⟩ = false := by rw [World.frozen?_setCell, World.frozen?_setCell]; exact f4
          have e0' : (((w13.setCell ⟨g, j * 5 + 2, none⟩ (.int .i64 1)).setCell ⟨g, j * 5 + 3, none⟩ (.int .i64 ((j : Int) % 5))).setCell ⟨g, j * 5 + 4, none⟩ (.string ⟨#[122]⟩)).cell? ⟨g, j * 5, none⟩ = some (.int .i64 zc) := (World.cell?_setCell_other _ _ _ _ (by simp)).trans ((World.cell?_setCell_other _ _ _ _ (by simp)).trans ((World.cell?_setCell_other _ _ _ _ (by simp)).trans e0))
          have f0' : (((w13.setCell ⟨g, j * 5 + 2, none⟩ (.int .i64 1)).setCell ⟨g, j * 5 + 3, none⟩ (.int .i64 ((j : Int) % 5))).setCell ⟨g, j * 5 + 4, none⟩ (.string ⟨#[122]⟩)).frozen? ⟨g, j * 5, none⟩ = false := by rw [World.frozen?_setCell, World.frozen?_setCell, World.frozen?_setCell]; exact f0
          have HM13 := Lib.hid hm13
          have HG13 := Lib.hid (hm13.lt g rfl)
          clear hzc hca hpl e0 f0 hm13 hb13
          dsimp only
          go_wp2_with fail
          go_roundw
          case rel =>
            have h := HM13.out.spoilN HZL.out j HJZ.out (bits BinOp.xor IntKind.i64 zc 1) ⟨1, (j : Int) % 5, ⟨#[122]⟩⟩
            refine ⟨j + 1, zs.set j ⟨bits BinOp.xor IntKind.i64 zc 1, (zs[j]'HJZ.out).number, ⟨1, (j : Int) % 5, ⟨#[122]⟩⟩⟩, by omega, by go_num, by rw [List.length_set]; exact HZL.out, fun z hz => ?_, h, ?_⟩
            · rcases List.mem_or_eq_of_mem_set hz with hz | rfl
              · exact hzv.out z hz
              · simp [ByteArray.size]
            · exact (((HB13.out.setCell (p := ⟨g, j * 5 + 2, none⟩) HG13.out.1 _).setCell (p := ⟨g, j * 5 + 3, none⟩) HG13.out.1 _).setCell (p := ⟨g, j * 5 + 4, none⟩) HG13.out.1 _).setCell (p := ⟨g, j * 5, none⟩) HG13.out.1 _
          case measure => simp [intOf]; omega
        · have g4 : decide ((j:Int) < (N:Int)) = false := decide_eq_false (by omega)
          have g4b : decide (j < N) = false := decide_eq_false h4
          clear h4 HMN HB12
          have HZL := hzl
          have HZV := hzv
          have HMZ : Hid (Made Entry.cells 5 32 w.heap.size wr (.slice A9 zs.length c9) zs) := by
            have h := hzm.out
            rw [← hzl.out] at h
            exact h
          have HRZ := Lib.hid (Made.rd' encEntry.len HMZ.out)
          have HZB := hzb
          have hNz : zs.length = N := hzl.out
          have hzc : zs.length ≤ c9 := by omega
          have hz48 : (zs.length + 1) * 48 ≤ 140737488355328 := by omega
          have HT := Lib.hid (table_all A9 c9 zs.length zs m rfl hzc wr (by omega) HZV.out HRZ.out)
          have HTR := Lib.hid (fun W (hW : Below wr.heap.size wr W) => table_allR A9 c9 zs.length zs m rfl W hz48 HZV.out ((HRZ.out.below hW).more hW.size))
          have HB := Lib.hid (fun W (hW : Below wr.heap.size wr W) => between_all A9 c9 zs.length zs 0 (zs.length : Int) rfl hzc W (by omega) HZV.out ((HRZ.out.below hW).more hW.size))
          have HBR := Lib.hid (fun W (hW : Below wr.heap.size wr W) => between_allR A9 c9 zs.length zs 0 (zs.length : Int) rfl W (by omega) HZV.out ((HRZ.out.below hW).more hW.size))
          have HAK := Lib.hid (fun W (hW : Below wr.heap.size wr W) => ask_all A9 c9 zs.length zs m 1 1 rfl hzc W (by omega) HZV.out ((HRZ.out.below hW).more hW.size))
          have HAKR := Lib.hid (fun W (hW : Below wr.heap.size wr W) => ask_allR A9 c9 zs.length zs m 1 1 rfl W hz48 HZV.out ((HRZ.out.below hW).more hW.size))
          have ht1 := tabRs_length zs m
          have ht2 := betRs_256 zs 0 (zs.length : Int)
          rw [hNz] at HT HTR HB HBR HAK HAKR ht2
          generalize tabRs zs m = r1 at *
          generalize betRs zs 0 (N : Int) = r2 at *
          generalize withinE zs m = q1 at *
          generalize betQ zs 0 (N : Int) = q2 at *
          generalize askQ zs m 1 1 = q3 at *
          obtain ⟨av, hav⟩ : ∃ v, v = (askA zs m 1 1).1 := ⟨_, rfl⟩
          obtain ⟨ar, har⟩ : ∃ r, r = (askA zs m 1 1).2 := ⟨_, rfl⟩
          rw [← hav, ← har] at HAK HAKR
          have HT1 := Lib.hid ht1
          have HT2 := Lib.hid ht2
          clear hav har hzl hzv hzm hzb hNz hzc hz48 ht1 ht2 HMZ HRZ
          go_wp2_with fail
          with_reducible refine HT.out.mono ?_
          rintro e w20 ⟨A20, c20, rfl, hm20, hb20⟩
          have HB20 := Lib.hid hb20
          have HR20 := Lib.hid (hm20.rd' encRow.len)
          clear hm20 hb20 HT
          dsimp only
          go_wp2_with fail
          with_reducible refine (HTR.out w20 HB20.out).mono ?_
          rintro e w21 ⟨A21, c21, rfl, hm21, hb21⟩
          have HSR1 := Lib.hid (sameRowsTrue A20 A21 c20 c21 r1.length r1 rfl w21 (by have := HT1.out; omega) ((HR20.out.below hb21).more hb21.size) (hm21.rd' encRow.len))
          have HB21 := Lib.hid (HB20.out.trans (hb21.mono HB20.out.size))
          have HRA := Lib.hid ((HR20.out.below hb21).more hb21.size)
          have HRB := Lib.hid (hm21.rd' encRow.len)
          clear hm21 hb21 HTR HB20 HR20
          dsimp only
          go_wp2_with fail
          with_reducible refine (HB.out w21 HB21.out).mono ?_
          rintro e w22 ⟨A22, c22, rfl, hm22, hb22⟩
          have HB22 := Lib.hid (HB21.out.trans (hb22.mono HB21.out.size))
          have HRC := Lib.hid (hm22.rd' encRow.len)
          have HRA2 := Lib.hid ((HRA.out.below hb22).more hb22.size)
          have HRB2 := Lib.hid ((HRB.out.below hb22).more hb22.size)
          clear hm22 hb22 HB HB21 HRA HRB HSR1
          dsimp only
          go_wp2_with fail
          with_reducible refine (HBR.out w22 HB22.out).mono ?_
          rintro e w23 ⟨A23, c23, rfl, hm23, hb23⟩
          have HB23 := Lib.hid (HB22.out.trans (hb23.mono HB22.out.size))
          have HRD := Lib.hid (hm23.rd' encRow.len)
          have HRA3 := Lib.hid ((HRA2.out.below hb23).more hb23.size)
          have HRB3 := Lib.hid ((HRB2.out.below hb23).more hb23.size)
          have HRC3 := Lib.hid ((HRC.out.below hb23).more hb23.size)
          clear hm23 hb23 HBR HB22 HRA2 HRB2 HRC
          have geq : ∀ W, (binOp .eql 58 (.agg #[.int .i64 ar.code, .int .i64 ar.slot, .string ar.value]) (.agg #[.int .i64 ar.code, .int .i64 ar.slot, .string ar.value])).run Try.prog W = .ok (.bool true) W := fun W => by have h := eql_res ar ar W; simpa using h
          have hgr := guard_res
          dsimp only
          go_wp2_with fail
          with_reducible refine (HAK.out w23 HB23.out).mono ?_
          rintro e w24 ⟨rfl, hb24⟩
          obtain ⟨V2, hV2⟩ : ∃ V, V = w24.alloc (.cells #[.int .i64 ar.code, .int .i64 ar.slot, .string ar.value] 58) := ⟨_, rfl⟩
          have ba2 : Below w24.heap.size w24 V2 := by rw [hV2]; exact (Below.refl _ _).alloc (Nat.le_refl _) _
          have bw2 := hb24.trans (ba2.mono hb24.size)
          have HB24 := Lib.hid (HB23.out.trans (bw2.mono HB23.out.size))
          have HK2 : Hid (V2.heap[w24.heap.size]? = some (.cells #[.int .i64 ar.code, .int .i64 ar.slot, .string ar.value] 58 (0, 0))) := by show _ = _; rw [hV2]; exact heap_alloc_new _ _
          have HW2 := Lib.hid bw2
          have HV2 := Lib.hid hV2
          clear hb24 ba2 bw2 hV2 HAK
          dsimp only
          go_wp2_with fail
          rw [← HV2.out]
          with_reducible refine (HAKR.out V2 HB24.out).mono ?_
          rintro e w25 ⟨rfl, hb25⟩
          obtain ⟨V3, hV3⟩ : ∃ V, V = w25.alloc (.cells #[.int .i64 ar.code, .int .i64 ar.slot, .string ar.value] 58) := ⟨_, rfl⟩
          have ba3 : Below w25.heap.size w25 V3 := by rw [hV3]; exact (Below.refl _ _).alloc (Nat.le_refl _) _
          have bw3 := hb25.trans (ba3.mono hb25.size)
          have HB25 := Lib.hid (HZB.out.trans ((HB24.out.trans (bw3.mono HB24.out.size)).mono HZB.out.size))
          have hw := HW2.out.trans (bw3.mono HW2.out.size)
          have HSA := Lib.hid (sameRowsTrue A20 A21 c20 c21 r1.length r1 rfl V3 (by have := HT1.out; omega) ((HRA3.out.below hw).more hw.size) ((HRB3.out.below hw).more hw.size))
          have HRC4 := Lib.hid ((HRC3.out.below hw).more hw.size)
          have HRD4 := Lib.hid ((HRD.out.below hw).more hw.size)
          have HK2' := Lib.hid ((bw3.block _ (Array.getElem?_eq_some_iff.1 HK2.out).1).trans HK2.out)
          have HK3 : Hid (V3.heap[w25.heap.size]? = some (.cells #[.int .i64 ar.code, .int .i64 ar.slot, .string ar.value] 58 (0, 0))) := by show _ = _; rw [hV3]; exact heap_alloc_new _ _
          have HV3 := Lib.hid hV3
          clear hb25 ba3 bw3 hV3 hw HAKR HB24 HV2 HK2 HW2
          dsimp only
          go_wp2_with fail
          rw [← HV3.out]
          clear HV3
          with_reducible refine (num05 _ _).mono ?_
          rintro e w' ⟨rfl, hw4⟩
          rw [← hw4]
          clear hw4 w'
          dsimp only
          go_wp2_with fail
          refine HSA.out.mono ?_
          rintro e w' ⟨rfl, q5, hw5⟩
          obtain ⟨V5, hV5⟩ : ∃ V5, V5 = V3.drewN q5 := ⟨_, rfl⟩
          rw [hw5, ← hV5]
          have HSB : Hid (∃ _ : True, Calls Try.prog 36 #[.slice A22 r2.length c22, .slice A23 r2.length c23] V5 fun e w' => e = .returned (.bool true) ∧ ∃ q, w' = V5.drewN q) := by
            refine ⟨trivial, ?_⟩
            rw [hV5]
            exact sameRowsTrue A22 A23 c22 c23 r2.length r2 rfl _ (by have := HT2.out; omega) HRC4.out HRD4.out
          have HB26 : Hid (Below w.heap.size w V5) := by rw [hV5]; exact below_drewN HB25.out q5
          have HK4 : Hid (V5.heap[w24.heap.size]? = some (.cells #[.int .i64 ar.code, .int .i64 ar.slot, .string ar.value] 58 (0, 0))) := by rw [hV5]; exact HK2'.out
          have HK5 : Hid (V5.heap[w25.heap.size]? = some (.cells #[.int .i64 ar.code, .int .i64 ar.slot, .string ar.value] 58 (0, 0))) := by rw [hV5]; exact HK3.out
          clear hV5 hw5 w' HSA HB25 HK2' HK3 HRC4 HRD4
          dsimp only
          go_wp2_with fail
          with_reducible refine (num05 _ _).mono ?_
          rintro e w' ⟨rfl, hw4⟩
          rw [← hw4]
          clear hw4 w'
          dsimp only
          go_wp2_with fail
          obtain ⟨_, hsb⟩ := HSB.out
          refine hsb.mono ?_
          rintro e w' ⟨rfl, q6, hw6⟩
          obtain ⟨V6, hV6⟩ : ∃ V6, V6 = V5.drewN q6 := ⟨_, rfl⟩
          rw [hw6, ← hV6]
          have HB27 : Hid (Below w.heap.size w V6) := by rw [hV6]; exact below_drewN HB26.out q6
          have k4 : V6.heap[w24.heap.size]? = some (.cells #[.int .i64 ar.code, .int .i64 ar.slot, .string ar.value] 58 (0, 0)) := by rw [hV6]; exact HK4.out
          have k5 : V6.heap[w25.heap.size]? = some (.cells #[.int .i64 ar.code, .int .i64 ar.slot, .string ar.value] 58 (0, 0)) := by rw [hV6]; exact HK5.out
          have x0 := cell_of_row V6 w24.heap.size 0 _ _ _ k4
          have x1 := cell_of_row V6 w24.heap.size 1 _ _ _ k4
          have x2 := cell_of_row V6 w24.heap.size 2 _ _ _ k4
          have y0 := cell_of_row V6 w25.heap.size 0 _ _ _ k5
          have y1 := cell_of_row V6 w25.heap.size 1 _ _ _ k5
          have y2 := cell_of_row V6 w25.heap.size 2 _ _ _ k5
          clear hV6 hw6 w' hsb HSB HB26 HK4 HK5 k4 k5
          dsimp only
          go_wp2_with fail
          with_reducible refine (num05 _ _).mono ?_
          rintro e w' ⟨rfl, hw4⟩
          rw [← hw4]
          clear hw4 w'
          dsimp only
          go_wp2_with fail
          go_ret
          exact ⟨rfl, HB27.out⟩

theorem own05_law (W : World) (A : Option Addr) (c n : Nat) (xs : List Entry) (hn : n = xs.length) (_ : n ≤ c) (hrd : Rd Entry.cells 5 W W.heap.size A xs) (hwf : ∀ o ∈ xs, o.wf) (hsz : xs.length * 48 ≤ 140737488351232)
    (A2 : Option Addr) (c2 n2 : Nat) (ys : List Entry) (hn2 : n2 = ys.length) (_ : n2 ≤ c2) (hrd2 : Rd Entry.cells 5 W W.heap.size A2 ys) (hwf2 : ∀ o ∈ ys, o.wf) (hsz2 : ys.length * 48 ≤ 140737488351232) (m : Int) (_ : I64 m) :
    Calls Try.prog 12 #[.slice A n c, .slice A2 n2 c2, .int .i64 m] W fun e w' => e = .returned (.bool true) ∧ Below W.heap.size W w' :=
  own05_calls A A2 c n c2 n2 xs ys m hn hn2 W (by omega) (by omega) (fun o ho => (hwf o ho).op.value) (fun o ho => (hwf2 o ho).op.value) hrd hrd2
end Go.Proofs.Ytnfilklgogaheaa
