/- The book of lists: what it keeps, lists in memory of their own, and an append that tells whether it moved. Plain memory. Conditions: none. -/
import Derived.Test.YtmfidhlhcochoaaStore
import Derived.Test.YtmfidhlhcochoaaGiven
import Derived.Deep.MidRow
namespace Go.Proofs.Ytmfidhlhcochoaa
open Go.RowKit
set_option linter.unusedVariables false
set_option linter.unusedSimpArgs false

/-- One list that lies in the book: its block, length, capacity. -/
structure Bk where
  g : Nat
  n : Nat
  c : Nat
def Bk.v (b : Bk) : Value := .slice (some ⟨b.g, 0, none⟩) b.n b.c
def Bk.x (b : Bk) : { v : Value // v.oneCell' = true } := ⟨b.v, rfl⟩

section app2
variable {P : Program} {t e : TypeId} {k bytes : Nat} {α : Type} {enc : α → List Value}
/-- append of one element to a row of the call's own: there is room (the same block), or it moves (all that was stays). -/
theorem run_app2 (w : World) (T : RowT P t e k bytes) (E : Enc enc k) (ty : TypeId) (base : Nat) {g n cap : Nat} {xs : List α} {y : α} (hn : n = xs.length) (hv : Made enc k e base w (.slice (some ⟨g, 0, none⟩) n cap) xs) {B : Nat} {A : Option Addr} {c m : Nat} (hm : m = 1) (hy : Rd enc k w B A [y])
    (hbytes : (xs.length + 1) * bytes ≤ 140737488355328) (h63 : xs.length + 1 ≤ maxLen) (hbase : base ≤ w.heap.size) :
    ∃ (b : Bk) (w' : World), (Builtin.append_ #[t, t] ty #[.slice (some ⟨g, 0, none⟩) n cap, .slice A m c]).run P w = .ok b.v w' ∧ b.n = n + 1 ∧ Made enc k e base w' b.v (xs ++ [y]) ∧
      ((b.g = g ∧ w.grownBy w' (some g)) ∨ (b.g = w.heap.size ∧ Below w.heap.size w w')) := by
  obtain ⟨v', w', hrun, hmd, hgr, hat⟩ := run_app w T E ty base hv (c := c) (m := m) (by simpa using hm) hy (by simpa using hbytes) (by simpa using h63) hbase
  subst hn
  obtain ⟨A', c', rfl, hc'⟩ := hmd.form
  obtain ⟨i, z, hi, hz, hs, hb, hzs⟩ := T.info
  have hA : ∃ ad, A = some ad := by obtain ⟨ad, q, _⟩ := hy 0 y rfl; exact ⟨ad, q⟩
  obtain ⟨ad, rfl⟩ := hA
  have hl1 : (xs ++ [y]).length = xs.length + 1 := by simp
  rcases hv.2 with ⟨hvn, _⟩ | ⟨g', cap', cur, hvv, hbg, hg, hnc, hcm, hcs, htake⟩
  · cases hvn
  injection hvv with q1 q2 q3
  injection q1 with q1
  injection q1 with q1
  subst q1 q3
  have hfl : (flat enc [y]).length = m * i.size := by rw [flat_length E.len, hs, hm]; simp
  have hnews : ∀ j u, (flat enc [y])[j]? = some u → w.cell? (ad.add j) = some u := hy.flatAt E.len T.pos
  by_cases hroom : xs.length + m ≤ cap
  · have hfit : xs.length * i.size + (flat enc [y]).length ≤ cur.size := by rw [hfl, hcs, hs, ← Nat.add_mul]; exact Nat.mul_le_mul_right _ hroom
    have hr := run_append_room (P := P) w t ty e i T.under hi g xs.length cap cur hg ad m c (flat enc [y]) hfl hnews (E.flat_one [y]) hroom hfit
    rw [hr] at hrun
    injection hrun with r1 r2
    injection r1 with r1 r3 r4
    subst r1
    refine ⟨⟨g, xs.length + m, cap⟩, w', ?_, by simp [hm], ?_, .inl ⟨rfl, hgr⟩⟩
    · rw [hr, r2]; rfl
    · show Made enc k e base w' (.slice (some ⟨g, 0, none⟩) (xs.length + m) cap) (xs ++ [y])
      rw [r3, r4]; exact hmd
  · have hsmall : xs.length + m ≤ 9223372036854775807 := by simp only [maxLen] at h63; omega
    have holds : ∀ j u, (flat enc xs)[j]? = some u → w.cell? ((⟨g, 0, none⟩ : Addr).add j) = some u := World.ownsRow.cells (g := g) hv rfl
    have hr := run_append_grow (P := P) w t ty e i z T.under hi hz ⟨g, 0, none⟩ xs.length cap (flat enc xs) (by rw [flat_length E.len, hs]) holds ad m c (flat enc [y]) hfl hnews (by omega) (by omega) (growslice_fits (by omega) (by rw [hm, hb]; exact hbytes))
    rw [hr] at hrun
    injection hrun with r1 r2
    injection r1 with r1 r3 r4
    subst r1
    refine ⟨⟨w.heap.size, (xs ++ [y]).length, c'⟩, w', ?_, hl1, hmd, .inr ⟨rfl, ?_⟩⟩
    · rw [hr, r2, r4, r3]; rfl
    · rw [← r2]; exact ⟨rfl, rfl, rfl, by simp, fun j hj => heap_alloc_old w.drew _ hj⟩
theorem wpList_app2 {w : World} (T : RowT P t e k bytes) (E : Enc enc k) {ops : Array Oper} {rest : List Oper} {o : Oper} {a : Act} {Q : Exit → Act → World → Prop} (hgd : o.guard = none) (s x : Operand)
    (ho : o.op = .call { callee := .builtin .append, args := #[s, x], argTypes := #[t, t] })
    (base : Nat) {g n cap : Nat} {xs : List α} {y : α} (hs : a.eval s = .slice (some ⟨g, 0, none⟩) n cap) (hn : n = xs.length) (hv : Made enc k e base w (.slice (some ⟨g, 0, none⟩) n cap) xs) {B : Nat} {A : Option Addr} {c m : Nat} (hx : a.eval x = .slice A m c) (hm : m = 1) (hy : Rd enc k w B A [y])
    (hbytes : (xs.length + 1) * bytes ≤ 140737488355328) (h63 : xs.length + 1 ≤ maxLen) (hbase : base ≤ w.heap.size)
    (h : ∀ (b : Bk) (w' : World), b.n = n + 1 → Made enc k e base w' b.v (xs ++ [y]) → ((b.g = g ∧ w.grownBy w' (some g)) ∨ (b.g = w.heap.size ∧ Below w.heap.size w w')) → wpList P ops Q rest (a.put o.dst b.v) w') : wpList P ops Q (o :: rest) a w := by
  refine wpList_plain hgd fun _ hK => ?_
  obtain ⟨b, w', hrun, h2, h3, h4⟩ := run_app2 w T E o.type base hn hv (c := c) hm hy hbytes h63 hbase
  unfold Oper.wp execOp
  simp only [ho, resolve, invoke, builtin, Sem.run_bind, Sem.run_pure, Result.andThen_ok, List.map_toArray, List.map_cons, List.map_nil, hs, hx, hrun]
  exact hK _ _ (h b w' h2 h3 h4)
end app2

theorem Rd.keepAt2 {α : Type} {enc : α → List Value} {k : Nat} {w w' : World} {B B' : Nat} {A : Option Addr} {xs : List α} (h : Rd enc k w B A xs) (hB : B ≤ B') (hk : ∀ ad, A = some ad → ad.block < B → w'.heap[ad.block]? = w.heap[ad.block]?) : Rd enc k w' B' A xs := fun i x hx => by
  obtain ⟨ad, e, hb, ha⟩ := h i x hx
  refine ⟨ad, e, by omega, ha.keep fun q hq => ?_⟩
  have h1 := hk ad e hb
  unfold World.cell?
  rw [hq, block_add, h1]
theorem setCells_put (g : Nat) (us : List Value) : ∀ (w : World) (o : Nat), w.setCells g o us = putCells w g o us := by
  induction us with
  | nil => intro w o; rfl
  | cons u us ih => intro w o; exact ih _ _
/-- The store of a whole element into a row of the call's own. -/
theorem run_put {P : Program} {α : Type} {enc : α → List Value} {k : Nat} {e ty : TypeId} {base : Nat} {w : World} {g n c q : Nat} {xs : List α} {x : α} {cells : Array Value} (E : Enc enc k) (h : Made enc k e base w (.slice (some ⟨g, 0, none⟩) n c) xs) (hn : xs.length = n) (hq : q < n) (hi : (P.info? ty).map (·.size) = some k) (hx : cells.toList = enc x) :
    (Instr.storeAt ty (.pointer (some ⟨g, q * k, none⟩)) (.agg cells)).run P w = .ok () (putCells w g (q * k) (enc x)) := by
  subst hn
  have hsz : cells.size = k := by rw [← Array.length_toList, hx, E.len]
  rw [← setCells_put, ← hx]
  refine run_storeAt_mid w g (q * k) ty cells (fun j hj => ?_) (by rw [hsz]; exact hi) ?_
  · obtain ⟨⟨u, h1⟩, h2⟩ := h.place E.len hq j (by omega)
    exact ⟨by rw [h1]; rfl, h2⟩
  · refine Array.all_eq_true_iff_forall_mem.2 fun v hv => ?_
    exact E.one x v (by rw [← hx]; simpa using hv)
/-- What the walk asks while it stores an element cell by cell. -/
def Stepped (w : World) (g o : Nat) : Nat → List Value → Prop
  | _, [] => True
  | j, u :: us => (∃ x, w.cell? ⟨g, o + j, none⟩ = some x) ∧ w.frozen? ⟨g, o + j, none⟩ = false ∧ Stepped (w.setCell ⟨g, o + j, none⟩ u) g o (j + 1) us
theorem stepped_of (g o : Nat) (us : List Value) : ∀ (j : Nat) (w : World), (∀ m, m < us.length → (∃ x, w.cell? ⟨g, o + (j + m), none⟩ = some x) ∧ w.frozen? ⟨g, o + (j + m), none⟩ = false) → Stepped w g o j us := by
  induction us with
  | nil => intro j w _; trivial
  | cons u us ih =>
    intro j w h
    refine ⟨(h 0 (by simp)).1, (h 0 (by simp)).2, ih (j + 1) _ fun m hm => ?_⟩
    obtain ⟨⟨x, h1⟩, h2⟩ := h (m + 1) (by simpa using hm)
    have e : j + 1 + m = j + (m + 1) := by omega
    rw [e]
    refine ⟨⟨x, ?_⟩, by rw [World.frozen?_setCell]; exact h2⟩
    rw [World.cell?_setCell_other _ _ _ _ (by simp)]
    exact h1
theorem Made.stepped {α : Type} {enc : α → List Value} {k : Nat} {e : TypeId} {base : Nat} {w : World} {g n c q : Nat} {xs : List α} (E : Enc enc k) (h : Made enc k e base w (.slice (some ⟨g, 0, none⟩) n c) xs) (hn : xs.length = n) (hq : q < n) (x : α) : Stepped w g (q * k) 0 (enc x) := by
  subst hn
  refine stepped_of g (q * k) (enc x) 0 w fun m hm => ?_
  rw [E.len] at hm
  rw [Nat.zero_add]
  exact h.place E.len hq m hm
section lists
variable {α : Type} {enc : α → List Value} {k : Nat} {e : TypeId} {base : Nat} {w w' : World} {L G : List Bk} {mk : Nat → Nat → α} {i kk m : Nat} {l c : Bk}
def marks (mk : Nat → Nat → α) (i n : Nat) : List α := (List.range n).map (mk i)
theorem marks_length (mk : Nat → Nat → α) (i n : Nat) : (marks mk i n).length = n := by simp [marks]
theorem marks_succ (mk : Nat → Nat → α) (i n : Nat) : marks mk i (n + 1) = marks mk i n ++ [mk i n] := by simp [marks, List.range_succ]
theorem marks_get (mk : Nat → Nat → α) (i n : Nat) {j : Nat} (h : j < n) : (marks mk i n)[j]? = some (mk i j) := by simp [marks, h]
theorem marks_take (mk : Nat → Nat → α) (i : Nat) {m n : Nat} (h : m ≤ n) : (marks mk i n).take m = marks mk i m := by
  simp only [marks, ← List.map_take, List.take_range, Nat.min_eq_left h]

/-- The lists lie in memory of their own, no two in one block; none is empty. -/
structure Lists (enc : α → List Value) (k : Nat) (e : TypeId) (base : Nat) (w : World) (L : List Bk) : Prop where
  made : ∀ l ∈ L, ∃ xs : List α, xs.length = l.n ∧ Made enc k e base w l.v xs
  apart : L.Pairwise (fun a b => a.g ≠ b.g)
theorem Lists.ne (h : L.Pairwise (fun a b => a.g ≠ b.g)) {i j : Nat} {a b : Bk} (ha : L[i]? = some a) (hb : L[j]? = some b) (hij : i ≠ j) : a.g ≠ b.g := by
  obtain ⟨h1, e1⟩ := List.getElem?_eq_some_iff.1 ha
  obtain ⟨h2, e2⟩ := List.getElem?_eq_some_iff.1 hb
  subst e1 e2
  have hp := List.pairwise_iff_getElem.1 h
  rcases Nat.lt_or_gt_of_ne hij with q | q
  · exact hp i j h1 h2 q
  · exact (hp j i h2 h1 q).symm

/-- In the midst of marking: list i has its first kk marks. -/
def MarkedAt (mk : Nat → Nat → α) (enc : α → List Value) (k : Nat) (e : TypeId) (base : Nat) (w : World) (L : List Bk) (i kk : Nat) : Prop :=
  ∀ (j : Nat) (l : Bk), L[j]? = some l → ∃ xs : List α, xs.length = l.n ∧ Made enc k e base w l.v xs ∧ (j < i → xs = marks mk j l.n) ∧ (j = i → xs.take kk = marks mk i kk)
theorem MarkedAt.start (h : Lists enc k e base w L) : MarkedAt mk enc k e base w L 0 0 := fun j l hj => by
  obtain ⟨xs, h1, h2⟩ := h.made l (List.mem_of_getElem? hj)
  exact ⟨xs, h1, h2, by omega, fun _ => by simp [marks]⟩
theorem MarkedAt.keep (h : MarkedAt mk enc k e base w L i kk) (hb : ∀ l ∈ L, w'.heap[l.g]? = w.heap[l.g]?) : MarkedAt mk enc k e base w' L i kk := fun j l hj => by
  obtain ⟨xs, h1, h2, h3, h4⟩ := h j l hj
  refine ⟨xs, h1, h2.same fun b q => ?_, h3, h4⟩
  simp only [Bk.v, Value.ownBlock] at q
  cases q
  exact hb l (List.mem_of_getElem? hj)
theorem MarkedAt.lt (h : MarkedAt mk enc k e base w L i kk) : ∀ l ∈ L, base ≤ l.g ∧ l.g < w.heap.size := fun l hl => by
  obtain ⟨j, hj⟩ := List.mem_iff_getElem?.1 hl
  obtain ⟨xs, h1, h2, _⟩ := h j l hj
  exact h2.lt l.g rfl
theorem MarkedAt.below (h : MarkedAt mk enc k e base w L i kk) (hb : Below w.heap.size w w') : MarkedAt mk enc k e base w' L i kk :=
  h.keep fun l hl => hb.block _ (h.lt l hl).2
theorem MarkedAt.step (hk : ∀ x, (enc x).length = k) (hp : 0 < k) (ha : L.Pairwise (fun a b => a.g ≠ b.g)) (h : MarkedAt mk enc k e base w L i kk) {l : Bk} (hl : L[i]? = some l) (hkk : kk < l.n) : MarkedAt mk enc k e base (putCells w l.g (kk * k) (enc (mk i kk))) L i (kk + 1) := fun j l' hj => by
  obtain ⟨xs, h1, h2, h3, h4⟩ := h j l' hj
  by_cases hji : j = i
  · subst hji
    rw [hl] at hj; cases hj
    have h2' : Made enc k e base w (.slice (some ⟨l.g, 0, none⟩) xs.length l.c) xs := by rw [h1]; exact h2
    have h5 := Made.put hk hp h2' (i := kk) (by omega) (mk j kk)
    refine ⟨xs.set kk (mk j kk), by simpa using h1, ?_, by omega, fun _ => ?_⟩
    · rw [List.length_set, h1] at h5; exact h5
    · rw [List.take_set, List.take_succ_eq_append_getElem (by omega), h4 rfl, List.set_append_right _ _ (by rw [marks_length]; omega), marks_length, Nat.sub_self, List.set_cons_zero, marks_succ]
  · refine ⟨xs, h1, h2.same fun b q => ?_, h3, fun q => absurd q hji⟩
    simp only [Bk.v, Value.ownBlock] at q
    cases q
    exact putCells_block (Lists.ne ha hj hl hji)
theorem MarkedAt.next (h : MarkedAt mk enc k e base w L i kk) {l : Bk} (hl : L[i]? = some l) (hkk : l.n ≤ kk) : MarkedAt mk enc k e base w L (i + 1) 0 := fun j l' hj => by
  obtain ⟨xs, h1, h2, h3, h4⟩ := h j l' hj
  refine ⟨xs, h1, h2, fun hji => ?_, fun _ => by simp [marks]⟩
  by_cases hq : j < i
  · exact h3 hq
  · obtain rfl : j = i := by omega
    rw [hl] at hj; cases hj
    have := h4 rfl
    rw [List.take_of_length_le (by omega)] at this
    rw [this]
    have hlen := congrArg List.length this
    rw [h1, marks_length] at hlen
    rw [hlen]

/-- In the midst of growing: the lists before i are grown (G), each of them in its old block or in one of its own; all old lists read their marks. -/
structure GrownAt (mk : Nat → Nat → α) (enc : α → List Value) (k : Nat) (e : TypeId) (base : Nat) (w : World) (L G : List Bk) (i : Nat) : Prop where
  len : G.length = i
  lt : ∀ (j : Nat) (l : Bk), L[j]? = some l → l.g < w.heap.size
  old : ∀ (j : Nat) (l : Bk), L[j]? = some l → Rd enc k w w.heap.size (some ⟨l.g, 0, none⟩) (marks mk j l.n)
  rest : ∀ (j : Nat) (l : Bk), L[j]? = some l → i ≤ j → Made enc k e base w l.v (marks mk j l.n)
  grown : ∀ (j : Nat) (b l : Bk), G[j]? = some b → L[j]? = some l → b.n = l.n + 70 ∧ Made enc k e base w b.v (marks mk j b.n)
  other : ∀ (j : Nat) (b : Bk), G[j]? = some b → ∀ (j' : Nat) (l : Bk), L[j']? = some l → j' ≠ j → b.g ≠ l.g
theorem GrownAt.start (h : MarkedAt mk enc k e base w L L.length 0) (hk : ∀ x, (enc x).length = k) : GrownAt mk enc k e base w L [] 0 := by
  have hm : ∀ (j : Nat) (l : Bk), L[j]? = some l → Made enc k e base w l.v (marks mk j l.n) := fun j l hj => by
    obtain ⟨xs, h1, h2, h3, _⟩ := h j l hj
    rw [h3 (List.getElem?_eq_some_iff.1 hj).1] at h2
    exact h2
  exact ⟨rfl, fun j l hj => ((hm j l hj).lt l.g rfl).2, fun j l hj => (hm j l hj).rd' hk, fun j l hj _ => hm j l hj, fun j b l hj => by simp at hj, fun j b hj => by simp at hj⟩
/-- While list i grows: its value is c so far. -/
structure GrowAt (mk : Nat → Nat → α) (enc : α → List Value) (k : Nat) (e : TypeId) (base : Nat) (w : World) (L G : List Bk) (i : Nat) (l c : Bk) (m : Nat) : Prop where
  len : G.length = i
  lt : ∀ (j : Nat) (l : Bk), L[j]? = some l → l.g < w.heap.size
  old : ∀ (j : Nat) (l : Bk), L[j]? = some l → Rd enc k w w.heap.size (some ⟨l.g, 0, none⟩) (marks mk j l.n)
  rest : ∀ (j : Nat) (l : Bk), L[j]? = some l → i < j → Made enc k e base w l.v (marks mk j l.n)
  grown : ∀ (j : Nat) (b l : Bk), G[j]? = some b → L[j]? = some l → b.n = l.n + 70 ∧ Made enc k e base w b.v (marks mk j b.n)
  other : ∀ (j : Nat) (b : Bk), G[j]? = some b → ∀ (j' : Nat) (l : Bk), L[j']? = some l → j' ≠ j → b.g ≠ l.g
  cn : c.n = l.n + m
  cur : Made enc k e base w c.v (marks mk i c.n)
  cother : ∀ (j' : Nat) (l : Bk), L[j']? = some l → j' ≠ i → c.g ≠ l.g
  cG : ∀ (j : Nat) (b : Bk), G[j]? = some b → b.g ≠ c.g
theorem GrowAt.start (h : GrownAt mk enc k e base w L G i) {l : Bk} (hl : L[i]? = some l) (ha : L.Pairwise (fun a b => a.g ≠ b.g)) : GrowAt mk enc k e base w L G i l l 0 :=
  ⟨h.len, h.lt, h.old, fun j l hj hij => h.rest j l hj (by omega), h.grown, h.other, rfl, h.rest i l hl (Nat.le_refl _), fun j' l' hj' hne => Lists.ne ha hl hj' (Ne.symm hne), fun j b hj => h.other j b hj i l hl (fun q => by have := (List.getElem?_eq_some_iff.1 hj).1; have := h.len; omega)⟩
theorem GrowAt.finish (h : GrowAt mk enc k e base w L G i l c 70) (hl : L[i]? = some l) (hi : i < L.length) : GrownAt mk enc k e base w L (G ++ [c]) (i + 1) := by
  have hG := h.len
  refine ⟨by simp [hG], h.lt, h.old, fun j l hj hij => h.rest j l hj (by omega), fun j b l' hj hl' => ?_, fun j b hj j' l' hl' hne => ?_⟩
  · by_cases hji : j < i
    · rw [List.getElem?_append_left (by omega)] at hj
      exact h.grown j b l' hj hl'
    · have hjl := (List.getElem?_eq_some_iff.1 hj).1
      simp at hjl
      obtain rfl : j = i := by omega
      rw [List.getElem?_append_right (by omega), hG, Nat.sub_self] at hj
      simp at hj
      subst hj
      rw [hl] at hl'; cases hl'
      exact ⟨h.cn, h.cur⟩
  · by_cases hji : j < i
    · rw [List.getElem?_append_left (by omega)] at hj
      exact h.other j b hj j' l' hl' hne
    · have hjl := (List.getElem?_eq_some_iff.1 hj).1
      simp at hjl
      obtain rfl : j = i := by omega
      rw [List.getElem?_append_right (by omega), hG, Nat.sub_self] at hj
      simp at hj
      subst hj
      exact h.cother j' l' hl' hne
theorem GrowAt.below (h : GrowAt mk enc k e base w L G i l c m) (hb : Below w.heap.size w w') : GrowAt mk enc k e base w' L G i l c m :=
  ⟨h.len, fun j l hj => Nat.lt_of_lt_of_le (h.lt j l hj) hb.size, fun j l hj => ((h.old j l hj).below hb).more hb.size, fun j l hj hij => (h.rest j l hj hij).below hb fun b q => ((h.rest j l hj hij).lt b q).2,
    fun j b l hj hl => ⟨(h.grown j b l hj hl).1, (h.grown j b l hj hl).2.below hb fun q e => ((h.grown j b l hj hl).2.lt q e).2⟩, h.other, h.cn, h.cur.below hb fun q e => (h.cur.lt q e).2, h.cother, h.cG⟩
theorem GrownAt.keep (h : GrownAt mk enc k e base w L G i) (hs : w.heap.size ≤ w'.heap.size) (hl : ∀ l ∈ L, w'.heap[l.g]? = w.heap[l.g]?) (hg : ∀ b ∈ G, b.g < w.heap.size → (∃ cs, w.heap[b.g]? = some (.cells cs e (0, 0))) → w'.heap[b.g]? = w.heap[b.g]?) (hG : G.length ≤ L.length) : GrownAt mk enc k e base w' L G i := by
  refine ⟨h.len, fun j l hj => Nat.lt_of_lt_of_le (h.lt j l hj) hs, fun j l hj => (h.old j l hj).keepAt2 hs fun ad e _ => ?_, fun j l hj hij => (h.rest j l hj hij).same fun b q => ?_, fun j b l hj hl' => ⟨(h.grown j b l hj hl').1, (h.grown j b l hj hl').2.same fun q e => ?_⟩, h.other⟩
  · cases e; exact hl l (List.mem_of_getElem? hj)
  · simp only [Bk.v, Value.ownBlock] at q
    cases q; exact hl l (List.mem_of_getElem? hj)
  · have h1 := ((h.grown j b l hj hl').2.lt q e).2
    have h2 := (h.grown j b l hj hl').2.cell_block e
    simp only [Bk.v, Value.ownBlock] at e
    cases e
    exact hg b (List.mem_of_getElem? hj) h1 h2
theorem GrownAt.below (h : GrownAt mk enc k e base w L G i) (hb : Below w.heap.size w w') (hG : G.length ≤ L.length) : GrownAt mk enc k e base w' L G i :=
  h.keep hb.size (fun l hl => by obtain ⟨j, hj⟩ := List.mem_iff_getElem?.1 hl; exact hb.block _ (h.lt j l hj)) (fun b _ hlt _ => hb.block _ hlt) hG
/-- One element more. -/
theorem GrowAt.step (h : GrowAt mk enc k e base w L G i l c m) (hk : ∀ x, (enc x).length = k) (hl : L[i]? = some l) (hlG : ∀ (j : Nat) (b : Bk), G[j]? = some b → ∃ l, L[j]? = some l) {b : Bk} (hn : b.n = c.n + 1) (hm : Made enc k e base w' b.v (marks mk i c.n ++ [mk i c.n]))
    (hg : (b.g = c.g ∧ w.grownBy w' (some c.g)) ∨ (b.g = w.heap.size ∧ Below w.heap.size w w')) : GrowAt mk enc k e base w' L G i l b (m + 1) := by
  rw [← marks_succ, ← hn] at hm
  have hcn := h.cn
  have hGb : ∀ (j : Nat) (q : Bk), G[j]? = some q → base ≤ q.g ∧ q.g < w.heap.size := fun j q hj => by
    obtain ⟨l', hl'⟩ := hlG j q hj
    exact (h.grown j q l' hj hl').2.lt q.g rfl
  rcases hg with ⟨h1, h2⟩ | ⟨h1, h2⟩
  · -- in place
    have hbl : ∀ j, j < w.heap.size → j ≠ c.g → w'.heap[j]? = w.heap[j]? := fun j hj hne => h2.block j hj (fun e => hne (by cases e; rfl))
    have hsz := h2.size
    refine ⟨h.len, fun j l hj => Nat.lt_of_lt_of_le (h.lt j l hj) hsz, fun j l' hj => ?_, fun j l' hj hij => ?_, fun j q l' hj hl' => ⟨(h.grown j q l' hj hl').1, ?_⟩, h.other, by omega, hm, fun j' l' hl' hne => by rw [h1]; exact h.cother j' l' hl' hne, fun j q hj => by rw [h1]; exact h.cG j q hj⟩
    · by_cases hji : j = i
      · subst hji
        rw [hl] at hj; cases hj
        by_cases hcl : c.g = l.g
        · have h5 := (Made.rd' hk hm).take l.n
          rw [marks_take mk j (by omega), h1, hcl] at h5
          exact h5
        · refine (h.old j l hl).keepAt2 hsz fun ad q hb => ?_
          cases q
          exact hbl _ hb (fun e => hcl e.symm)
      · refine (h.old j l' hj).keepAt2 hsz fun ad q hb => ?_
        cases q
        exact hbl _ hb (fun e => h.cother j l' hj hji e.symm)
    · refine (h.rest j l' hj hij).same fun q e => ?_
      have hq := (h.rest j l' hj hij).lt q e
      simp only [Bk.v, Value.ownBlock] at e
      cases e
      exact hbl _ hq.2 (fun e => h.cother j l' hj (by omega) e.symm)
    · refine (h.grown j q l' hj hl').2.same fun r e => ?_
      have hq := (h.grown j q l' hj hl').2.lt r e
      simp only [Bk.v, Value.ownBlock] at e
      cases e
      exact hbl _ hq.2 (h.cG j q hj)
  · -- moved
    have hB := h.below h2
    refine ⟨h.len, hB.lt, hB.old, hB.rest, hB.grown, h.other, by omega, hm, fun j' l' hl' hne q => ?_, fun j q hj e => ?_⟩
    · have := h.lt j' l' hl'; omega
    · have := (hGb j q hj).2; omega
end lists
end Go.Proofs.Ytmfidhlhcochoaa
