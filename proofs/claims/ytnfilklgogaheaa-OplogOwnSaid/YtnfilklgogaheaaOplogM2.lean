/- OplogOwn: what lives while it runs, and Apart over it. Conditions: none.
OplogOwn answers true, whatever the two scripts and the number. Conditions: sizes within the form's own reach. -/
import Derived.Test.YtnfilklgogaheaaOplogM1
import Derived.Test.YtnfilklgogaheaaBookEntry6
import Derived.Test.YtnfilklgogaheaaBookCell6
import Derived.Test.YtnfilklgogaheaaBookRes6
import Derived.Test.YtnfilklgogaheaaWhole
import Derived.Test.YtnfilklgogaheaaOplogM3
import Derived.Test.YtnfilklgogaheaaAppend
import Derived.Test.YtnfilklgogaheaaSplice
import Derived.Deep.RegionHeld3
namespace Go.Proofs.Ytnfilklgogaheaa
open Go.RowKit
set_option linter.unusedVariables false
set_option linter.unusedSimpArgs false

theorem Lists.perm {α : Type} {enc : α → List Value} {k : Nat} {e : TypeId} {base : Nat} {w : World} {L L' : List Bk} (h : Lists enc k e base w L) (hp : L.Perm L') : Lists enc k e base w L' :=
  ⟨fun l hl => h.made l (hp.mem_iff.2 hl), (hp.pairwise_iff (fun h => h.symm)).1 h.apart⟩
structure Own6 (w W : World) (bk : Nat) (vO : Value) (os : List Entry) (vE vC vS : Value) (LE LC LS : List Bk) (EV : List (Value × List Entry)) (CV : List (Value × List Cell)) (RV : List (Value × List Res)) (vK : Value) (KL : List { v : Value // v.oneCell' = true }) : Prop where
  below : Below w.heap.size w W
  own : Made Entry.cells 5 32 w.heap.size W vO os
  oe : Outs Entry.cells 5 32 w.heap.size W EV
  oc : Outs Cell.cells 2 56 w.heap.size W CV
  or : Outs Res.cells 3 58 w.heap.size W RV
  book : BookC W bk w.heap.size vE vC (.slice none 0 0) vS LE LC [] LS
  kept : Made slc 1 22 w.heap.size W vK KL
  hbk : w.heap.size ≤ bk
  hkv : ∀ j, vK.ownBlock = some j → vE.ownBlock ≠ some j
  hap : ∀ p ∈ EV, ∀ j, p.1.ownBlock = some j → vO.ownBlock ≠ some j
section
variable {w W W' : World} {bk : Nat} {vO vE vC vS vE' vC' vS' vK vK' : Value} {os os' : List Entry} {LE LC LS LE' LC' LS' : List Bk} {EV : List (Value × List Entry)} {CV : List (Value × List Cell)} {RV : List (Value × List Res)} {KL KL' : List { v : Value // v.oneCell' = true }}
theorem Own6.step (h : Own6 w W bk vO os vE vC vS LE LC LS EV CV RV vK KL) (hb : Below W.heap.size W W') : Own6 w W' bk vO os vE vC vS LE LC LS EV CV RV vK KL :=
  ⟨h.below.trans (hb.mono h.below.size), h.own.below hb fun b q => (h.own.lt b q).2, h.oe.below hb, h.oc.below hb, h.or.below hb, h.book.below hb, h.kept.below hb fun b q => (h.kept.lt b q).2, h.hbk, h.hkv, h.hap⟩
theorem Own6.addE (h : Own6 w W bk vO os vE vC vS LE LC LS EV CV RV vK KL) (hb : Below W.heap.size W W') {v : Value} {xs : List Entry} (hm : Made Entry.cells 5 32 W.heap.size W' v xs) : Own6 w W' bk vO os vE vC vS LE LC LS (EV ++ [(v, xs)]) CV RV vK KL :=
  { h.step hb with
    oe := h.oe.add hb h.below.size hm
    hap := fun p hp j hj e => by
      rcases List.mem_append.1 hp with hp | hp
      · exact h.hap p hp j hj e
      · rw [List.mem_singleton.1 hp] at hj
        have h1 := (hm.lt j hj).1
        have h2 := (h.own.lt j e).2
        omega }
theorem Own6.add2 (h : Own6 w W bk vO os vE vC vS LE LC LS EV CV RV vK KL) (hb : Below W.heap.size W W') {v : Value} {xs : List Cell} (hm : Made Cell.cells 2 56 W.heap.size W' v xs) {u : Value} {ys : List Res} (hn : Made Res.cells 3 58 W.heap.size W' u ys) : Own6 w W' bk vO os vE vC vS LE LC LS EV (CV ++ [(v, xs)]) (RV ++ [(u, ys)]) vK KL :=
  { h.step hb with oc := h.oc.add hb h.below.size hm, or := h.or.add hb h.below.size hn }
/-- A put of the book's: only its struct and one row of slices turn. -/
theorem Own6.put (h : Own6 w W bk vO os vE vC vS LE LC LS EV CV RV vK KL) {v : Value} (hv : v = vE ∨ v = vC ∨ v = vS) (hk : Kept (fun j => j = bk ∨ v.ownBlock = some j) W W') (hb : BookC W' bk w.heap.size vE' vC' (.slice none 0 0) vS' LE' LC' [] LS') (hE : ∀ j, vE'.ownBlock = some j → vE.ownBlock = some j ∨ W.heap.size ≤ j) : Own6 w W' bk vO os vE' vC' vS' LE' LC' LS' EV CV RV vK KL := by
  have hS : ∀ j, (j = bk ∨ v.ownBlock = some j) → w.heap.size ≤ j ∧ ∃ cs t, W.heap[j]? = some (.cells cs t (0, 0)) ∧ (t = 67 ∨ t = 41 ∨ t = 42 ∨ (t = 22 ∧ vE.ownBlock = some j)) := fun j q => by
    rcases q with rfl | q
    · exact ⟨h.hbk, _, _, h.book.at_, .inl rfl⟩
    · rcases hv with rfl | rfl | rfl
      · obtain ⟨cs, q'⟩ := h.book.e.cell_block q; exact ⟨(h.book.e.lt j q).1, cs, _, q', .inr (.inr (.inr ⟨rfl, q⟩))⟩
      · obtain ⟨cs, q'⟩ := h.book.c.cell_block q; exact ⟨(h.book.c.lt j q).1, cs, _, q', .inr (.inl rfl)⟩
      · obtain ⟨cs, q'⟩ := h.book.s.cell_block q; exact ⟨(h.book.s.lt j q).1, cs, _, q', .inr (.inr (.inl rfl))⟩
  have hT : ∀ (j : Nat) (cs : Array Value) (t : TypeId), W.heap[j]? = some (.cells cs t (0, 0)) → (t = 32 ∨ t = 56 ∨ t = 58) → W'.heap[j]? = W.heap[j]? := fun j cs t q ht => hk.block j (Array.getElem?_eq_some_iff.1 q).1 fun q' => by
    obtain ⟨_, cs', t', q1, q2⟩ := hS j q'
    rw [q] at q1; cases q1
    rcases ht with rfl | rfl | rfl <;> (rcases q2 with q2 | q2 | q2 | ⟨q2, _⟩ <;> exact absurd q2 (by decide))
  refine ⟨keptB h.below hk (fun j q => (hS j q).1) (Nat.le_refl _), h.own.same fun j q => ?_, h.oe.keep fun j hj _ ⟨cs, q⟩ => hT j cs _ q (.inl rfl), h.oc.keep fun j hj _ ⟨cs, q⟩ => hT j cs _ q (.inr (.inl rfl)), h.or.keep fun j hj _ ⟨cs, q⟩ => hT j cs _ q (.inr (.inr rfl)), hb, h.kept.same fun j q => ?_, h.hbk, fun j q e => ?_, h.hap⟩
  · obtain ⟨cs, q'⟩ := h.own.cell_block q; exact hT j cs _ q' (.inl rfl)
  · refine hk.block j (h.kept.lt j q).2 fun q' => ?_
    obtain ⟨cs, q3⟩ := h.kept.cell_block q
    obtain ⟨_, cs', t', q1, q2⟩ := hS j q'
    rw [q3] at q1; cases q1
    rcases q2 with q2 | q2 | q2 | ⟨_, q2⟩
    · exact absurd q2 (by decide)
    · exact absurd q2 (by decide)
    · exact absurd q2 (by decide)
    · exact h.hkv j q q2
  · rcases hE j e with e | e
    · exact h.hkv j q e
    · have := (h.kept.lt j q).2; omega
/-- The kept row grows. -/
theorem Own6.keep (h : Own6 w W bk vO os vE vC vS LE LC LS EV CV RV vK KL) (hg : W.grownBy W' vK.ownBlock) (hm : Made slc 1 22 w.heap.size W' vK' KL') (ha : vK'.ownBlock = vK.ownBlock ∨ vK'.ownBlock = some W.heap.size) : Own6 w W' bk vO os vE vC vS LE LC LS EV CV RV vK' KL' := by
  have hT : ∀ (j : Nat) (cs : Array Value) (t : TypeId), W.heap[j]? = some (.cells cs t (0, 0)) → t ≠ 22 → W'.heap[j]? = W.heap[j]? := fun j cs t q ht => hg.block j (Array.getElem?_eq_some_iff.1 q).1 fun q' => by
    obtain ⟨cs', q1⟩ := h.kept.cell_block q'.symm
    rw [q] at q1; cases q1; exact ht rfl
  refine ⟨h.below.grown hg h.below.size fun q e => (h.kept.lt q e).1, h.own.same fun j q => ?_, h.oe.keep fun j hj _ ⟨cs, q⟩ => hT j cs _ q (by decide), h.oc.keep fun j hj _ ⟨cs, q⟩ => hT j cs _ q (by decide), h.or.keep fun j hj _ ⟨cs, q⟩ => hT j cs _ q (by decide), ⟨(hT bk _ _ h.book.at_ (by decide)).trans h.book.at_, h.book.e.same fun j q => hg.block j (h.book.e.lt j q).2 fun q' => h.hkv j q'.symm q, h.book.c.same fun j q => ?_, h.book.r.same fun j q => ?_, h.book.s.same fun j q => ?_⟩, hm, h.hbk, fun j q e => ?_, h.hap⟩
  · obtain ⟨cs, q'⟩ := h.own.cell_block q; exact hT j cs _ q' (by decide)
  · obtain ⟨cs, q'⟩ := h.book.c.cell_block q; exact hT j cs _ q' (by decide)
  · obtain ⟨cs, q'⟩ := h.book.r.cell_block q; exact hT j cs _ q' (by decide)
  · obtain ⟨cs, q'⟩ := h.book.s.cell_block q; exact hT j cs _ q' (by decide)
  · rcases ha with ha | ha
    · exact h.hkv j (ha ▸ q) e
    · rw [ha] at q; cases q
      have := (h.book.e.lt _ e).2; omega
/-- The own list is written over. -/
theorem Own6.over (h : Own6 w W bk vO os vE vC vS LE LC LS EV CV RV vK KL) (hk : Kept (fun j => vO.ownBlock = some j) W W') (hm : Made Entry.cells 5 32 w.heap.size W' vO os') : Own6 w W' bk vO os' vE vC vS LE LC LS EV CV RV vK KL := by
  have hT : ∀ (j : Nat) (cs : Array Value) (t : TypeId), W.heap[j]? = some (.cells cs t (0, 0)) → t ≠ 32 → W'.heap[j]? = W.heap[j]? := fun j cs t q ht => hk.block j (Array.getElem?_eq_some_iff.1 q).1 fun q' => by
    obtain ⟨cs', q1⟩ := h.own.cell_block q'
    rw [q] at q1; cases q1; exact ht rfl
  refine ⟨keptB h.below hk (fun j q => (h.own.lt j q).1) (Nat.le_refl _), hm, ⟨fun p hp => (h.oe.made p hp).same fun j hj => hk.block j ((h.oe.made p hp).lt j hj).2 (h.hap p hp j hj), h.oe.apart⟩, h.oc.keep fun j hj _ ⟨cs, q⟩ => hT j cs _ q (by decide), h.or.keep fun j hj _ ⟨cs, q⟩ => hT j cs _ q (by decide), h.book.keep fun j q => hk.block j (BookS.lt h.book q) fun q' => ?_, h.kept.same fun j q => ?_, h.hbk, h.hkv, h.hap⟩
  · obtain ⟨cs, q2⟩ := h.own.cell_block q'
    refine BookS.ne q (fun e => ?_) q2 ⟨by decide, by decide, by decide, by decide⟩
    subst e
    rw [h.book.at_] at q2; cases q2
  · obtain ⟨cs, q'⟩ := h.kept.cell_block q; exact hT j cs _ q' (by decide)
theorem Own6.apart (h : Own6 w W bk vO os vE vC vS LE LC LS EV CV RV vK KL) {V : List (Value × List Entry)} (hV : Lists Entry.cells 5 32 w.heap.size W LE) (hEn : ∀ l ∈ LE, l.n ≤ 300) (hE9 : LE.length ≤ 900) (hLC : LC = CV.flatMap fun p => bkOf p.1) (hLS : LS = RV.flatMap fun p => bkOf p.1) (hC9 : CV.length ≤ 900) (hR9 : RV.length ≤ 900)
    (hc : ∀ p ∈ CV, p.2.length ≤ 1024) (hr : ∀ p ∈ RV, p.2.length ≤ 1024) :
    Calls Try.prog 32 #[.pointer (some ⟨bk, 0, none⟩)] W fun e W' => e = .returned (.bool true) ∧ Below w.heap.size w W' ∧ Made slc 1 22 w.heap.size W' vK KL := by
  have hlc : Lists Cell.cells 2 56 w.heap.size W LC := by rw [hLC]; exact h.oc.lists
  have hls : Lists Res.cells 3 58 w.heap.size W LS := by rw [hLS]; exact h.or.lists
  have hC9' : LC.length ≤ 900 := by rw [hLC]; exact Nat.le_trans (outs_length CV) hC9
  have hS9' : LS.length ≤ 900 := by rw [hLS]; exact Nat.le_trans (outs_length RV) hR9
  have hCn : ∀ l ∈ LC, l.n ≤ 1024 := by rw [hLC]; exact h.oc.lens hc
  have hSn : ∀ l ∈ LS, l.n ≤ 1024 := by rw [hLS]; exact h.or.lens hr
  have hb0 := h.below.size
  have hnil : ∀ W1, BookC W1 bk w.heap.size vE vC (.slice none 0 0) vS LE LC [] LS → ∀ f, f < 3 ∨ f = 5 ∨ 6 < f ∧ f < 10 → W1.cell? ⟨bk, f, none⟩ = some (.slice none 0 0) := fun W1 hb f hf => by
    rw [cell_of_row W1 bk f _ _ _ hb.at_]
    rcases hf with hf | rfl | hf
    · match f, hf with
      | 0, _ => rfl
      | 1, _ => rfl
      | 2, _ => rfl
    · rfl
    · match f, hf with
      | 7, _ => rfl
      | 8, _ => rfl
      | 9, _ => rfl
  refine (apartAll bk (fun W1 => BookC W1 bk w.heap.size vE vC (.slice none 0 0) vS LE LC [] LS ∧ Lists Entry.cells 5 32 w.heap.size W1 LE ∧ Lists Cell.cells 2 56 w.heap.size W1 LC ∧ Lists Res.cells 3 58 w.heap.size W1 LS ∧ w.heap.size ≤ W1.heap.size)
    (fun W1 => BookC W1 bk w.heap.size vE vC (.slice none 0 0) vS LE LC [] LS ∧ Lists Cell.cells 2 56 w.heap.size W1 LC ∧ Lists Res.cells 3 58 w.heap.size W1 LS ∧ w.heap.size ≤ W1.heap.size)
    (fun W1 => BookC W1 bk w.heap.size vE vC (.slice none 0 0) vS LE LC [] LS ∧ Lists Res.cells 3 58 w.heap.size W1 LS ∧ w.heap.size ≤ W1.heap.size)
    (fun W1 => BookC W1 bk w.heap.size vE vC (.slice none 0 0) vS LE LC [] LS ∧ Lists Res.cells 3 58 w.heap.size W1 LS ∧ w.heap.size ≤ W1.heap.size)
    (fun W1 => BookC W1 bk w.heap.size vE vC (.slice none 0 0) vS LE LC [] LS)
    (fun j => (∃ l ∈ LE, j = l.g) ∨ (∃ l ∈ LC, j = l.g) ∨ ∃ l ∈ LS, j = l.g) ?_ ?_ ?_ ?_ ?_ W ⟨h.book, hV, hlc, hls, hb0⟩).mono ?_
  · intro W1 hJ f hf
    rcases hJ with hJ | hJ
    · exact hnil W1 hJ.1 f (by omega)
    · exact hnil W1 hJ f (by omega)
  · rintro W1 ⟨j1, j0, j2, j3, j4⟩
    refine (apartEntry bk vE LE w.heap.size W1 (cell_of_row W1 bk 3 _ _ _ j1.at_) j1.e (by omega) (fun l hl => by have := hEn l hl; omega) j0 j4).mono fun e w' ⟨he, hk⟩ => ⟨he, ⟨?_, j2.other hk j0.types (by decide), j3.other hk j0.types (by decide), Nat.le_trans j4 hk.size⟩, hk.mono fun j _ q => .inl q⟩
    exact j1.other hk fun j q => by obtain ⟨cs, q2⟩ := j0.types j q; exact ⟨cs, _, q2, by decide⟩
  · rintro W1 ⟨j1, j2, j3, j4⟩
    refine (apartCell bk vC LC w.heap.size W1 (cell_of_row W1 bk 4 _ _ _ j1.at_) j1.c (by omega) (fun l hl => by have := hCn l hl; omega) j2 j4).mono fun e w' ⟨he, hk⟩ => ⟨he, ⟨?_, j3.other hk j2.types (by decide), Nat.le_trans j4 hk.size⟩, hk.mono fun j _ q => .inr (.inl q)⟩
    exact j1.other hk fun j q => by obtain ⟨cs, q2⟩ := j2.types j q; exact ⟨cs, _, q2, by decide⟩
  · intro W1 hJ
    exact (noneRows bk W1 (hnil W1 hJ.1 5 (by omega))).mono fun e w' ⟨he, hw⟩ => by rw [hw]; exact ⟨he, hJ, Kept.refl _ _⟩
  · rintro W1 ⟨j1, j3, j4⟩
    refine (apartRes bk vS LS w.heap.size W1 (cell_of_row W1 bk 6 _ _ _ j1.at_) j1.s (by omega) (fun l hl => by have := hSn l hl; omega) j3 j4).mono fun e w' ⟨he, hk⟩ => ⟨he, ?_, hk.mono fun j _ q => .inr (.inr q)⟩
    exact j1.other hk fun j q => by obtain ⟨cs, q2⟩ := j3.types j q; exact ⟨cs, _, q2, by decide⟩
  · rintro e W' ⟨he, _, hk⟩
    refine ⟨he, keptB h.below hk (fun j q => ?_) (Nat.le_refl _), h.kept.same fun j q => hk.block j (h.kept.lt j q).2 fun q' => ?_⟩
    rotate_left
    · obtain ⟨cs, q1⟩ := h.kept.cell_block q
      rcases q' with q' | q' | q'
      · obtain ⟨cs', q2⟩ := hV.types j q'; rw [q1] at q2; cases q2
      · obtain ⟨cs', q2⟩ := hlc.types j q'; rw [q1] at q2; cases q2
      · obtain ⟨cs', q2⟩ := hls.types j q'; rw [q1] at q2; cases q2
    rcases q with ⟨l, hl, e⟩ | ⟨l, hl, e⟩ | ⟨l, hl, e⟩
    · obtain ⟨xs, _, hm⟩ := hV.made l hl; rw [e]; exact (hm.lt l.g rfl).1
    · obtain ⟨xs, _, hm⟩ := hlc.made l hl; rw [e]; exact (hm.lt l.g rfl).1
    · obtain ⟨xs, _, hm⟩ := hls.made l hl; rw [e]; exact (hm.lt l.g rfl).1
end
end Go.Proofs.Ytnfilklgogaheaa

namespace Go.Proofs.Ytnfilklgogaheaa
open Go.RowKit
set_option linter.unusedVariables false
set_option linter.unusedSimpArgs false

theorem rd_many6 {α : Type} {enc : α → List Value} {k : Nat} (E : Enc enc k) (w : World) (xs : List α) (hx : 0 < xs.length) (cs : Array Value) (hcs : cs.toList = flat enc xs) (t' : TypeId) : Rd enc k (w.alloc (.cells cs t')) (w.heap.size + 1) (some ⟨w.heap.size, 0, none⟩) xs := by
  refine Rd.of_flat E.len (by simp) ?_
  intro j u hu
  have hadd : (⟨w.heap.size, 0, none⟩ : Addr).add j = ⟨w.heap.size, j, none⟩ := by unfold Addr.add; split <;> simp_all
  rw [hadd, cell_of_row (w.alloc (.cells cs t')) w.heap.size j cs t' (0, 0) (heap_alloc_new w _)]
  rw [← hcs] at hu
  simpa using hu
/-- What a call that hands out a list and an error comes to. -/
def PostE (W : World) (l : List Entry) (q : Int) (e : Ending) (w' : World) : Prop := ∃ A c, e = .returned (.tuple #[.slice A l.length c, .int .i64 q]) ∧ Made Entry.cells 5 32 W.heap.size w' (.slice A l.length c) l ∧ Below W.heap.size W w'
theorem PostE.of {W : World} {l : List Entry} {q : Int} {e : Ending} {w' : World} (h : ∃ v, e = .returned (.tuple #[v, .int .i64 q]) ∧ Made Entry.cells 5 32 W.heap.size w' v l ∧ Below W.heap.size W w') : PostE W l q e w' := by
  obtain ⟨v, he, hm, hb⟩ := h
  obtain ⟨A, c, rfl, _⟩ := hm.form
  exact ⟨A, c, he, hm, hb⟩
def PostR (W : World) (fs : List Cell) (gs : List Res) (e : Ending) (w' : World) : Prop := ∃ A1 c1 A2 c2, e = .returned (.tuple #[.slice A1 fs.length c1, .slice A2 gs.length c2, .int .i64 0]) ∧ Made Cell.cells 2 56 W.heap.size w' (.slice A1 fs.length c1) fs ∧ Made Res.cells 3 58 W.heap.size w' (.slice A2 gs.length c2) gs ∧ Below W.heap.size W w'
def xE : Entry := ⟨3, 9223372036854775807, ⟨4, 0, ⟨#[]⟩⟩⟩
set_option maxRecDepth 100000 in
set_option maxHeartbeats 16000000 in
theorem own06_calls (A A2 : Option Addr) (c n c2 n2 : Nat) (rs rs2 : List Raw) (k : Int) (hk : I64 k) (hn : n = rs.length) (hn2 : n2 = rs2.length) (w : World) (hl : rs.length ≤ 9223372036854775806) (hl2 : rs2.length ≤ 9223372036854775806) (hw : ∀ r ∈ rs, r.wf) (hw2 : ∀ r ∈ rs2, r.wf)
    (ha : Rd Raw.cells 5 w w.heap.size A rs) (ha2 : Rd Raw.cells 5 w w.heap.size A2 rs2) :
    Calls Try.prog 6 #[.slice A n c, .slice A2 n2 c2, .int .i64 k] w fun e w' => e = .returned (.bool true) ∧ Below w.heap.size w w' := by
  subst hn hn2
  have HA2 := Lib.hid ha2
  clear ha2
  go_enter Try.func6, Try.ntmps6
  go_wp2_with fail
  refine (grown_calls A c rs.length rs 255 rfl (by omega) (by omega) w hl hw ha).mono ?_
  rintro e w1 ⟨vl, rfl, ⟨os, hml, hgl, hll, _⟩, hb1⟩
  obtain ⟨Al, cl, rfl, hcl⟩ := hml.form
  have HML := Lib.hid hml
  have HGL := Lib.hid hgl
  have HB1 := Lib.hid hb1
  clear hml hgl hb1 ha
  dsimp only
  go_wp2_with fail
  refine (grown_calls A2 c2 rs2.length rs2 255 rfl (by omega) (by omega) w1 hl2 hw2 ((HA2.out.below HB1.out).more HB1.out.size)).mono ?_
  rintro e w2 ⟨vt, rfl, ⟨ts, hmt, hgt, hlt, _⟩, hb2⟩
  obtain ⟨AT, ct, rfl, hct⟩ := hmt.form
  have HMT := Lib.hid hmt
  have HGT := Lib.hid hgt
  have HML2 := Lib.hid (HML.out.below hb2 fun b e => (HML.out.lt b e).2)
  have HW2 := Lib.hid hb2
  have HB2 := Lib.hid (HB1.out.trans (hb2.mono HB1.out.size))
  clear hmt hgt hb2 HA2
  dsimp only
  go_wp2_with fail
  refine (works06 w2).mono ?_
  rintro e w3 ⟨rfl, hb3⟩
  have HB3 := Lib.hid (HB2.out.trans (hb3.mono HB2.out.size))
  have HE3 : Hid (Outs Entry.cells 5 32 w.heap.size w3 [(Value.slice Al os.length cl, os), (Value.slice AT ts.length ct, ts)]) := by
    have h1 := Outs.add (Outs.nil (enc := Entry.cells) (k := 5) (e := 32) (base := w.heap.size) (w := w)) HB1.out (Nat.le_refl _) HML.out
    have h2 := h1.add HW2.out HB1.out.size HMT.out
    exact h2.below hb3
  clear hb3 HML HMT HML2 HW2 HB1 HB2
  dsimp only
  have hkm := Int.emod_nonneg k (show (os.length : Int) + 1 ≠ 0 by omega)
  have hkl := Int.emod_lt_of_pos k (show (0 : Int) < (os.length : Int) + 1 by omega)
  have hkm2 := Int.emod_nonneg k (show (ts.length : Int) + 1 ≠ 0 by omega)
  have hkl2 := Int.emod_lt_of_pos k (show (0 : Int) < (ts.length : Int) + 1 by omega)
  have HWO := Lib.hid (fun W => within_calls k os.length hk (by omega) (by omega) W)
  have HWT := Lib.hid (fun W => within_calls k ts.length hk (by omega) (by omega) W)
  obtain ⟨N, hN⟩ : ∃ N : Nat, k % ((os.length : Int) + 1) = (N : Int) := ⟨(k % ((os.length : Int) + 1)).toNat, by omega⟩
  obtain ⟨M, hM⟩ : ∃ M : Nat, k % ((ts.length : Int) + 1) = (M : Int) := ⟨(k % ((ts.length : Int) + 1)).toNat, by omega⟩
  rw [hN] at HWO hkm hkl
  rw [hM] at HWT hkm2 hkl2
  have hNl : N ≤ os.length := by omega
  have hMl : M ≤ ts.length := by omega
  clear hN hM hkm hkl hkm2 hkl2
  go_wp2_with fail
  refine (HWO.out w3).mono ?_
  rintro e w' ⟨rfl, hw'⟩
  rw [hw']
  clear hw' w'
  obtain ⟨W4, hW4⟩ : ∃ W4, W4 = w3.alloc (.cells #[.int .i64 3, .int .i64 9223372036854775807, .int .i64 4, .int .i64 0, .string ⟨#[]⟩] 32) := ⟨_, rfl⟩
  have hb4 : Below w3.heap.size w3 W4 := by rw [hW4]; exact (Below.refl _ _).alloc (Nat.le_refl _) _
  have hx4 : W4.heap[w3.heap.size]? = some (.cells #[.int .i64 3, .int .i64 9223372036854775807, .int .i64 4, .int .i64 0, .string ⟨#[]⟩] 32 (0, 0)) := by rw [hW4]; exact heap_alloc_new _ _
  have hs4 : W4.heap.size = w3.heap.size + 1 := by rw [hW4]; simp
  have hmx : Made Entry.cells 5 32 w3.heap.size W4 (.slice (some ⟨w3.heap.size, 0, none⟩) 1 1) [xE] := ⟨rfl, .inr ⟨w3.heap.size, 1, _, rfl, Nat.le_refl _, hx4, Nat.le_refl _, by unfold maxLen; omega, rfl, rfl⟩⟩
  have HE4 := Lib.hid (HE3.out.add hb4 HB3.out.size hmx)
  have HB4 := Lib.hid (HB3.out.trans (hb4.mono HB3.out.size))
  obtain ⟨W5, hW5⟩ : ∃ W5, W5 = W4.alloc (.cells #[.slice none 0 0, .slice none 0 0, .slice none 0 0, .slice none 0 0, .slice none 0 0, .slice none 0 0, .slice none 0 0, .slice none 0 0, .slice none 0 0, .slice none 0 0] 67) := ⟨_, rfl⟩
  have hb5 : Below W4.heap.size W4 W5 := by rw [hW5]; exact (Below.refl _ _).alloc (Nat.le_refl _) _
  have hk5 : BookC W5 W4.heap.size w.heap.size (.slice none 0 0) (.slice none 0 0) (.slice none 0 0) (.slice none 0 0) [] [] [] [] := by rw [hW5]; exact BookC.new W4 w.heap.size
  have HE5 := Lib.hid (HE4.out.below hb5)
  have HB5 := Lib.hid (HB4.out.trans (hb5.mono HB4.out.size))
  have HK5 := Lib.hid hk5
  have HW5 : Hid (W5 = (w3.alloc (.cells #[.int .i64 3, .int .i64 9223372036854775807, .int .i64 4, .int .i64 0, .string ⟨#[]⟩] 32)).alloc (.cells #[.slice none 0 0, .slice none 0 0, .slice none 0 0, .slice none 0 0, .slice none 0 0, .slice none 0 0, .slice none 0 0, .slice none 0 0, .slice none 0 0, .slice none 0 0] 67)) := by show _ = _; rw [hW5, hW4]
  have HS5 : Hid (w.heap.size ≤ W4.heap.size) := HB4.out.size
  have HR5 := Lib.hid (Made.rd' encEntry.len (HE5.out.made (Value.slice Al os.length cl, os) (by simp)))
  rw [hs4] at HK5 HS5
  clear hW4 hb4 hx4 hmx hW5 hb5 hk5 HE3 HE4 HB3 HB4 hs4
  dsimp only
  go_wp2_with fail
  rw [← HW5.out]
  clear HW5
  generalize w3.heap.size = bx at *
  refine (copyEntries Al cl os.length os rfl W5 (by omega) HR5.out).mono ?_
  rintro e w6 ⟨Ao, co, rfl, hmo, hb6⟩
  have hco : os.length ≤ co := by obtain ⟨A', c', hv, hc'⟩ := hmo.form; injection hv with h1 h2 h3; omega
  have HS6 : Hid (Own6 w w6 (bx + 1) (.slice Ao os.length co) os (.slice none 0 0) (.slice none 0 0) (.slice none 0 0) [] [] [] ([(Value.slice Al os.length cl, os), (Value.slice AT ts.length ct, ts)] ++ [(Value.slice (some ⟨bx, 0, none⟩) 1 1, [xE])]) [] [] (.slice none 0 0) []) :=
    ⟨HB5.out.trans (hb6.mono HB5.out.size), hmo.base' HB5.out.size, HE5.out.below hb6, Outs.nil, Outs.nil, HK5.out.below hb6, Made.nil _ _ _, HS5.out, fun j e => by simp [Value.ownBlock] at e, fun p hp j hj e => by
      have h1 := ((HE5.out.made p hp).lt j hj).2
      have h2 := (hmo.lt j e).1
      omega⟩
  clear hmo hb6 HE5 HB5 HK5 HS5 HR5
  generalize bx + 1 = bk at *
  dsimp only
  go_wp2_with fail
  have HVo := Lib.hid (HGL.out.vals)
  have hl5o : os.length ≤ 255 := by omega
  obtain ⟨lao, qao, zao, HPao⟩ : ∃ (la : List Entry) (qa : Int), la.length ≤ 256 ∧ Hid (∀ W, Rd Entry.cells 5 W W.heap.size Ao os → Calls Try.prog 25 #[.slice Ao os.length co, .int .i64 256, .agg #[.int .i64 3, .int .i64 9223372036854775807, .int .i64 4, .int .i64 0, .string ⟨#[]⟩]] W (PostE W la qa)) :=
    ⟨_, _, (by split <;> simp <;> omega), fun W h => (append_prog Ao co os.length os 256 xE rfl W (by omega) (by simp [xE, ByteArray.size]) HVo.out h).mono fun e w' h => PostE.of h⟩
  obtain ⟨lbo, qbo, zbo, HLbo, HPbo⟩ : ∃ (lb : List Entry) (qb : Int), lb.length ≤ 256 ∧ Hid (lb = os.take N) ∧ Hid (∀ W, Rd Entry.cells 5 W W.heap.size Ao os → Calls Try.prog 26 #[.slice Ao os.length co, .int .i64 (N : Int)] W (PostE W lb qb)) :=
    ⟨os.take N, _, by simp; omega, rfl, fun W h => (cut_prog Ao co os.length (N : Int) os rfl hco W (by omega) h).mono fun e w' h => by
      rw [if_neg (by omega), if_neg (by omega), Int.toNat_natCast] at h
      exact PostE.of h⟩
  obtain ⟨lco, qco, zco, HPco⟩ : ∃ (lc : List Entry) (qc : Int), lc.length ≤ 256 ∧ Hid (∀ W, Rd Entry.cells 5 W W.heap.size Ao os → Calls Try.prog 27 #[.slice Ao os.length co, .int .i64 ((N : Int) + 1)] W (PostE W lc qc)) :=
    ⟨_, _, (by split <;> simp <;> omega), fun W h => (tail_prog Ao co os.length ((N : Int) + 1) os rfl hco W (by omega) h).mono fun e w' h => PostE.of h⟩
  obtain ⟨ldo, qdo, zdo, HPdo⟩ : ∃ (ld : List Entry) (qd : Int), ld.length ≤ 256 ∧ Hid (∀ W, Rd Entry.cells 5 W W.heap.size Ao os → Calls Try.prog 28 #[.slice Ao os.length co, .int .i64 256, .int .i64 ((N : Int) + 1), .slice none 0 0] W (PostE W ld qd)) :=
    ⟨_, _, (by split <;> simp <;> omega), fun W h => (splice_prog Ao none co 0 os.length 0 os [] 256 ((N : Int) + 1) (by unfold I64; omega) rfl rfl hco (Nat.le_refl _) W (by omega) (by simp) HVo.out (fun x hx => by simp at hx) h Rd.nil).mono fun e w' h => PostE.of h⟩
  obtain ⟨lfo, lgo, zfo, zgo, HPfo⟩ : ∃ (lf : List Cell) (lg : List Res), lf.length ≤ 1024 ∧ lg.length ≤ 1024 ∧ Hid (∀ W, Rd Entry.cells 5 W W.heap.size Ao os → Calls Try.prog 17 #[.slice Ao os.length co, .int .i64 (N : Int)] W (PostR W lf lg)) :=
    ⟨playC [] (opsOf (os.take N)), playR [] (opsOf (os.take N)), rising_length (playC_rising Rising.nil), by rw [playR_length]; simp [opsOf]; omega, fun W h => replay6_prog Ao co os.length os N rfl hNl hco W (by omega) HVo.out h⟩
  have HLao := Lib.hid zao
  have HLLbo := Lib.hid zbo
  have HLco := Lib.hid zco
  have HLdo := Lib.hid zdo
  have HLfo := Lib.hid zfo
  have HLgo := Lib.hid zgo
  clear zao zbo zco zdo zfo zgo
  have HVt := Lib.hid (HGT.out.vals)
  have hl5t : ts.length ≤ 255 := by omega
  obtain ⟨lat, qat, zat, HPat⟩ : ∃ (la : List Entry) (qa : Int), la.length ≤ 256 ∧ Hid (∀ W, Rd Entry.cells 5 W W.heap.size AT ts → Calls Try.prog 25 #[.slice AT ts.length ct, .int .i64 256, .agg #[.int .i64 3, .int .i64 9223372036854775807, .int .i64 4, .int .i64 0, .string ⟨#[]⟩]] W (PostE W la qa)) :=
    ⟨_, _, (by split <;> simp <;> omega), fun W h => (append_prog AT ct ts.length ts 256 xE rfl W (by omega) (by simp [xE, ByteArray.size]) HVt.out h).mono fun e w' h => PostE.of h⟩
  obtain ⟨lbt, qbt, zbt, HLbt, HPbt⟩ : ∃ (lb : List Entry) (qb : Int), lb.length ≤ 256 ∧ Hid (lb = ts.take M) ∧ Hid (∀ W, Rd Entry.cells 5 W W.heap.size AT ts → Calls Try.prog 26 #[.slice AT ts.length ct, .int .i64 (M : Int)] W (PostE W lb qb)) :=
    ⟨ts.take M, _, by simp; omega, rfl, fun W h => (cut_prog AT ct ts.length (M : Int) ts rfl hct W (by omega) h).mono fun e w' h => by
      rw [if_neg (by omega), if_neg (by omega), Int.toNat_natCast] at h
      exact PostE.of h⟩
  obtain ⟨lct, qct, zct, HPct⟩ : ∃ (lc : List Entry) (qc : Int), lc.length ≤ 256 ∧ Hid (∀ W, Rd Entry.cells 5 W W.heap.size AT ts → Calls Try.prog 27 #[.slice AT ts.length ct, .int .i64 ((M : Int) + 1)] W (PostE W lc qc)) :=
    ⟨_, _, (by split <;> simp <;> omega), fun W h => (tail_prog AT ct ts.length ((M : Int) + 1) ts rfl hct W (by omega) h).mono fun e w' h => PostE.of h⟩
  obtain ⟨ldt, qdt, zdt, HPdt⟩ : ∃ (ld : List Entry) (qd : Int), ld.length ≤ 256 ∧ Hid (∀ W, Rd Entry.cells 5 W W.heap.size AT ts → Calls Try.prog 28 #[.slice AT ts.length ct, .int .i64 256, .int .i64 ((M : Int) + 1), .slice none 0 0] W (PostE W ld qd)) :=
    ⟨_, _, (by split <;> simp <;> omega), fun W h => (splice_prog AT none ct 0 ts.length 0 ts [] 256 ((M : Int) + 1) (by unfold I64; omega) rfl rfl hct (Nat.le_refl _) W (by omega) (by simp) HVt.out (fun x hx => by simp at hx) h Rd.nil).mono fun e w' h => PostE.of h⟩
  obtain ⟨lft, lgt, zft, zgt, HPft⟩ : ∃ (lf : List Cell) (lg : List Res), lf.length ≤ 1024 ∧ lg.length ≤ 1024 ∧ Hid (∀ W, Rd Entry.cells 5 W W.heap.size AT ts → Calls Try.prog 17 #[.slice AT ts.length ct, .int .i64 (M : Int)] W (PostR W lf lg)) :=
    ⟨playC [] (opsOf (ts.take M)), playR [] (opsOf (ts.take M)), rising_length (playC_rising Rising.nil), by rw [playR_length]; simp [opsOf]; omega, fun W h => replay6_prog AT ct ts.length ts M rfl hMl hct W (by omega) HVt.out h⟩
  have HLat := Lib.hid zat
  have HLLbt := Lib.hid zbt
  have HLct := Lib.hid zct
  have HLdt := Lib.hid zdt
  have HLft := Lib.hid zft
  have HLgt := Lib.hid zgt
  clear zat zbt zct zdt zft zgt
  have HX0 : Hid ((Value.slice (some ⟨bx, 0, none⟩) 1 1, [xE]) ∈ ([(Value.slice Al os.length cl, os), (Value.slice AT ts.length ct, ts)] ++ [(Value.slice (some ⟨bx, 0, none⟩) 1 1, [xE])])) := by show _ ∈ _; simp
  have HL0 : Hid ((Value.slice Al os.length cl, os) ∈ ([(Value.slice Al os.length cl, os), (Value.slice AT ts.length ct, ts)] ++ [(Value.slice (some ⟨bx, 0, none⟩) 1 1, [xE])])) := by show _ ∈ _; simp
  have HT0 : Hid ((Value.slice AT ts.length ct, ts) ∈ ([(Value.slice Al os.length cl, os), (Value.slice AT ts.length ct, ts)] ++ [(Value.slice (some ⟨bx, 0, none⟩) 1 1, [xE])])) := by show _ ∈ _; simp
  generalize hEV : ([(Value.slice Al os.length cl, os), (Value.slice AT ts.length ct, ts)] ++ [(Value.slice (some ⟨bx, 0, none⟩) 1 1, [xE])] : List (Value × List Entry)) = EV at *
  have HEV := Lib.hid hEV
  clear hEV
  refine wp_loop_rounds 4 ?_
  rw [rounds_succ]
  obtain ⟨adx, hadx, _, hcx⟩ := (Made.rd' encEntry.len (HS6.out.oe.made (Value.slice (some ⟨bx, 0, none⟩) 1 1, [xE]) (by simp [HX0.out]))) 0 xE rfl
  cases hadx
  have hcx' : At _ ⟨bx, 0, none⟩ xE.cells := hcx
  obtain ⟨x0, x1, x2, x3, x4⟩ := hcx'.five
  simp only [xE, Nat.zero_add] at x0 x1 x2 x3 x4
  clear hcx hcx'
  go_wp2_with fail
  refine (HPao.out _ (Made.rd' encEntry.len HS6.out.own)).mono ?_
  rintro e w7 ⟨Aa0, ca0, rfl, hm, hb⟩
  have HXa0 := Lib.hid hm.addr
  have HS7 := Lib.hid (HS6.out.addE hb hm)
  clear hm hb x0 x1 x2 x3 x4
  dsimp only
  go_wp2_with fail
  refine (HPbo.out _ (Made.rd' encEntry.len HS7.out.own)).mono ?_
  rintro e w8 ⟨Ab0, cb0, rfl, hm, hb⟩
  have HXb0 := Lib.hid hm.addr
  have HS8 := Lib.hid (HS7.out.addE hb hm)
  clear hm hb
  dsimp only
  go_wp2_with fail
  refine (HPco.out _ (Made.rd' encEntry.len HS8.out.own)).mono ?_
  rintro e w9 ⟨Ac0, cc0, rfl, hm, hb⟩
  have HXc0 := Lib.hid hm.addr
  have HS9 := Lib.hid (HS8.out.addE hb hm)
  clear hm hb
  dsimp only
  go_wp2_with fail
  refine (HPdo.out _ (Made.rd' encEntry.len HS9.out.own)).mono ?_
  rintro e w10 ⟨Ad0, cd0, rfl, hm, hb⟩
  have HXd0 := Lib.hid hm.addr
  have HS10 := Lib.hid (HS9.out.addE hb hm)
  clear hm hb
  dsimp only
  go_wp2_with fail
  refine (HPfo.out _ (Made.rd' encEntry.len HS10.out.own)).mono ?_
  rintro e w11 ⟨Af0, cf0, Ag0, cg0, rfl, hm1, hm2, hb⟩
  have HXf0 := Lib.hid hm1.addr
  have HXg0 := Lib.hid hm2.addr
  have HS11 := Lib.hid (HS10.out.add2 hb hm1 hm2)
  clear hm1 hm2 hb
  dsimp only
  have HMK := Lib.hid (HS11.out.kept.alloc (.cells #[.slice Aa0 lao.length ca0, .slice Ab0 lbo.length cb0, .slice Ac0 lco.length cc0, .slice Ad0 ldo.length cd0] 22))
  have HRK := Lib.hid (rd_many6 encSlc w11 ([⟨.slice Aa0 lao.length ca0, rfl⟩, ⟨.slice Ab0 lbo.length cb0, rfl⟩, ⟨.slice Ac0 lco.length cc0, rfl⟩, ⟨.slice Ad0 ldo.length cd0, rfl⟩] : List { v : Value // v.oneCell' = true }) (by simp) #[.slice Aa0 lao.length ca0, .slice Ab0 lbo.length cb0, .slice Ac0 lco.length cc0, .slice Ad0 ldo.length cd0] rfl 22)
  have HSZ := Lib.hid HS11.out.below.size
  go_wp2_with (at_builtin; refine wpList_app (v := .slice none 0 0) (xs := []) (ys := ([⟨.slice Aa0 lao.length ca0, rfl⟩, ⟨.slice Ab0 lbo.length cb0, rfl⟩, ⟨.slice Ac0 lco.length cc0, rfl⟩, ⟨.slice Ad0 ldo.length cd0, rfl⟩] : List { v : Value // v.oneCell' = true })) rowsEntryB encSlc rfl (.tmp 107) (.tmp 112) rfl w.heap.size rfl HMK.out rfl rfl HRK.out (by simp) (by unfold maxLen; simp) (by simp; have := HSZ.out; omega) ?_; intro vK w12 hmK hgK hatK; obtain ⟨AK0, cK0, hvK, _⟩ := hmK.form; simp only [List.nil_append, List.cons_append, List.length_cons, List.length_nil, Nat.zero_add, Nat.reduceAdd] at hvK; subst hvK; have HS12 := Lib.hid ((HS11.out.step ((Below.refl _ _).alloc (Nat.le_refl _) _)).keep hgK hmK hatK); clear hmK hgK hatK HMK HRK HSZ)
  refine (bookEntryP bk w.heap.size _ _ _ _ _ _ _ _ Aa0 lao.length ca0 HXa0.out.1 HXa0.out.2 _ HS12.out.book (by simp only [List.length_append, List.length_nil]; omega) HS12.out.below.size).mono ?_
  rintro e w13 ⟨rfl, ⟨v', hb', hv'⟩, hk'⟩
  have HS13 := Lib.hid (HS12.out.put (.inl rfl) hk' hb' hv')
  clear hb' hk' hv'
  dsimp only
  go_wp2_with fail
  refine (bookEntryP bk w.heap.size _ _ _ _ _ _ _ _ Ab0 lbo.length cb0 HXb0.out.1 HXb0.out.2 _ HS13.out.book (by simp only [List.length_append, List.length_nil]; have := bkOf_le (.slice Aa0 lao.length ca0); omega) HS13.out.below.size).mono ?_
  rintro e w14 ⟨rfl, ⟨v', hb', hv'⟩, hk'⟩
  have HS14 := Lib.hid (HS13.out.put (.inl rfl) hk' hb' hv')
  clear hb' hk' hv'
  dsimp only
  go_wp2_with fail
  refine (bookEntryP bk w.heap.size _ _ _ _ _ _ _ _ Ac0 lco.length cc0 HXc0.out.1 HXc0.out.2 _ HS14.out.book (by simp only [List.length_append, List.length_nil]; have := bkOf_le (.slice Aa0 lao.length ca0); have := bkOf_le (.slice Ab0 lbo.length cb0); omega) HS14.out.below.size).mono ?_
  rintro e w15 ⟨rfl, ⟨v', hb', hv'⟩, hk'⟩
  have HS15 := Lib.hid (HS14.out.put (.inl rfl) hk' hb' hv')
  clear hb' hk' hv'
  dsimp only
  go_wp2_with fail
  refine (bookEntryP bk w.heap.size _ _ _ _ _ _ _ _ Ad0 ldo.length cd0 HXd0.out.1 HXd0.out.2 _ HS15.out.book (by simp only [List.length_append, List.length_nil]; have := bkOf_le (.slice Aa0 lao.length ca0); have := bkOf_le (.slice Ab0 lbo.length cb0); have := bkOf_le (.slice Ac0 lco.length cc0); omega) HS15.out.below.size).mono ?_
  rintro e w16 ⟨rfl, ⟨v', hb', hv'⟩, hk'⟩
  have HS16 := Lib.hid (HS15.out.put (.inl rfl) hk' hb' hv')
  clear hb' hk' hv'
  dsimp only
  go_wp2_with fail
  refine (bookCellP bk w.heap.size _ _ _ _ _ _ _ _ Af0 lfo.length cf0 HXf0.out.1 HXf0.out.2 _ HS16.out.book (by simp only [List.length_append, List.length_nil]; omega) HS16.out.below.size).mono ?_
  rintro e w17 ⟨rfl, ⟨v', hb', hv'⟩, hk'⟩
  have HS17 := Lib.hid (HS16.out.put (.inr (.inl rfl)) hk' hb' (fun j e => .inl e))
  clear hb' hk' hv'
  dsimp only
  go_wp2_with fail
  refine (bookResP bk w.heap.size _ _ _ _ _ _ _ _ Ag0 lgo.length cg0 HXg0.out.1 HXg0.out.2 _ HS17.out.book (by simp only [List.length_append, List.length_nil]; omega) HS17.out.below.size).mono ?_
  rintro e w18 ⟨rfl, ⟨v', hb', hv'⟩, hk'⟩
  have HS18 := Lib.hid (HS17.out.put (.inr (.inr rfl)) hk' hb' (fun j e => .inl e))
  clear hb' hk' hv'
  dsimp only
  go_wp2_with fail
  rw [rounds_succ]
  obtain ⟨adx, hadx, _, hcx⟩ := (Made.rd' encEntry.len (HS18.out.oe.made (Value.slice (some ⟨bx, 0, none⟩) 1 1, [xE]) (by simp [HX0.out]))) 0 xE rfl
  cases hadx
  have hcx' : At _ ⟨bx, 0, none⟩ xE.cells := hcx
  obtain ⟨x0, x1, x2, x3, x4⟩ := hcx'.five
  simp only [xE, Nat.zero_add] at x0 x1 x2 x3 x4
  clear hcx hcx'
  go_wp2_with (go_at_call 24; refine (HWT.out _).mono ?_; rintro e w' ⟨rfl, hw'⟩; rw [hw']; clear hw' w')
  refine (HPat.out _ (Made.rd' encEntry.len (HS18.out.oe.made (Value.slice AT ts.length ct, ts) (by simp [HT0.out])))).mono ?_
  rintro e w19 ⟨Aa1, ca1, rfl, hm, hb⟩
  have HXa1 := Lib.hid hm.addr
  have HS19 := Lib.hid (HS18.out.addE hb hm)
  clear hm hb x0 x1 x2 x3 x4
  dsimp only
  go_wp2_with fail
  refine (HPbt.out _ (Made.rd' encEntry.len (HS19.out.oe.made (Value.slice AT ts.length ct, ts) (by simp [HT0.out])))).mono ?_
  rintro e w20 ⟨Ab1, cb1, rfl, hm, hb⟩
  have HXb1 := Lib.hid hm.addr
  have HS20 := Lib.hid (HS19.out.addE hb hm)
  clear hm hb
  dsimp only
  go_wp2_with fail
  refine (HPct.out _ (Made.rd' encEntry.len (HS20.out.oe.made (Value.slice AT ts.length ct, ts) (by simp [HT0.out])))).mono ?_
  rintro e w21 ⟨Ac1, cc1, rfl, hm, hb⟩
  have HXc1 := Lib.hid hm.addr
  have HS21 := Lib.hid (HS20.out.addE hb hm)
  clear hm hb
  dsimp only
  go_wp2_with fail
  refine (HPdt.out _ (Made.rd' encEntry.len (HS21.out.oe.made (Value.slice AT ts.length ct, ts) (by simp [HT0.out])))).mono ?_
  rintro e w22 ⟨Ad1, cd1, rfl, hm, hb⟩
  have HXd1 := Lib.hid hm.addr
  have HS22 := Lib.hid (HS21.out.addE hb hm)
  clear hm hb
  dsimp only
  go_wp2_with fail
  refine (HPft.out _ (Made.rd' encEntry.len (HS22.out.oe.made (Value.slice AT ts.length ct, ts) (by simp [HT0.out])))).mono ?_
  rintro e w23 ⟨Af1, cf1, Ag1, cg1, rfl, hm1, hm2, hb⟩
  have HXf1 := Lib.hid hm1.addr
  have HXg1 := Lib.hid hm2.addr
  have HS23 := Lib.hid (HS22.out.add2 hb hm1 hm2)
  clear hm1 hm2 hb
  dsimp only
  have HMK := Lib.hid (HS23.out.kept.alloc (.cells #[.slice Aa1 lat.length ca1, .slice Ab1 lbt.length cb1, .slice Ac1 lct.length cc1, .slice Ad1 ldt.length cd1] 22))
  have HRK := Lib.hid (rd_many6 encSlc w23 ([⟨.slice Aa1 lat.length ca1, rfl⟩, ⟨.slice Ab1 lbt.length cb1, rfl⟩, ⟨.slice Ac1 lct.length cc1, rfl⟩, ⟨.slice Ad1 ldt.length cd1, rfl⟩] : List { v : Value // v.oneCell' = true }) (by simp) #[.slice Aa1 lat.length ca1, .slice Ab1 lbt.length cb1, .slice Ac1 lct.length cc1, .slice Ad1 ldt.length cd1] rfl 22)
  have HSZ := Lib.hid HS23.out.below.size
  go_wp2_with (at_builtin; refine wpList_app (v := .slice AK0 4 cK0) (xs := ([] ++ ([⟨.slice Aa0 lao.length ca0, rfl⟩, ⟨.slice Ab0 lbo.length cb0, rfl⟩, ⟨.slice Ac0 lco.length cc0, rfl⟩, ⟨.slice Ad0 ldo.length cd0, rfl⟩] : List { v : Value // v.oneCell' = true }))) (ys := ([⟨.slice Aa1 lat.length ca1, rfl⟩, ⟨.slice Ab1 lbt.length cb1, rfl⟩, ⟨.slice Ac1 lct.length cc1, rfl⟩, ⟨.slice Ad1 ldt.length cd1, rfl⟩] : List { v : Value // v.oneCell' = true })) rowsEntryB encSlc rfl (.tmp 107) (.tmp 112) rfl w.heap.size rfl HMK.out rfl rfl HRK.out (by simp) (by unfold maxLen; simp) (by simp; have := HSZ.out; omega) ?_; intro vK w24 hmK hgK hatK; obtain ⟨AK1, cK1, hvK, _⟩ := hmK.form; simp only [List.nil_append, List.cons_append, List.length_cons, List.length_nil, Nat.zero_add, Nat.reduceAdd] at hvK; subst hvK; have HS24 := Lib.hid ((HS23.out.step ((Below.refl _ _).alloc (Nat.le_refl _) _)).keep hgK hmK hatK); clear hmK hgK hatK HMK HRK HSZ)
  refine (bookEntryP bk w.heap.size _ _ _ _ _ _ _ _ Aa1 lat.length ca1 HXa1.out.1 HXa1.out.2 _ HS24.out.book (by simp only [List.length_append, List.length_nil]; have := bkOf_le (.slice Aa0 lao.length ca0); have := bkOf_le (.slice Ab0 lbo.length cb0); have := bkOf_le (.slice Ac0 lco.length cc0); have := bkOf_le (.slice Ad0 ldo.length cd0); omega) HS24.out.below.size).mono ?_
  rintro e w25 ⟨rfl, ⟨v', hb', hv'⟩, hk'⟩
  have HS25 := Lib.hid (HS24.out.put (.inl rfl) hk' hb' hv')
  clear hb' hk' hv'
  dsimp only
  go_wp2_with fail
  refine (bookEntryP bk w.heap.size _ _ _ _ _ _ _ _ Ab1 lbt.length cb1 HXb1.out.1 HXb1.out.2 _ HS25.out.book (by simp only [List.length_append, List.length_nil]; have := bkOf_le (.slice Aa0 lao.length ca0); have := bkOf_le (.slice Ab0 lbo.length cb0); have := bkOf_le (.slice Ac0 lco.length cc0); have := bkOf_le (.slice Ad0 ldo.length cd0); have := bkOf_le (.slice Aa1 lat.length ca1); omega) HS25.out.below.size).mono ?_
  rintro e w26 ⟨rfl, ⟨v', hb', hv'⟩, hk'⟩
  have HS26 := Lib.hid (HS25.out.put (.inl rfl) hk' hb' hv')
  clear hb' hk' hv'
  dsimp only
  go_wp2_with fail
  refine (bookEntryP bk w.heap.size _ _ _ _ _ _ _ _ Ac1 lct.length cc1 HXc1.out.1 HXc1.out.2 _ HS26.out.book (by simp only [List.length_append, List.length_nil]; have := bkOf_le (.slice Aa0 lao.length ca0); have := bkOf_le (.slice Ab0 lbo.length cb0); have := bkOf_le (.slice Ac0 lco.length cc0); have := bkOf_le (.slice Ad0 ldo.length cd0); have := bkOf_le (.slice Aa1 lat.length ca1); have := bkOf_le (.slice Ab1 lbt.length cb1); omega) HS26.out.below.size).mono ?_
  rintro e w27 ⟨rfl, ⟨v', hb', hv'⟩, hk'⟩
  have HS27 := Lib.hid (HS26.out.put (.inl rfl) hk' hb' hv')
  clear hb' hk' hv'
  dsimp only
  go_wp2_with fail
  refine (bookEntryP bk w.heap.size _ _ _ _ _ _ _ _ Ad1 ldt.length cd1 HXd1.out.1 HXd1.out.2 _ HS27.out.book (by simp only [List.length_append, List.length_nil]; have := bkOf_le (.slice Aa0 lao.length ca0); have := bkOf_le (.slice Ab0 lbo.length cb0); have := bkOf_le (.slice Ac0 lco.length cc0); have := bkOf_le (.slice Ad0 ldo.length cd0); have := bkOf_le (.slice Aa1 lat.length ca1); have := bkOf_le (.slice Ab1 lbt.length cb1); have := bkOf_le (.slice Ac1 lct.length cc1); omega) HS27.out.below.size).mono ?_
  rintro e w28 ⟨rfl, ⟨v', hb', hv'⟩, hk'⟩
  have HS28 := Lib.hid (HS27.out.put (.inl rfl) hk' hb' hv')
  clear hb' hk' hv'
  dsimp only
  go_wp2_with fail
  refine (bookCellP bk w.heap.size _ _ _ _ _ _ _ _ Af1 lft.length cf1 HXf1.out.1 HXf1.out.2 _ HS28.out.book (by simp only [List.length_append, List.length_nil]; have := bkOf_le (.slice Af0 lfo.length cf0); omega) HS28.out.below.size).mono ?_
  rintro e w29 ⟨rfl, ⟨v', hb', hv'⟩, hk'⟩
  have HS29 := Lib.hid (HS28.out.put (.inr (.inl rfl)) hk' hb' (fun j e => .inl e))
  clear hb' hk' hv'
  dsimp only
  go_wp2_with fail
  refine (bookResP bk w.heap.size _ _ _ _ _ _ _ _ Ag1 lgt.length cg1 HXg1.out.1 HXg1.out.2 _ HS29.out.book (by simp only [List.length_append, List.length_nil]; have := bkOf_le (.slice Ag0 lgo.length cg0); omega) HS29.out.below.size).mono ?_
  rintro e w30 ⟨rfl, ⟨v', hb', hv'⟩, hk'⟩
  have HS30 := Lib.hid (HS29.out.put (.inr (.inr rfl)) hk' hb' (fun j e => .inl e))
  clear hb' hk' hv'
  dsimp only
  go_wp2_with fail
  rw [rounds_succ]
  obtain ⟨adx, hadx, _, hcx⟩ := (Made.rd' encEntry.len (HS30.out.oe.made (Value.slice (some ⟨bx, 0, none⟩) 1 1, [xE]) (by simp [HX0.out]))) 0 xE rfl
  cases hadx
  have hcx' : At _ ⟨bx, 0, none⟩ xE.cells := hcx
  obtain ⟨x0, x1, x2, x3, x4⟩ := hcx'.five
  simp only [xE, Nat.zero_add] at x0 x1 x2 x3 x4
  clear hcx hcx'
  go_wp2_with fail
  refine (HPao.out _ (Made.rd' encEntry.len HS30.out.own)).mono ?_
  rintro e w31 ⟨Aa2, ca2, rfl, hm, hb⟩
  have HXa2 := Lib.hid hm.addr
  have HS31 := Lib.hid (HS30.out.addE hb hm)
  clear hm hb x0 x1 x2 x3 x4
  dsimp only
  go_wp2_with fail
  refine (HPbo.out _ (Made.rd' encEntry.len HS31.out.own)).mono ?_
  rintro e w32 ⟨Ab2, cb2, rfl, hm, hb⟩
  have HXb2 := Lib.hid hm.addr
  have HS32 := Lib.hid (HS31.out.addE hb hm)
  clear hm hb
  dsimp only
  go_wp2_with fail
  refine (HPco.out _ (Made.rd' encEntry.len HS32.out.own)).mono ?_
  rintro e w33 ⟨Ac2, cc2, rfl, hm, hb⟩
  have HXc2 := Lib.hid hm.addr
  have HS33 := Lib.hid (HS32.out.addE hb hm)
  clear hm hb
  dsimp only
  go_wp2_with fail
  refine (HPdo.out _ (Made.rd' encEntry.len HS33.out.own)).mono ?_
  rintro e w34 ⟨Ad2, cd2, rfl, hm, hb⟩
  have HXd2 := Lib.hid hm.addr
  have HS34 := Lib.hid (HS33.out.addE hb hm)
  clear hm hb
  dsimp only
  go_wp2_with fail
  refine (HPfo.out _ (Made.rd' encEntry.len HS34.out.own)).mono ?_
  rintro e w35 ⟨Af2, cf2, Ag2, cg2, rfl, hm1, hm2, hb⟩
  have HXf2 := Lib.hid hm1.addr
  have HXg2 := Lib.hid hm2.addr
  have HS35 := Lib.hid (HS34.out.add2 hb hm1 hm2)
  clear hm1 hm2 hb
  dsimp only
  have HMK := Lib.hid (HS35.out.kept.alloc (.cells #[.slice Aa2 lao.length ca2, .slice Ab2 lbo.length cb2, .slice Ac2 lco.length cc2, .slice Ad2 ldo.length cd2] 22))
  have HRK := Lib.hid (rd_many6 encSlc w35 ([⟨.slice Aa2 lao.length ca2, rfl⟩, ⟨.slice Ab2 lbo.length cb2, rfl⟩, ⟨.slice Ac2 lco.length cc2, rfl⟩, ⟨.slice Ad2 ldo.length cd2, rfl⟩] : List { v : Value // v.oneCell' = true }) (by simp) #[.slice Aa2 lao.length ca2, .slice Ab2 lbo.length cb2, .slice Ac2 lco.length cc2, .slice Ad2 ldo.length cd2] rfl 22)
  have HSZ := Lib.hid HS35.out.below.size
  go_wp2_with (at_builtin; refine wpList_app (v := .slice AK1 8 cK1) (xs := (([] ++ ([⟨.slice Aa0 lao.length ca0, rfl⟩, ⟨.slice Ab0 lbo.length cb0, rfl⟩, ⟨.slice Ac0 lco.length cc0, rfl⟩, ⟨.slice Ad0 ldo.length cd0, rfl⟩] : List { v : Value // v.oneCell' = true })) ++ ([⟨.slice Aa1 lat.length ca1, rfl⟩, ⟨.slice Ab1 lbt.length cb1, rfl⟩, ⟨.slice Ac1 lct.length cc1, rfl⟩, ⟨.slice Ad1 ldt.length cd1, rfl⟩] : List { v : Value // v.oneCell' = true }))) (ys := ([⟨.slice Aa2 lao.length ca2, rfl⟩, ⟨.slice Ab2 lbo.length cb2, rfl⟩, ⟨.slice Ac2 lco.length cc2, rfl⟩, ⟨.slice Ad2 ldo.length cd2, rfl⟩] : List { v : Value // v.oneCell' = true })) rowsEntryB encSlc rfl (.tmp 107) (.tmp 112) rfl w.heap.size rfl HMK.out rfl rfl HRK.out (by simp) (by unfold maxLen; simp) (by simp; have := HSZ.out; omega) ?_; intro vK w36 hmK hgK hatK; obtain ⟨AK2, cK2, hvK, _⟩ := hmK.form; simp only [List.nil_append, List.cons_append, List.length_cons, List.length_nil, Nat.zero_add, Nat.reduceAdd] at hvK; subst hvK; have HS36 := Lib.hid ((HS35.out.step ((Below.refl _ _).alloc (Nat.le_refl _) _)).keep hgK hmK hatK); clear hmK hgK hatK HMK HRK HSZ)
  refine (bookEntryP bk w.heap.size _ _ _ _ _ _ _ _ Aa2 lao.length ca2 HXa2.out.1 HXa2.out.2 _ HS36.out.book (by simp only [List.length_append, List.length_nil]; have := bkOf_le (.slice Aa0 lao.length ca0); have := bkOf_le (.slice Ab0 lbo.length cb0); have := bkOf_le (.slice Ac0 lco.length cc0); have := bkOf_le (.slice Ad0 ldo.length cd0); have := bkOf_le (.slice Aa1 lat.length ca1); have := bkOf_le (.slice Ab1 lbt.length cb1); have := bkOf_le (.slice Ac1 lct.length cc1); have := bkOf_le (.slice Ad1 ldt.length cd1); omega) HS36.out.below.size).mono ?_
  rintro e w37 ⟨rfl, ⟨v', hb', hv'⟩, hk'⟩
  have HS37 := Lib.hid (HS36.out.put (.inl rfl) hk' hb' hv')
  clear hb' hk' hv'
  dsimp only
  go_wp2_with fail
  refine (bookEntryP bk w.heap.size _ _ _ _ _ _ _ _ Ab2 lbo.length cb2 HXb2.out.1 HXb2.out.2 _ HS37.out.book (by simp only [List.length_append, List.length_nil]; have := bkOf_le (.slice Aa0 lao.length ca0); have := bkOf_le (.slice Ab0 lbo.length cb0); have := bkOf_le (.slice Ac0 lco.length cc0); have := bkOf_le (.slice Ad0 ldo.length cd0); have := bkOf_le (.slice Aa1 lat.length ca1); have := bkOf_le (.slice Ab1 lbt.length cb1); have := bkOf_le (.slice Ac1 lct.length cc1); have := bkOf_le (.slice Ad1 ldt.length cd1); have := bkOf_le (.slice Aa2 lao.length ca2); omega) HS37.out.below.size).mono ?_
  rintro e w38 ⟨rfl, ⟨v', hb', hv'⟩, hk'⟩
  have HS38 := Lib.hid (HS37.out.put (.inl rfl) hk' hb' hv')
  clear hb' hk' hv'
  dsimp only
  go_wp2_with fail
  refine (bookEntryP bk w.heap.size _ _ _ _ _ _ _ _ Ac2 lco.length cc2 HXc2.out.1 HXc2.out.2 _ HS38.out.book (by simp only [List.length_append, List.length_nil]; have := bkOf_le (.slice Aa0 lao.length ca0); have := bkOf_le (.slice Ab0 lbo.length cb0); have := bkOf_le (.slice Ac0 lco.length cc0); have := bkOf_le (.slice Ad0 ldo.length cd0); have := bkOf_le (.slice Aa1 lat.length ca1); have := bkOf_le (.slice Ab1 lbt.length cb1); have := bkOf_le (.slice Ac1 lct.length cc1); have := bkOf_le (.slice Ad1 ldt.length cd1); have := bkOf_le (.slice Aa2 lao.length ca2); have := bkOf_le (.slice Ab2 lbo.length cb2); omega) HS38.out.below.size).mono ?_
  rintro e w39 ⟨rfl, ⟨v', hb', hv'⟩, hk'⟩
  have HS39 := Lib.hid (HS38.out.put (.inl rfl) hk' hb' hv')
  clear hb' hk' hv'
  dsimp only
  go_wp2_with fail
  refine (bookEntryP bk w.heap.size _ _ _ _ _ _ _ _ Ad2 ldo.length cd2 HXd2.out.1 HXd2.out.2 _ HS39.out.book (by simp only [List.length_append, List.length_nil]; have := bkOf_le (.slice Aa0 lao.length ca0); have := bkOf_le (.slice Ab0 lbo.length cb0); have := bkOf_le (.slice Ac0 lco.length cc0); have := bkOf_le (.slice Ad0 ldo.length cd0); have := bkOf_le (.slice Aa1 lat.length ca1); have := bkOf_le (.slice Ab1 lbt.length cb1); have := bkOf_le (.slice Ac1 lct.length cc1); have := bkOf_le (.slice Ad1 ldt.length cd1); have := bkOf_le (.slice Aa2 lao.length ca2); have := bkOf_le (.slice Ab2 lbo.length cb2); have := bkOf_le (.slice Ac2 lco.length cc2); omega) HS39.out.below.size).mono ?_
  rintro e w40 ⟨rfl, ⟨v', hb', hv'⟩, hk'⟩
  have HS40 := Lib.hid (HS39.out.put (.inl rfl) hk' hb' hv')
  clear hb' hk' hv'
  dsimp only
  go_wp2_with fail
  refine (bookCellP bk w.heap.size _ _ _ _ _ _ _ _ Af2 lfo.length cf2 HXf2.out.1 HXf2.out.2 _ HS40.out.book (by simp only [List.length_append, List.length_nil]; have := bkOf_le (.slice Af0 lfo.length cf0); have := bkOf_le (.slice Af1 lft.length cf1); omega) HS40.out.below.size).mono ?_
  rintro e w41 ⟨rfl, ⟨v', hb', hv'⟩, hk'⟩
  have HS41 := Lib.hid (HS40.out.put (.inr (.inl rfl)) hk' hb' (fun j e => .inl e))
  clear hb' hk' hv'
  dsimp only
  go_wp2_with fail
  refine (bookResP bk w.heap.size _ _ _ _ _ _ _ _ Ag2 lgo.length cg2 HXg2.out.1 HXg2.out.2 _ HS41.out.book (by simp only [List.length_append, List.length_nil]; have := bkOf_le (.slice Ag0 lgo.length cg0); have := bkOf_le (.slice Ag1 lgt.length cg1); omega) HS41.out.below.size).mono ?_
  rintro e w42 ⟨rfl, ⟨v', hb', hv'⟩, hk'⟩
  have HS42 := Lib.hid (HS41.out.put (.inr (.inr rfl)) hk' hb' (fun j e => .inl e))
  clear hb' hk' hv'
  dsimp only
  go_wp2_with fail
  rw [rounds_succ]
  go_wp2_with fail
  have hkm := HS42.out.kept
  obtain ⟨gK, hgK⟩ : ∃ gK, AK2 = some ⟨gK, 0, none⟩ := by
    obtain ⟨ad, e, _⟩ := (Made.rd' encSlc.len hkm) 0 _ (by simp; rfl)
    obtain ⟨g, rfl⟩ := (hkm.addr).1 ad e
    exact ⟨g, e⟩
  subst hgK
  have HKC : Hid (∀ (j : Nat) (x : { v : Value // v.oneCell' = true }), ((([] ++ ([⟨.slice Aa0 lao.length ca0, rfl⟩, ⟨.slice Ab0 lbo.length cb0, rfl⟩, ⟨.slice Ac0 lco.length cc0, rfl⟩, ⟨.slice Ad0 ldo.length cd0, rfl⟩] : List { v : Value // v.oneCell' = true })) ++ ([⟨.slice Aa1 lat.length ca1, rfl⟩, ⟨.slice Ab1 lbt.length cb1, rfl⟩, ⟨.slice Ac1 lct.length cc1, rfl⟩, ⟨.slice Ad1 ldt.length cd1, rfl⟩] : List { v : Value // v.oneCell' = true })) ++ ([⟨.slice Aa2 lao.length ca2, rfl⟩, ⟨.slice Ab2 lbo.length cb2, rfl⟩, ⟨.slice Ac2 lco.length cc2, rfl⟩, ⟨.slice Ad2 ldo.length cd2, rfl⟩] : List { v : Value // v.oneCell' = true }))[j]? = some x → ∀ W, Made slc 1 22 w.heap.size W (.slice (some ⟨gK, 0, none⟩) 12 cK2) ((([] ++ ([⟨.slice Aa0 lao.length ca0, rfl⟩, ⟨.slice Ab0 lbo.length cb0, rfl⟩, ⟨.slice Ac0 lco.length cc0, rfl⟩, ⟨.slice Ad0 ldo.length cd0, rfl⟩] : List { v : Value // v.oneCell' = true })) ++ ([⟨.slice Aa1 lat.length ca1, rfl⟩, ⟨.slice Ab1 lbt.length cb1, rfl⟩, ⟨.slice Ac1 lct.length cc1, rfl⟩, ⟨.slice Ad1 ldt.length cd1, rfl⟩] : List { v : Value // v.oneCell' = true })) ++ ([⟨.slice Aa2 lao.length ca2, rfl⟩, ⟨.slice Ab2 lbo.length cb2, rfl⟩, ⟨.slice Ac2 lco.length cc2, rfl⟩, ⟨.slice Ad2 ldo.length cd2, rfl⟩] : List { v : Value // v.oneCell' = true })) → W.cell? ⟨gK, j, none⟩ = some x.1) := fun j x hx W hm => by
    obtain ⟨ad, e, _, hat⟩ := (Made.rd' encSlc.len hm) j x hx
    cases e
    have h := hat 0 _ rfl
    have e : ((⟨gK, 0, none⟩ : Addr).add (j * 1)).add 0 = ⟨gK, j, none⟩ := by rw [addr_at, Nat.mul_one]; rfl
    rw [e] at h
    exact h
  clear hkm
  go_loopw [30] (fun i wr => ∃ j : Nat, j ≤ 4 ∧ i = .int .i64 j ∧ Hid (∃ q, wr = w42.drewN q)) (fun i _ => 4 - (intOf i).toNat)
  case atStart => exact ⟨0, by omega, rfl, ⟨0, rfl⟩⟩
  case round =>
    obtain ⟨j, hj, rfl, hdr⟩ := hrel
    obtain ⟨qd, hwd⟩ := hdr.out
    have hcase : j = 0 ∨ j = 1 ∨ j = 2 ∨ j = 3 ∨ j = 4 := by omega
    clear hj hdr
    rcases hcase with rfl | rfl | rfl | rfl | rfl
    · subst hwd
      have d0 := HKC.out 0 _ rfl w42 HS42.out.kept
      have d8 := HKC.out 8 _ rfl w42 HS42.out.kept
      have r0 := HS42.out.oe.made (Value.slice Aa0 lao.length ca0, lao) (by simp)
      have r2 := HS42.out.oe.made (Value.slice Aa2 lao.length ca2, lao) (by simp)
      have HR0 := Lib.hid (Made.rd' encEntry.len r0)
      have HR2 := Lib.hid (Made.rd' encEntry.len r2)
      have HLL := Lib.hid HLao.out
      clear r0 r2
      go_wp2_with fail
      go_quiet ((go_at_call 15; exact quiet_add (sameTrue Aa0 Aa2 ca0 ca2 _ lao rfl _ (by have := HLL.out; omega) (by exact HR0.out) (by exact HR2.out))))
      go_wp2_with fail
      go_roundw
      case rel => exact ⟨1, by omega, by go_num, by first | exact ⟨_, rfl⟩ | exact drawn2 _ _ _⟩
      case measure => simp [intOf]
    · subst hwd
      have d0 := HKC.out 1 _ rfl w42 HS42.out.kept
      have d8 := HKC.out 9 _ rfl w42 HS42.out.kept
      have r0 := HS42.out.oe.made (Value.slice Ab0 lbo.length cb0, lbo) (by simp)
      have r2 := HS42.out.oe.made (Value.slice Ab2 lbo.length cb2, lbo) (by simp)
      have HR0 := Lib.hid (Made.rd' encEntry.len r0)
      have HR2 := Lib.hid (Made.rd' encEntry.len r2)
      have HLL := Lib.hid HLLbo.out
      clear r0 r2
      go_wp2_with fail
      go_quiet ((go_at_call 15; exact quiet_add (sameTrue Ab0 Ab2 cb0 cb2 _ lbo rfl _ (by have := HLL.out; omega) (by exact HR0.out) (by exact HR2.out))))
      go_wp2_with fail
      go_roundw
      case rel => exact ⟨2, by omega, by go_num, by first | exact ⟨_, rfl⟩ | exact drawn2 _ _ _⟩
      case measure => simp [intOf]
    · subst hwd
      have d0 := HKC.out 2 _ rfl w42 HS42.out.kept
      have d8 := HKC.out 10 _ rfl w42 HS42.out.kept
      have r0 := HS42.out.oe.made (Value.slice Ac0 lco.length cc0, lco) (by simp)
      have r2 := HS42.out.oe.made (Value.slice Ac2 lco.length cc2, lco) (by simp)
      have HR0 := Lib.hid (Made.rd' encEntry.len r0)
      have HR2 := Lib.hid (Made.rd' encEntry.len r2)
      have HLL := Lib.hid HLco.out
      clear r0 r2
      go_wp2_with fail
      go_quiet ((go_at_call 15; exact quiet_add (sameTrue Ac0 Ac2 cc0 cc2 _ lco rfl _ (by have := HLL.out; omega) (by exact HR0.out) (by exact HR2.out))))
      go_wp2_with fail
      go_roundw
      case rel => exact ⟨3, by omega, by go_num, by first | exact ⟨_, rfl⟩ | exact drawn2 _ _ _⟩
      case measure => simp [intOf]
    · subst hwd
      have d0 := HKC.out 3 _ rfl w42 HS42.out.kept
      have d8 := HKC.out 11 _ rfl w42 HS42.out.kept
      have r0 := HS42.out.oe.made (Value.slice Ad0 ldo.length cd0, ldo) (by simp)
      have r2 := HS42.out.oe.made (Value.slice Ad2 ldo.length cd2, ldo) (by simp)
      have HR0 := Lib.hid (Made.rd' encEntry.len r0)
      have HR2 := Lib.hid (Made.rd' encEntry.len r2)
      have HLL := Lib.hid HLdo.out
      clear r0 r2
      go_wp2_with fail
      go_quiet ((go_at_call 15; exact quiet_add (sameTrue Ad0 Ad2 cd0 cd2 _ ldo rfl _ (by have := HLL.out; omega) (by exact HR0.out) (by exact HR2.out))))
      go_wp2_with fail
      go_roundw
      case rel => exact ⟨4, by omega, by go_num, by first | exact ⟨_, rfl⟩ | exact drawn2 _ _ _⟩
      case measure => simp [intOf]
    · have hs43 := HS42.out.step (below_drewN (Below.refl w42.heap.size w42) qd)
      rw [← hwd] at hs43
      have HS43 := Lib.hid hs43
      clear hs43 hwd HS42
      by_cases ho : os.length = 0
      · have g0 : decide ((0:Int) < (os.length:Int)) = false := decide_eq_false (by omega)
        have g0b : decide (0 < os.length) = false := decide_eq_false (by omega)
        have HTA := Lib.hid ((HS43.out.oe.made (Value.slice AT ts.length ct, ts) (by simp [HT0.out])).addr)

        go_wp2_with fail
        refine (bookEntryP bk w.heap.size _ _ _ _ _ _ _ _ AT ts.length ct HTA.out.1 HTA.out.2 _ HS43.out.book (by simp only [List.length_append, List.length_nil]; have := bkOf_le (.slice Aa0 lao.length ca0); have := bkOf_le (.slice Ab0 lbo.length cb0); have := bkOf_le (.slice Ac0 lco.length cc0); have := bkOf_le (.slice Ad0 ldo.length cd0); have := bkOf_le (.slice Aa1 lat.length ca1); have := bkOf_le (.slice Ab1 lbt.length cb1); have := bkOf_le (.slice Ac1 lct.length cc1); have := bkOf_le (.slice Ad1 ldt.length cd1); have := bkOf_le (.slice Aa2 lao.length ca2); have := bkOf_le (.slice Ab2 lbo.length cb2); have := bkOf_le (.slice Ac2 lco.length cc2); have := bkOf_le (.slice Ad2 ldo.length cd2); omega) HS43.out.below.size).mono ?_
        rintro e w50 ⟨rfl, ⟨v', hb', hv'⟩, hk'⟩
        have HS50 := Lib.hid (HS43.out.put (.inl rfl) hk' hb' hv')
        clear hb' hk' hv'
        have HSM : Hid (∀ W, Rd Entry.cells 5 W W.heap.size Ab0 lbo → Rd Entry.cells 5 W W.heap.size Al os → Calls Try.prog 15 #[.slice Ab0 lbo.length cb0, .slice Al N cl] W fun e w' => e = .returned (.bool true) ∧ ∃ q, w' = W.drewN q) := fun W h1 h2 => by
          refine (sameEntries Ab0 Al cb0 cl lbo.length N lbo (os.take N) rfl (by rw [List.length_take]; omega) W (by have := HLLbo.out; omega) (by rw [List.length_take]; omega) h1 (h2.take N)).mono fun e w' ⟨he, hw⟩ => ⟨?_, hw⟩
          rw [he, HLbo.out]
          simp
        have HAPT : Hid (∀ W vE vC vS vK, Own6 w W bk _ _ vE vC vS ([] ++ bkOf (.slice Aa0 lao.length ca0) ++ bkOf (.slice Ab0 lbo.length cb0) ++ bkOf (.slice Ac0 lco.length cc0) ++ bkOf (.slice Ad0 ldo.length cd0) ++ bkOf (.slice Aa1 lat.length ca1) ++ bkOf (.slice Ab1 lbt.length cb1) ++ bkOf (.slice Ac1 lct.length cc1) ++ bkOf (.slice Ad1 ldt.length cd1) ++ bkOf (.slice Aa2 lao.length ca2) ++ bkOf (.slice Ab2 lbo.length cb2) ++ bkOf (.slice Ac2 lco.length cc2) ++ bkOf (.slice Ad2 ldo.length cd2) ++ bkOf (.slice AT ts.length ct)) ([] ++ bkOf (.slice Af0 lfo.length cf0) ++ bkOf (.slice Af1 lft.length cf1) ++ bkOf (.slice Af2 lfo.length cf2)) ([] ++ bkOf (.slice Ag0 lgo.length cg0) ++ bkOf (.slice Ag1 lgt.length cg1) ++ bkOf (.slice Ag2 lgo.length cg2)) (EV ++ [(Value.slice Aa0 lao.length ca0, lao)] ++ [(Value.slice Ab0 lbo.length cb0, lbo)] ++ [(Value.slice Ac0 lco.length cc0, lco)] ++ [(Value.slice Ad0 ldo.length cd0, ldo)] ++ [(Value.slice Aa1 lat.length ca1, lat)] ++ [(Value.slice Ab1 lbt.length cb1, lbt)] ++ [(Value.slice Ac1 lct.length cc1, lct)] ++ [(Value.slice Ad1 ldt.length cd1, ldt)] ++ [(Value.slice Aa2 lao.length ca2, lao)] ++ [(Value.slice Ab2 lbo.length cb2, lbo)] ++ [(Value.slice Ac2 lco.length cc2, lco)] ++ [(Value.slice Ad2 ldo.length cd2, ldo)]) ([] ++ [(Value.slice Af0 lfo.length cf0, lfo)] ++ [(Value.slice Af1 lft.length cf1, lft)] ++ [(Value.slice Af2 lfo.length cf2, lfo)]) ([] ++ [(Value.slice Ag0 lgo.length cg0, lgo)] ++ [(Value.slice Ag1 lgt.length cg1, lgt)] ++ [(Value.slice Ag2 lgo.length cg2, lgo)]) vK _ → Calls Try.prog 32 #[.pointer (some ⟨bk, 0, none⟩)] W fun e W' => e = .returned (.bool true) ∧ Below w.heap.size w W' ∧ Made slc 1 22 w.heap.size W' vK ((([] ++ ([⟨.slice Aa0 lao.length ca0, rfl⟩, ⟨.slice Ab0 lbo.length cb0, rfl⟩, ⟨.slice Ac0 lco.length cc0, rfl⟩, ⟨.slice Ad0 ldo.length cd0, rfl⟩] : List { v : Value // v.oneCell' = true })) ++ ([⟨.slice Aa1 lat.length ca1, rfl⟩, ⟨.slice Ab1 lbt.length cb1, rfl⟩, ⟨.slice Ac1 lct.length cc1, rfl⟩, ⟨.slice Ad1 ldt.length cd1, rfl⟩] : List { v : Value // v.oneCell' = true })) ++ ([⟨.slice Aa2 lao.length ca2, rfl⟩, ⟨.slice Ab2 lbo.length cb2, rfl⟩, ⟨.slice Ac2 lco.length cc2, rfl⟩, ⟨.slice Ad2 ldo.length cd2, rfl⟩] : List { v : Value // v.oneCell' = true }))) := fun W vE vC vS vK (h : Own6 w W bk (.slice Ao os.length co) os vE vC vS ([] ++ bkOf (.slice Aa0 lao.length ca0) ++ bkOf (.slice Ab0 lbo.length cb0) ++ bkOf (.slice Ac0 lco.length cc0) ++ bkOf (.slice Ad0 ldo.length cd0) ++ bkOf (.slice Aa1 lat.length ca1) ++ bkOf (.slice Ab1 lbt.length cb1) ++ bkOf (.slice Ac1 lct.length cc1) ++ bkOf (.slice Ad1 ldt.length cd1) ++ bkOf (.slice Aa2 lao.length ca2) ++ bkOf (.slice Ab2 lbo.length cb2) ++ bkOf (.slice Ac2 lco.length cc2) ++ bkOf (.slice Ad2 ldo.length cd2) ++ bkOf (.slice AT ts.length ct)) ([] ++ bkOf (.slice Af0 lfo.length cf0) ++ bkOf (.slice Af1 lft.length cf1) ++ bkOf (.slice Af2 lfo.length cf2)) ([] ++ bkOf (.slice Ag0 lgo.length cg0) ++ bkOf (.slice Ag1 lgt.length cg1) ++ bkOf (.slice Ag2 lgo.length cg2)) (EV ++ [(Value.slice Aa0 lao.length ca0, lao)] ++ [(Value.slice Ab0 lbo.length cb0, lbo)] ++ [(Value.slice Ac0 lco.length cc0, lco)] ++ [(Value.slice Ad0 ldo.length cd0, ldo)] ++ [(Value.slice Aa1 lat.length ca1, lat)] ++ [(Value.slice Ab1 lbt.length cb1, lbt)] ++ [(Value.slice Ac1 lct.length cc1, lct)] ++ [(Value.slice Ad1 ldt.length cd1, ldt)] ++ [(Value.slice Aa2 lao.length ca2, lao)] ++ [(Value.slice Ab2 lbo.length cb2, lbo)] ++ [(Value.slice Ac2 lco.length cc2, lco)] ++ [(Value.slice Ad2 ldo.length cd2, ldo)]) ([] ++ [(Value.slice Af0 lfo.length cf0, lfo)] ++ [(Value.slice Af1 lft.length cf1, lft)] ++ [(Value.slice Af2 lfo.length cf2, lfo)]) ([] ++ [(Value.slice Ag0 lgo.length cg0, lgo)] ++ [(Value.slice Ag1 lgt.length cg1, lgt)] ++ [(Value.slice Ag2 lgo.length cg2, lgo)]) vK ((([] ++ ([⟨.slice Aa0 lao.length ca0, rfl⟩, ⟨.slice Ab0 lbo.length cb0, rfl⟩, ⟨.slice Ac0 lco.length cc0, rfl⟩, ⟨.slice Ad0 ldo.length cd0, rfl⟩] : List { v : Value // v.oneCell' = true })) ++ ([⟨.slice Aa1 lat.length ca1, rfl⟩, ⟨.slice Ab1 lbt.length cb1, rfl⟩, ⟨.slice Ac1 lct.length cc1, rfl⟩, ⟨.slice Ad1 ldt.length cd1, rfl⟩] : List { v : Value // v.oneCell' = true })) ++ ([⟨.slice Aa2 lao.length ca2, rfl⟩, ⟨.slice Ab2 lbo.length cb2, rfl⟩, ⟨.slice Ac2 lco.length cc2, rfl⟩, ⟨.slice Ad2 ldo.length cd2, rfl⟩] : List { v : Value // v.oneCell' = true }))) => by
          have hsub : ([(Value.slice AT ts.length ct, ts), (Value.slice Aa0 lao.length ca0, lao), (Value.slice Ab0 lbo.length cb0, lbo), (Value.slice Ac0 lco.length cc0, lco), (Value.slice Ad0 ldo.length cd0, ldo), (Value.slice Aa1 lat.length ca1, lat), (Value.slice Ab1 lbt.length cb1, lbt), (Value.slice Ac1 lct.length cc1, lct), (Value.slice Ad1 ldt.length cd1, ldt), (Value.slice Aa2 lao.length ca2, lao), (Value.slice Ab2 lbo.length cb2, lbo), (Value.slice Ac2 lco.length cc2, lco), (Value.slice Ad2 ldo.length cd2, ldo)] : List (Value × List Entry)).Sublist (EV ++ [(Value.slice Aa0 lao.length ca0, lao)] ++ [(Value.slice Ab0 lbo.length cb0, lbo)] ++ [(Value.slice Ac0 lco.length cc0, lco)] ++ [(Value.slice Ad0 ldo.length cd0, ldo)] ++ [(Value.slice Aa1 lat.length ca1, lat)] ++ [(Value.slice Ab1 lbt.length cb1, lbt)] ++ [(Value.slice Ac1 lct.length cc1, lct)] ++ [(Value.slice Ad1 ldt.length cd1, ldt)] ++ [(Value.slice Aa2 lao.length ca2, lao)] ++ [(Value.slice Ab2 lbo.length cb2, lbo)] ++ [(Value.slice Ac2 lco.length cc2, lco)] ++ [(Value.slice Ad2 ldo.length cd2, ldo)]) := by
            rw [← HEV.out]
            simp only [List.append_assoc, List.cons_append, List.nil_append]
            exact List.Sublist.cons _ (List.Sublist.cons_cons _ (List.Sublist.cons _ (List.Sublist.refl _)))
          have ho := h.oe.sub hsub
          have hq1 := HLao.out
          have hq2 := HLLbo.out
          have hq3 := HLco.out
          have hq4 := HLdo.out
          have hq5 := HLat.out
          have hq6 := HLLbt.out
          have hq7 := HLct.out
          have hq8 := HLdt.out
          have hlen : ∀ p ∈ ([(Value.slice AT ts.length ct, ts), (Value.slice Aa0 lao.length ca0, lao), (Value.slice Ab0 lbo.length cb0, lbo), (Value.slice Ac0 lco.length cc0, lco), (Value.slice Ad0 ldo.length cd0, ldo), (Value.slice Aa1 lat.length ca1, lat), (Value.slice Ab1 lbt.length cb1, lbt), (Value.slice Ac1 lct.length cc1, lct), (Value.slice Ad1 ldt.length cd1, ldt), (Value.slice Aa2 lao.length ca2, lao), (Value.slice Ab2 lbo.length cb2, lbo), (Value.slice Ac2 lco.length cc2, lco), (Value.slice Ad2 ldo.length cd2, ldo)] : List (Value × List Entry)), p.2.length ≤ 300 := fun p hp => by
            simp only [List.mem_cons, List.not_mem_nil, or_false] at hp
            rcases hp with rfl | rfl | rfl | rfl | rfl | rfl | rfl | rfl | rfl | rfl | rfl | rfl | rfl <;> simp only <;> omega
          have hperm : (([(Value.slice AT ts.length ct, ts), (Value.slice Aa0 lao.length ca0, lao), (Value.slice Ab0 lbo.length cb0, lbo), (Value.slice Ac0 lco.length cc0, lco), (Value.slice Ad0 ldo.length cd0, ldo), (Value.slice Aa1 lat.length ca1, lat), (Value.slice Ab1 lbt.length cb1, lbt), (Value.slice Ac1 lct.length cc1, lct), (Value.slice Ad1 ldt.length cd1, ldt), (Value.slice Aa2 lao.length ca2, lao), (Value.slice Ab2 lbo.length cb2, lbo), (Value.slice Ac2 lco.length cc2, lco), (Value.slice Ad2 ldo.length cd2, ldo)] : List (Value × List Entry)).flatMap fun p => bkOf p.1).Perm ([] ++ bkOf (.slice Aa0 lao.length ca0) ++ bkOf (.slice Ab0 lbo.length cb0) ++ bkOf (.slice Ac0 lco.length cc0) ++ bkOf (.slice Ad0 ldo.length cd0) ++ bkOf (.slice Aa1 lat.length ca1) ++ bkOf (.slice Ab1 lbt.length cb1) ++ bkOf (.slice Ac1 lct.length cc1) ++ bkOf (.slice Ad1 ldt.length cd1) ++ bkOf (.slice Aa2 lao.length ca2) ++ bkOf (.slice Ab2 lbo.length cb2) ++ bkOf (.slice Ac2 lco.length cc2) ++ bkOf (.slice Ad2 ldo.length cd2) ++ bkOf (.slice AT ts.length ct)) := by
            simp only [List.flatMap_cons, List.flatMap_nil, List.append_nil, List.nil_append, List.append_assoc]
            refine List.perm_append_comm.trans ?_
            simp only [List.append_assoc]
            exact List.Perm.refl _
          refine h.apart (V := [(Value.slice AT ts.length ct, ts), (Value.slice Aa0 lao.length ca0, lao), (Value.slice Ab0 lbo.length cb0, lbo), (Value.slice Ac0 lco.length cc0, lco), (Value.slice Ad0 ldo.length cd0, ldo), (Value.slice Aa1 lat.length ca1, lat), (Value.slice Ab1 lbt.length cb1, lbt), (Value.slice Ac1 lct.length cc1, lct), (Value.slice Ad1 ldt.length cd1, ldt), (Value.slice Aa2 lao.length ca2, lao), (Value.slice Ab2 lbo.length cb2, lbo), (Value.slice Ac2 lco.length cc2, lco), (Value.slice Ad2 ldo.length cd2, ldo)]) (ho.lists.perm hperm) (fun l hl => ho.lens hlen l (hperm.mem_iff.2 hl)) ?_ (by simp) (by simp) (by simp) (by simp) (fun p hp => ?_) (fun p hp => ?_)
          · have hx := outs_length ([(Value.slice AT ts.length ct, ts), (Value.slice Aa0 lao.length ca0, lao), (Value.slice Ab0 lbo.length cb0, lbo), (Value.slice Ac0 lco.length cc0, lco), (Value.slice Ad0 ldo.length cd0, ldo), (Value.slice Aa1 lat.length ca1, lat), (Value.slice Ab1 lbt.length cb1, lbt), (Value.slice Ac1 lct.length cc1, lct), (Value.slice Ad1 ldt.length cd1, ldt), (Value.slice Aa2 lao.length ca2, lao), (Value.slice Ab2 lbo.length cb2, lbo), (Value.slice Ac2 lco.length cc2, lco), (Value.slice Ad2 ldo.length cd2, ldo)] : List (Value × List Entry))
            have hy := hperm.length_eq
            simp only [List.length_cons, List.length_nil] at hx
            omega
          · have hf1 := HLfo.out
            have hf2 := HLft.out
            simp only [List.nil_append, List.cons_append, List.mem_cons, List.not_mem_nil, or_false] at hp
            rcases hp with rfl | rfl | rfl <;> simp only <;> omega
          · have hf1 := HLgo.out
            have hf2 := HLgt.out
            simp only [List.nil_append, List.cons_append, List.mem_cons, List.not_mem_nil, or_false] at hp
            rcases hp with rfl | rfl | rfl <;> simp only <;> omega
        have HRb := Lib.hid (Made.rd' encEntry.len (HS50.out.oe.made (Value.slice Ab0 lbo.length cb0, lbo) (by simp)))
        have HRl := Lib.hid (Made.rd' encEntry.len (HS50.out.oe.made (Value.slice Al os.length cl, os) (by simp [HL0.out])))
        have d1 := HKC.out 1 _ rfl w50 HS50.out.kept
        have hz1 : (0:Int) ≤ (N:Int) := by omega
        have hz2 : (N:Int) ≤ (cl:Int) := by omega
        dsimp only
        go_wp2_with fail
        rcases Al with _ | alp
        all_goals
          go_region_held3 (fun W => W.cell? ⟨gK, 1, none⟩ = some (.slice Ab0 lbo.length cb0))
            (first
              | with_reducible exact HF52.out
              | with_reducible exact HF51.out
              | exact HF52.out
              | exact HF51.out
              | go_keep)
            (first
              | (go_at_call 15
                 refine (HSM.out _ (by exact HRb.out) (by exact HRl.out)).mono ?_
                 rintro e w51 ⟨rfl, q51, hw51⟩
                 have hb51 : Below w50.heap.size w50 w51 := by rw [hw51]; exact ⟨rfl, rfl, rfl, Nat.le_refl _, fun _ _ => rfl⟩
                 have HS51 := Lib.hid (HS50.out.step hb51)
                 have HF51 := Lib.hid (HKC.out 1 _ rfl w51 HS51.out.kept)
                 clear hw51 hb51)
              | (go_at_call 32
                 refine (HAPT.out _ _ _ _ _ HS51.out).mono ?_
                 rintro e w52 ⟨rfl, hb52, hm52⟩
                 have HB52 := Lib.hid hb52
                 have HF52 := Lib.hid (HKC.out 1 _ rfl w52 hm52)
                 clear hb52 hm52))
        all_goals
          go_wp2_with fail
          go_ret
          exact ⟨rfl, HB52.out⟩
      · have g0 : decide ((0:Int) < (os.length:Int)) = true := decide_eq_true (by omega)
        have g0b : decide (0 < os.length) = true := decide_eq_true (by omega)
        have HTA := Lib.hid ((HS43.out.oe.made (Value.slice AT ts.length ct, ts) (by simp [HT0.out])).addr)

        have hmo := HS43.out.own
        have h0l : 0 < os.length := by omega
        obtain ⟨ad, hAd, hx1, hx2⟩ := (Made.rd' encEntry.len hmo).at_ h0l
        obtain ⟨gO, rfl⟩ := (hmo.addr).1 ad hAd
        subst hAd
        clear hx1 hx2
        have hpl := fun m hm => Made.place encEntry.len hmo h0l m hm
        obtain ⟨⟨u2, e2⟩, f2⟩ := hpl 2 (by omega)
        obtain ⟨⟨u3, e3⟩, f3⟩ := hpl 3 (by omega)
        obtain ⟨⟨u4, e4⟩, f4⟩ := hpl 4 (by omega)
        simp only [Nat.zero_mul, Nat.zero_add] at e2 e3 e4 f2 f3 f4
        have e3' : (wr.setCell ⟨gO, 2, none⟩ (.int .i64 2)).cell? ⟨gO, 3, none⟩ = some u3 := (World.cell?_setCell_other _ _ _ _ (by simp)).trans e3
        have f3' : (wr.setCell ⟨gO, 2, none⟩ (.int .i64 2)).frozen? ⟨gO, 3, none⟩ = false := by rw [World.frozen?_setCell]; exact f3
        have e4' : ((wr.setCell ⟨gO, 2, none⟩ (.int .i64 2)).setCell ⟨gO, 3, none⟩ (.int .i64 0)).cell? ⟨gO, 4, none⟩ = some u4 := (World.cell?_setCell_other _ _ _ _ (by simp)).trans ((World.cell?_setCell_other _ _ _ _ (by simp)).trans e4)
        have f4' : ((wr.setCell ⟨gO, 2, none⟩ (.int .i64 2)).setCell ⟨gO, 3, none⟩ (.int .i64 0)).frozen? ⟨gO, 4, none⟩ = false := by rw [World.frozen?_setCell, World.frozen?_setCell]; exact f4
        have hso := hmo.spoilOp rfl 0 h0l ⟨2, 0, ⟨#[111, 116, 104, 101, 114]⟩⟩
        simp only [Nat.zero_mul, Nat.zero_add] at hso
        obtain ⟨os2, hos2⟩ : ∃ os2, os2 = os.set 0 ⟨os[0].client, os[0].number, ⟨2, 0, ⟨#[111, 116, 104, 101, 114]⟩⟩⟩ := ⟨_, rfl⟩
        have hol2 : os2.length = os.length := by rw [hos2, List.length_set]
        rw [← hos2] at hso
        obtain ⟨W44, hW44⟩ : ∃ W44, W44 = ((wr.setCell ⟨gO, 2, none⟩ (.int .i64 2)).setCell ⟨gO, 3, none⟩ (.int .i64 0)).setCell ⟨gO, 4, none⟩ (.string ⟨#[111, 116, 104, 101, 114]⟩) := ⟨_, rfl⟩
        have hkk : Kept (fun j => (Value.slice (some ⟨gO, 0, none⟩) os.length co).ownBlock = some j) wr W44 := by
          rw [hW44]
          exact (((Kept.refl (fun j => (Value.slice (some ⟨gO, 0, none⟩) os.length co).ownBlock = some j) wr).setCell (p := ⟨gO, 2, none⟩) (fun _ => rfl) _).setCell (p := ⟨gO, 3, none⟩) (fun _ => rfl) _).setCell (p := ⟨gO, 4, none⟩) (fun _ => rfl) _
        rw [← hW44] at hso
        have HS44 := Lib.hid (HS43.out.over hkk hso)
        have HW44 := Lib.hid hW44
        have HOL := Lib.hid hol2
        clear hso hkk hW44 hos2 hmo hpl hol2
        go_wp2_with fail
        rw [← HW44.out]
        clear e2 e3 e4 f2 f3 f4 e3' f3' e4' f4'
        have hcut : Calls Try.prog 26 #[.slice (some ⟨gO, 0, none⟩) os.length co, .int .i64 (os.length : Int)] W44 (PostE W44 os2 0) := (cut_prog (some ⟨gO, 0, none⟩) co os.length (os.length : Int) os2 HOL.out.symm hco W44 (by rw [HOL.out]; omega) (Made.rd' encEntry.len HS44.out.own)).mono fun e w' h => by
          rw [if_neg (by omega), if_neg (by omega), Int.toNat_natCast, List.take_of_length_le (by rw [HOL.out]; omega)] at h
          exact PostE.of h
        refine hcut.mono ?_
        rintro e w45 ⟨A9, c9, rfl, hm, hb⟩
        have HX9 := Lib.hid hm.addr
        have hs45 := HS44.out.addE hb hm
        rw [HOL.out] at HX9 hs45 ⊢
        have HS45 := Lib.hid hs45
        clear hm hb hs45 hcut
        have hgr := guard_entry
        have h0l2 : 0 < os2.length := by rw [HOL.out]; exact h0l
        obtain ⟨ad9, hA9, _, hca9⟩ := (Made.rd' encEntry.len (HS45.out.oe.made (Value.slice A9 os.length c9, os2) (by simp))).at_ h0l2
        obtain ⟨g9, rfl⟩ := HX9.out.1 ad9 hA9
        subst hA9
        obtain ⟨adO, hAO, _, hcaO⟩ := (Made.rd' encEntry.len HS45.out.own).at_ h0l2
        cases hAO
        have hca9' : At w45 ⟨g9, 0, none⟩ (Entry.cells os2[0]) := hca9
        have hcaO' : At w45 ⟨gO, 0, none⟩ (Entry.cells os2[0]) := hcaO
        obtain ⟨y, hy⟩ : ∃ y, y = os2[0] := ⟨_, rfl⟩
        rw [← hy] at hca9' hcaO'
        obtain ⟨a0, a1, a2, a3, a4⟩ := hca9'.five
        obtain ⟨b0, b1, b2, b3, b4⟩ := hcaO'.five
        simp only [Nat.zero_add] at a1 a2 a3 a4 b1 b2 b3 b4
        have geq : ∀ W, (binOp .neq 32 (.agg #[.int .i64 y.client, .int .i64 y.number, .int .i64 y.op.kind, .int .i64 y.op.slot, .string y.op.value]) (.agg #[.int .i64 y.client, .int .i64 y.number, .int .i64 y.op.kind, .int .i64 y.op.slot, .string y.op.value])).run Try.prog W = .ok (.bool false) W := fun W => by have h := neq_entry y y W; simpa using h
        have i0 : (0:Int) < (os.length:Int) := by omega
        clear hca9 hcaO hca9' hcaO' hy h0l2
        dsimp only
        go_wp2_with fail
        go_quiet (fail)
        go_wp2_with fail
        clear a0 a1 a2 a3 a4 b0 b1 b2 b3 b4 geq
        refine (bookEntryP bk w.heap.size _ _ _ _ _ _ _ _ (some ⟨g9, 0, none⟩) os.length c9 HX9.out.1 HX9.out.2 _ (HS45.out.book.below (below_drewN (Below.refl _ _) _)) (by simp only [List.length_append, List.length_nil]; have := bkOf_le (.slice Aa0 lao.length ca0); have := bkOf_le (.slice Ab0 lbo.length cb0); have := bkOf_le (.slice Ac0 lco.length cc0); have := bkOf_le (.slice Ad0 ldo.length cd0); have := bkOf_le (.slice Aa1 lat.length ca1); have := bkOf_le (.slice Ab1 lbt.length cb1); have := bkOf_le (.slice Ac1 lct.length cc1); have := bkOf_le (.slice Ad1 ldt.length cd1); have := bkOf_le (.slice Aa2 lao.length ca2); have := bkOf_le (.slice Ab2 lbo.length cb2); have := bkOf_le (.slice Ac2 lco.length cc2); have := bkOf_le (.slice Ad2 ldo.length cd2);  omega) HS45.out.below.size).mono ?_
        rintro e w46 ⟨rfl, ⟨v', hb', hv'⟩, hk'⟩
        have HS46 := Lib.hid ((HS45.out.step (below_drewN (Below.refl w45.heap.size w45) _)).put (.inl rfl) hk' hb' hv')
        clear hb' hk' hv'
        dsimp only
        go_wp2_with fail
        refine (bookEntryP bk w.heap.size _ _ _ _ _ _ _ _ AT ts.length ct HTA.out.1 HTA.out.2 _ HS46.out.book (by simp only [List.length_append, List.length_nil]; have := bkOf_le (.slice Aa0 lao.length ca0); have := bkOf_le (.slice Ab0 lbo.length cb0); have := bkOf_le (.slice Ac0 lco.length cc0); have := bkOf_le (.slice Ad0 ldo.length cd0); have := bkOf_le (.slice Aa1 lat.length ca1); have := bkOf_le (.slice Ab1 lbt.length cb1); have := bkOf_le (.slice Ac1 lct.length cc1); have := bkOf_le (.slice Ad1 ldt.length cd1); have := bkOf_le (.slice Aa2 lao.length ca2); have := bkOf_le (.slice Ab2 lbo.length cb2); have := bkOf_le (.slice Ac2 lco.length cc2); have := bkOf_le (.slice Ad2 ldo.length cd2); have := bkOf_le (.slice (some ⟨g9, 0, none⟩) os.length c9); omega) HS46.out.below.size).mono ?_
        rintro e w50 ⟨rfl, ⟨v', hb', hv'⟩, hk'⟩
        have HS50 := Lib.hid (HS46.out.put (.inl rfl) hk' hb' hv')
        clear hb' hk' hv'
        have HSM : Hid (∀ W, Rd Entry.cells 5 W W.heap.size Ab0 lbo → Rd Entry.cells 5 W W.heap.size Al os → Calls Try.prog 15 #[.slice Ab0 lbo.length cb0, .slice Al N cl] W fun e w' => e = .returned (.bool true) ∧ ∃ q, w' = W.drewN q) := fun W h1 h2 => by
          refine (sameEntries Ab0 Al cb0 cl lbo.length N lbo (os.take N) rfl (by rw [List.length_take]; omega) W (by have := HLLbo.out; omega) (by rw [List.length_take]; omega) h1 (h2.take N)).mono fun e w' ⟨he, hw⟩ => ⟨?_, hw⟩
          rw [he, HLbo.out]
          simp
        have HAPT : Hid (∀ W vE vC vS vK, Own6 w W bk _ _ vE vC vS ([] ++ bkOf (.slice Aa0 lao.length ca0) ++ bkOf (.slice Ab0 lbo.length cb0) ++ bkOf (.slice Ac0 lco.length cc0) ++ bkOf (.slice Ad0 ldo.length cd0) ++ bkOf (.slice Aa1 lat.length ca1) ++ bkOf (.slice Ab1 lbt.length cb1) ++ bkOf (.slice Ac1 lct.length cc1) ++ bkOf (.slice Ad1 ldt.length cd1) ++ bkOf (.slice Aa2 lao.length ca2) ++ bkOf (.slice Ab2 lbo.length cb2) ++ bkOf (.slice Ac2 lco.length cc2) ++ bkOf (.slice Ad2 ldo.length cd2) ++ bkOf (.slice (some ⟨g9, 0, none⟩) os.length c9) ++ bkOf (.slice AT ts.length ct)) ([] ++ bkOf (.slice Af0 lfo.length cf0) ++ bkOf (.slice Af1 lft.length cf1) ++ bkOf (.slice Af2 lfo.length cf2)) ([] ++ bkOf (.slice Ag0 lgo.length cg0) ++ bkOf (.slice Ag1 lgt.length cg1) ++ bkOf (.slice Ag2 lgo.length cg2)) (EV ++ [(Value.slice Aa0 lao.length ca0, lao)] ++ [(Value.slice Ab0 lbo.length cb0, lbo)] ++ [(Value.slice Ac0 lco.length cc0, lco)] ++ [(Value.slice Ad0 ldo.length cd0, ldo)] ++ [(Value.slice Aa1 lat.length ca1, lat)] ++ [(Value.slice Ab1 lbt.length cb1, lbt)] ++ [(Value.slice Ac1 lct.length cc1, lct)] ++ [(Value.slice Ad1 ldt.length cd1, ldt)] ++ [(Value.slice Aa2 lao.length ca2, lao)] ++ [(Value.slice Ab2 lbo.length cb2, lbo)] ++ [(Value.slice Ac2 lco.length cc2, lco)] ++ [(Value.slice Ad2 ldo.length cd2, ldo)] ++ [(Value.slice (some ⟨g9, 0, none⟩) os.length c9, os2)]) ([] ++ [(Value.slice Af0 lfo.length cf0, lfo)] ++ [(Value.slice Af1 lft.length cf1, lft)] ++ [(Value.slice Af2 lfo.length cf2, lfo)]) ([] ++ [(Value.slice Ag0 lgo.length cg0, lgo)] ++ [(Value.slice Ag1 lgt.length cg1, lgt)] ++ [(Value.slice Ag2 lgo.length cg2, lgo)]) vK _ → Calls Try.prog 32 #[.pointer (some ⟨bk, 0, none⟩)] W fun e W' => e = .returned (.bool true) ∧ Below w.heap.size w W' ∧ Made slc 1 22 w.heap.size W' vK ((([] ++ ([⟨.slice Aa0 lao.length ca0, rfl⟩, ⟨.slice Ab0 lbo.length cb0, rfl⟩, ⟨.slice Ac0 lco.length cc0, rfl⟩, ⟨.slice Ad0 ldo.length cd0, rfl⟩] : List { v : Value // v.oneCell' = true })) ++ ([⟨.slice Aa1 lat.length ca1, rfl⟩, ⟨.slice Ab1 lbt.length cb1, rfl⟩, ⟨.slice Ac1 lct.length cc1, rfl⟩, ⟨.slice Ad1 ldt.length cd1, rfl⟩] : List { v : Value // v.oneCell' = true })) ++ ([⟨.slice Aa2 lao.length ca2, rfl⟩, ⟨.slice Ab2 lbo.length cb2, rfl⟩, ⟨.slice Ac2 lco.length cc2, rfl⟩, ⟨.slice Ad2 ldo.length cd2, rfl⟩] : List { v : Value // v.oneCell' = true }))) := fun W vE vC vS vK (h : Own6 w W bk (.slice (some ⟨gO, 0, none⟩) os.length co) os2 vE vC vS ([] ++ bkOf (.slice Aa0 lao.length ca0) ++ bkOf (.slice Ab0 lbo.length cb0) ++ bkOf (.slice Ac0 lco.length cc0) ++ bkOf (.slice Ad0 ldo.length cd0) ++ bkOf (.slice Aa1 lat.length ca1) ++ bkOf (.slice Ab1 lbt.length cb1) ++ bkOf (.slice Ac1 lct.length cc1) ++ bkOf (.slice Ad1 ldt.length cd1) ++ bkOf (.slice Aa2 lao.length ca2) ++ bkOf (.slice Ab2 lbo.length cb2) ++ bkOf (.slice Ac2 lco.length cc2) ++ bkOf (.slice Ad2 ldo.length cd2) ++ bkOf (.slice (some ⟨g9, 0, none⟩) os.length c9) ++ bkOf (.slice AT ts.length ct)) ([] ++ bkOf (.slice Af0 lfo.length cf0) ++ bkOf (.slice Af1 lft.length cf1) ++ bkOf (.slice Af2 lfo.length cf2)) ([] ++ bkOf (.slice Ag0 lgo.length cg0) ++ bkOf (.slice Ag1 lgt.length cg1) ++ bkOf (.slice Ag2 lgo.length cg2)) (EV ++ [(Value.slice Aa0 lao.length ca0, lao)] ++ [(Value.slice Ab0 lbo.length cb0, lbo)] ++ [(Value.slice Ac0 lco.length cc0, lco)] ++ [(Value.slice Ad0 ldo.length cd0, ldo)] ++ [(Value.slice Aa1 lat.length ca1, lat)] ++ [(Value.slice Ab1 lbt.length cb1, lbt)] ++ [(Value.slice Ac1 lct.length cc1, lct)] ++ [(Value.slice Ad1 ldt.length cd1, ldt)] ++ [(Value.slice Aa2 lao.length ca2, lao)] ++ [(Value.slice Ab2 lbo.length cb2, lbo)] ++ [(Value.slice Ac2 lco.length cc2, lco)] ++ [(Value.slice Ad2 ldo.length cd2, ldo)] ++ [(Value.slice (some ⟨g9, 0, none⟩) os.length c9, os2)]) ([] ++ [(Value.slice Af0 lfo.length cf0, lfo)] ++ [(Value.slice Af1 lft.length cf1, lft)] ++ [(Value.slice Af2 lfo.length cf2, lfo)]) ([] ++ [(Value.slice Ag0 lgo.length cg0, lgo)] ++ [(Value.slice Ag1 lgt.length cg1, lgt)] ++ [(Value.slice Ag2 lgo.length cg2, lgo)]) vK ((([] ++ ([⟨.slice Aa0 lao.length ca0, rfl⟩, ⟨.slice Ab0 lbo.length cb0, rfl⟩, ⟨.slice Ac0 lco.length cc0, rfl⟩, ⟨.slice Ad0 ldo.length cd0, rfl⟩] : List { v : Value // v.oneCell' = true })) ++ ([⟨.slice Aa1 lat.length ca1, rfl⟩, ⟨.slice Ab1 lbt.length cb1, rfl⟩, ⟨.slice Ac1 lct.length cc1, rfl⟩, ⟨.slice Ad1 ldt.length cd1, rfl⟩] : List { v : Value // v.oneCell' = true })) ++ ([⟨.slice Aa2 lao.length ca2, rfl⟩, ⟨.slice Ab2 lbo.length cb2, rfl⟩, ⟨.slice Ac2 lco.length cc2, rfl⟩, ⟨.slice Ad2 ldo.length cd2, rfl⟩] : List { v : Value // v.oneCell' = true }))) => by
          have hsub : ([(Value.slice AT ts.length ct, ts), (Value.slice Aa0 lao.length ca0, lao), (Value.slice Ab0 lbo.length cb0, lbo), (Value.slice Ac0 lco.length cc0, lco), (Value.slice Ad0 ldo.length cd0, ldo), (Value.slice Aa1 lat.length ca1, lat), (Value.slice Ab1 lbt.length cb1, lbt), (Value.slice Ac1 lct.length cc1, lct), (Value.slice Ad1 ldt.length cd1, ldt), (Value.slice Aa2 lao.length ca2, lao), (Value.slice Ab2 lbo.length cb2, lbo), (Value.slice Ac2 lco.length cc2, lco), (Value.slice Ad2 ldo.length cd2, ldo), (Value.slice (some ⟨g9, 0, none⟩) os.length c9, os2)] : List (Value × List Entry)).Sublist (EV ++ [(Value.slice Aa0 lao.length ca0, lao)] ++ [(Value.slice Ab0 lbo.length cb0, lbo)] ++ [(Value.slice Ac0 lco.length cc0, lco)] ++ [(Value.slice Ad0 ldo.length cd0, ldo)] ++ [(Value.slice Aa1 lat.length ca1, lat)] ++ [(Value.slice Ab1 lbt.length cb1, lbt)] ++ [(Value.slice Ac1 lct.length cc1, lct)] ++ [(Value.slice Ad1 ldt.length cd1, ldt)] ++ [(Value.slice Aa2 lao.length ca2, lao)] ++ [(Value.slice Ab2 lbo.length cb2, lbo)] ++ [(Value.slice Ac2 lco.length cc2, lco)] ++ [(Value.slice Ad2 ldo.length cd2, ldo)] ++ [(Value.slice (some ⟨g9, 0, none⟩) os.length c9, os2)]) := by
            rw [← HEV.out]
            simp only [List.append_assoc, List.cons_append, List.nil_append]
            exact List.Sublist.cons _ (List.Sublist.cons_cons _ (List.Sublist.cons _ (List.Sublist.refl _)))
          have ho := h.oe.sub hsub
          have hq1 := HLao.out
          have hq2 := HLLbo.out
          have hq3 := HLco.out
          have hq4 := HLdo.out
          have hq5 := HLat.out
          have hq6 := HLLbt.out
          have hq7 := HLct.out
          have hq8 := HLdt.out
          have hq9 := HOL.out
          have hlen : ∀ p ∈ ([(Value.slice AT ts.length ct, ts), (Value.slice Aa0 lao.length ca0, lao), (Value.slice Ab0 lbo.length cb0, lbo), (Value.slice Ac0 lco.length cc0, lco), (Value.slice Ad0 ldo.length cd0, ldo), (Value.slice Aa1 lat.length ca1, lat), (Value.slice Ab1 lbt.length cb1, lbt), (Value.slice Ac1 lct.length cc1, lct), (Value.slice Ad1 ldt.length cd1, ldt), (Value.slice Aa2 lao.length ca2, lao), (Value.slice Ab2 lbo.length cb2, lbo), (Value.slice Ac2 lco.length cc2, lco), (Value.slice Ad2 ldo.length cd2, ldo), (Value.slice (some ⟨g9, 0, none⟩) os.length c9, os2)] : List (Value × List Entry)), p.2.length ≤ 300 := fun p hp => by
            simp only [List.mem_cons, List.not_mem_nil, or_false] at hp
            rcases hp with rfl | rfl | rfl | rfl | rfl | rfl | rfl | rfl | rfl | rfl | rfl | rfl | rfl | rfl <;> simp only <;> omega
          have hperm : (([(Value.slice AT ts.length ct, ts), (Value.slice Aa0 lao.length ca0, lao), (Value.slice Ab0 lbo.length cb0, lbo), (Value.slice Ac0 lco.length cc0, lco), (Value.slice Ad0 ldo.length cd0, ldo), (Value.slice Aa1 lat.length ca1, lat), (Value.slice Ab1 lbt.length cb1, lbt), (Value.slice Ac1 lct.length cc1, lct), (Value.slice Ad1 ldt.length cd1, ldt), (Value.slice Aa2 lao.length ca2, lao), (Value.slice Ab2 lbo.length cb2, lbo), (Value.slice Ac2 lco.length cc2, lco), (Value.slice Ad2 ldo.length cd2, ldo), (Value.slice (some ⟨g9, 0, none⟩) os.length c9, os2)] : List (Value × List Entry)).flatMap fun p => bkOf p.1).Perm ([] ++ bkOf (.slice Aa0 lao.length ca0) ++ bkOf (.slice Ab0 lbo.length cb0) ++ bkOf (.slice Ac0 lco.length cc0) ++ bkOf (.slice Ad0 ldo.length cd0) ++ bkOf (.slice Aa1 lat.length ca1) ++ bkOf (.slice Ab1 lbt.length cb1) ++ bkOf (.slice Ac1 lct.length cc1) ++ bkOf (.slice Ad1 ldt.length cd1) ++ bkOf (.slice Aa2 lao.length ca2) ++ bkOf (.slice Ab2 lbo.length cb2) ++ bkOf (.slice Ac2 lco.length cc2) ++ bkOf (.slice Ad2 ldo.length cd2) ++ bkOf (.slice (some ⟨g9, 0, none⟩) os.length c9) ++ bkOf (.slice AT ts.length ct)) := by
            simp only [List.flatMap_cons, List.flatMap_nil, List.append_nil, List.nil_append, List.append_assoc]
            refine List.perm_append_comm.trans ?_
            simp only [List.append_assoc]
            exact List.Perm.refl _
          refine h.apart (V := [(Value.slice AT ts.length ct, ts), (Value.slice Aa0 lao.length ca0, lao), (Value.slice Ab0 lbo.length cb0, lbo), (Value.slice Ac0 lco.length cc0, lco), (Value.slice Ad0 ldo.length cd0, ldo), (Value.slice Aa1 lat.length ca1, lat), (Value.slice Ab1 lbt.length cb1, lbt), (Value.slice Ac1 lct.length cc1, lct), (Value.slice Ad1 ldt.length cd1, ldt), (Value.slice Aa2 lao.length ca2, lao), (Value.slice Ab2 lbo.length cb2, lbo), (Value.slice Ac2 lco.length cc2, lco), (Value.slice Ad2 ldo.length cd2, ldo), (Value.slice (some ⟨g9, 0, none⟩) os.length c9, os2)]) (ho.lists.perm hperm) (fun l hl => ho.lens hlen l (hperm.mem_iff.2 hl)) ?_ (by simp) (by simp) (by simp) (by simp) (fun p hp => ?_) (fun p hp => ?_)
          · have hx := outs_length ([(Value.slice AT ts.length ct, ts), (Value.slice Aa0 lao.length ca0, lao), (Value.slice Ab0 lbo.length cb0, lbo), (Value.slice Ac0 lco.length cc0, lco), (Value.slice Ad0 ldo.length cd0, ldo), (Value.slice Aa1 lat.length ca1, lat), (Value.slice Ab1 lbt.length cb1, lbt), (Value.slice Ac1 lct.length cc1, lct), (Value.slice Ad1 ldt.length cd1, ldt), (Value.slice Aa2 lao.length ca2, lao), (Value.slice Ab2 lbo.length cb2, lbo), (Value.slice Ac2 lco.length cc2, lco), (Value.slice Ad2 ldo.length cd2, ldo), (Value.slice (some ⟨g9, 0, none⟩) os.length c9, os2)] : List (Value × List Entry))
            have hy := hperm.length_eq
            simp only [List.length_cons, List.length_nil] at hx
            omega
          · have hf1 := HLfo.out
            have hf2 := HLft.out
            simp only [List.nil_append, List.cons_append, List.mem_cons, List.not_mem_nil, or_false] at hp
            rcases hp with rfl | rfl | rfl <;> simp only <;> omega
          · have hf1 := HLgo.out
            have hf2 := HLgt.out
            simp only [List.nil_append, List.cons_append, List.mem_cons, List.not_mem_nil, or_false] at hp
            rcases hp with rfl | rfl | rfl <;> simp only <;> omega
        have HRb := Lib.hid (Made.rd' encEntry.len (HS50.out.oe.made (Value.slice Ab0 lbo.length cb0, lbo) (by simp)))
        have HRl := Lib.hid (Made.rd' encEntry.len (HS50.out.oe.made (Value.slice Al os.length cl, os) (by simp [HL0.out])))
        have d1 := HKC.out 1 _ rfl w50 HS50.out.kept
        have hz1 : (0:Int) ≤ (N:Int) := by omega
        have hz2 : (N:Int) ≤ (cl:Int) := by omega
        dsimp only
        go_wp2_with fail
        rcases Al with _ | alp
        all_goals
          go_region_held3 (fun W => W.cell? ⟨gK, 1, none⟩ = some (.slice Ab0 lbo.length cb0))
            (first
              | with_reducible exact HF52.out
              | with_reducible exact HF51.out
              | exact HF52.out
              | exact HF51.out
              | go_keep)
            (first
              | (go_at_call 15
                 refine (HSM.out _ (by exact HRb.out) (by exact HRl.out)).mono ?_
                 rintro e w51 ⟨rfl, q51, hw51⟩
                 have hb51 : Below w50.heap.size w50 w51 := by rw [hw51]; exact ⟨rfl, rfl, rfl, Nat.le_refl _, fun _ _ => rfl⟩
                 have HS51 := Lib.hid (HS50.out.step hb51)
                 have HF51 := Lib.hid (HKC.out 1 _ rfl w51 HS51.out.kept)
                 clear hw51 hb51)
              | (go_at_call 32
                 refine (HAPT.out _ _ _ _ _ HS51.out).mono ?_
                 rintro e w52 ⟨rfl, hb52, hm52⟩
                 have HB52 := Lib.hid hb52
                 have HF52 := Lib.hid (HKC.out 1 _ rfl w52 hm52)
                 clear hb52 hm52))
        all_goals
          go_wp2_with fail
          go_ret
          exact ⟨rfl, HB52.out⟩
theorem own06_law (W : World) (A : Option Addr) (c n : Nat) (xs : List Raw) (hn : n = xs.length) (_ : n ≤ c) (hrd : Rd Raw.cells 5 W W.heap.size A xs) (hwf : ∀ o ∈ xs, o.wf) (hsz : xs.length * 48 ≤ 140737488351232)
    (A2 : Option Addr) (c2 n2 : Nat) (ys : List Raw) (hn2 : n2 = ys.length) (_ : n2 ≤ c2) (hrd2 : Rd Raw.cells 5 W W.heap.size A2 ys) (hwf2 : ∀ o ∈ ys, o.wf) (hsz2 : ys.length * 48 ≤ 140737488351232) (m : Int) (hm : I64 m) :
    Calls Try.prog 6 #[.slice A n c, .slice A2 n2 c2, .int .i64 m] W fun e w' => e = .returned (.bool true) ∧ Below W.heap.size W w' :=
  own06_calls A A2 c n c2 n2 xs ys m hm hn hn2 W (by omega) (by omega) hwf hwf2 hrd hrd2
end Go.Proofs.Ytnfilklgogaheaa
