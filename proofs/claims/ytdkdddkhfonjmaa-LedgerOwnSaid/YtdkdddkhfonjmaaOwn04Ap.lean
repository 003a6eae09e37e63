/- LedgerOwn: Apart over what lives. Conditions: lengths within Go's own limits. -/
import Derived.Test.YtdkdddkhfonjmaaOwn04St
namespace Go.Proofs.Ytdkdddkhfonjmaa
open Go.RowKit
set_option linter.unusedVariables false
set_option linter.unusedSimpArgs false

section
variable {w W W' : World} {b1 mb1 b2 mb2 bk : Nat} {cs ds : List Cell} {vO : Value} {os : List Op} {vC vS : Value} {LC LS : List Bk} {CV : List (Value × List Cell)} {RV : List (Value × List Res)}
theorem OwnSt.same (h : OwnSt w W b1 mb1 b2 mb2 bk cs ds vO os vC vS LC LS CV RV) {A B : Option Addr} {c d : Nat} {xs : List Cell} (hx : xs.length ≤ 1024) (ha : (Value.slice A xs.length c, xs) ∈ CV) (hb : (Value.slice B xs.length d, xs) ∈ CV) :
    Calls Try.prog 7 #[.slice A xs.length c, .slice B xs.length d] W fun e w' => e = .returned (.bool true) ∧ Below W.heap.size W w' :=
  (sameCellsTrue A B c d _ xs rfl W (by omega) (Made.rd' encCell.len (h.oc.made _ ha)) (Made.rd' encCell.len (h.oc.made _ hb))).mono fun _ _ ⟨he, q, hw⟩ => ⟨he, by rw [hw]; exact below_drewN (Below.refl _ _) q⟩
theorem OwnSt.sameR (h : OwnSt w W b1 mb1 b2 mb2 bk cs ds vO os vC vS LC LS CV RV) {A B : Option Addr} {c d n : Nat} {xs : List Res} (hn : n = xs.length) (hx : xs.length ≤ 140737488355328) (ha : (Value.slice A n c, xs) ∈ RV) (hb : (Value.slice B n d, xs) ∈ RV) :
    Calls Try.prog 13 #[.slice A n c, .slice B n d] W fun e w' => e = .returned (.bool true) ∧ Below W.heap.size W w' :=
  (sameResultsTrue A B c d n xs hn W (by omega) (Made.rd' encRes.len (h.or.made _ ha)) (Made.rd' encRes.len (h.or.made _ hb))).mono fun _ _ ⟨he, q, hw⟩ => ⟨he, by rw [hw]; exact below_drewN (Below.refl _ _) q⟩
theorem Outs.sub {α : Type} {enc : α → List Value} {k : Nat} {e : TypeId} {base : Nat} {V V' : List (Value × List α)} (h : Outs enc k e base w V) (hs : V'.Sublist V) : Outs enc k e base w V' := ⟨fun p hp => h.made p (hs.mem hp), h.apart.sublist hs⟩
theorem Lists.other {α : Type} {enc : α → List Value} {k : Nat} {e e' : TypeId} {base : Nat} {S : Nat → Prop} {L : List Bk} (h : Lists enc k e base w L) (hk : Kept S w W') (hS : ∀ j, S j → ∃ cs, w.heap[j]? = some (.cells cs e' (0, 0))) (hne : e ≠ e') : Lists enc k e base W' L := by
  refine ⟨fun l hl => ?_, h.apart⟩
  obtain ⟨xs, h1, h2⟩ := h.made l hl
  refine ⟨xs, h1, h2.same fun j hj => hk.block j (h2.lt j hj).2 fun q => ?_⟩
  obtain ⟨cs, q1⟩ := hS j q
  obtain ⟨cs', q2⟩ := h2.cell_block hj
  rw [q1] at q2; cases q2; exact hne rfl
theorem Lists.types {α : Type} {enc : α → List Value} {k : Nat} {e : TypeId} {base : Nat} {L : List Bk} (h : Lists enc k e base w L) : ∀ j, (∃ l ∈ L, j = l.g) → ∃ cs, w.heap[j]? = some (.cells cs e (0, 0)) := fun j ⟨l, hl, e⟩ => by
  obtain ⟨xs, _, h2⟩ := h.made l hl
  subst e
  exact h2.cell_block rfl
theorem BookC.other {base : Nat} {vE vR : Value} {LE LR : List Bk} {S : Nat → Prop} (h : BookC w bk base vE vC vR vS LE LC LR LS) (hk : Kept S w W') (hS : ∀ j, S j → ∃ cs t, w.heap[j]? = some (.cells cs t (0, 0)) ∧ (t ≠ 50 ∧ t ≠ 88 ∧ t ≠ 22 ∧ t ≠ 93 ∧ t ≠ 52)) : BookC W' bk base vE vC vR vS LE LC LR LS :=
  h.keep fun j q => hk.block j (BookS.lt h q) fun q' => by
    obtain ⟨cs, t, q2, q3⟩ := hS j q'
    exact BookS.ne q (fun e => by subst e; rw [h.at_] at q2; cases q2; exact q3.1 rfl) q2 q3.2
theorem OwnSt.apart (h : OwnSt w W b1 mb1 b2 mb2 bk cs ds vO os vC vS LC LS CV RV) {V : List (Value × List Cell)} (hV : V.Sublist CV) (hLC : LC = V.flatMap fun p => bkOf p.1) (hLS : LS = RV.flatMap fun p => bkOf p.1) (hV9 : V.length ≤ 900) (hR9 : RV.length ≤ 900)
    (hc : ∀ p ∈ V, p.2.length ≤ 1024) {m : Nat} (hm : (m + 70) * 32 ≤ 140737488355328) (hr : ∀ p ∈ RV, p.2.length ≤ m) :
    Calls Try.prog 16 #[.pointer (some ⟨bk, 0, none⟩)] W fun e W' => e = .returned (.bool true) ∧ Below w.heap.size w W' ∧ Two W' w.heap.size b1 mb1 b2 mb2 cs ds ∧
      ∀ p ∈ CV, (∀ q ∈ V, ∀ j, p.1.ownBlock = some j → q.1.ownBlock ≠ some j) → Made Cell.cells 2 29 w.heap.size W' p.1 p.2 := by
  have hlc : Lists Cell.cells 2 29 w.heap.size W LC := by rw [hLC]; exact (h.oc.sub hV).lists
  have hls : Lists Res.cells 3 35 w.heap.size W LS := by rw [hLS]; exact h.or.lists
  have hC9 : LC.length ≤ 900 := by rw [hLC]; exact Nat.le_trans (outs_length V) hV9
  have hS9 : LS.length ≤ 900 := by rw [hLS]; exact Nat.le_trans (outs_length RV) hR9
  have hCn : ∀ l ∈ LC, l.n ≤ 1024 := by rw [hLC]; exact (h.oc.sub hV).lens hc
  have hSn : ∀ l ∈ LS, l.n ≤ m := by rw [hLS]; exact h.or.lens hr
  have hb0 := h.below.size
  have hnil : ∀ W1, BookC W1 bk w.heap.size (.slice none 0 0) vC (.slice none 0 0) vS [] LC [] LS → ∀ f, f < 4 ∧ f ≠ 4 ∨ f = 5 ∨ 6 < f ∧ f < 10 → W1.cell? ⟨bk, f, none⟩ = some (.slice none 0 0) := fun W1 hb f hf => by
    rw [cell_of_row W1 bk f _ _ _ hb.at_]
    rcases hf with ⟨hf, _⟩ | rfl | hf
    · match f, hf with
      | 0, _ => rfl
      | 1, _ => rfl
      | 2, _ => rfl
      | 3, _ => rfl
    · rfl
    · match f, hf with
      | 7, _ => rfl
      | 8, _ => rfl
      | 9, _ => rfl
  refine (apartAll bk (fun W1 => BookC W1 bk w.heap.size (.slice none 0 0) vC (.slice none 0 0) vS [] LC [] LS ∧ Lists Cell.cells 2 29 w.heap.size W1 LC ∧ Lists Res.cells 3 35 w.heap.size W1 LS ∧ w.heap.size ≤ W1.heap.size)
    (fun W1 => BookC W1 bk w.heap.size (.slice none 0 0) vC (.slice none 0 0) vS [] LC [] LS ∧ Lists Cell.cells 2 29 w.heap.size W1 LC ∧ Lists Res.cells 3 35 w.heap.size W1 LS ∧ w.heap.size ≤ W1.heap.size)
    (fun W1 => BookC W1 bk w.heap.size (.slice none 0 0) vC (.slice none 0 0) vS [] LC [] LS ∧ Lists Res.cells 3 35 w.heap.size W1 LS ∧ w.heap.size ≤ W1.heap.size)
    (fun W1 => BookC W1 bk w.heap.size (.slice none 0 0) vC (.slice none 0 0) vS [] LC [] LS ∧ Lists Res.cells 3 35 w.heap.size W1 LS ∧ w.heap.size ≤ W1.heap.size)
    (fun W1 => BookC W1 bk w.heap.size (.slice none 0 0) vC (.slice none 0 0) vS [] LC [] LS)
    (fun j => (∃ l ∈ LC, j = l.g) ∨ ∃ l ∈ LS, j = l.g) ?_ ?_ ?_ ?_ ?_ W ⟨h.book, hlc, hls, hb0⟩).mono ?_
  · intro W1 hJ f hf
    rcases hJ with hJ | hJ
    · exact hnil W1 hJ.1 f (by omega)
    · exact hnil W1 hJ f (by omega)
  · intro W1 hJ
    exact (noneEntries bk W1 (hnil W1 hJ.1 3 (by omega))).mono fun e w' ⟨he, hw⟩ => by rw [hw]; exact ⟨he, hJ, Kept.refl _ _⟩
  · rintro W1 ⟨j1, j2, j3, j4⟩
    refine (apartCell bk vC LC w.heap.size W1 (cell_of_row W1 bk 4 _ _ _ j1.at_) j1.c (by omega) (fun l hl => by have := hCn l hl; omega) j2 j4).mono fun e w' ⟨he, hk⟩ => ⟨he, ⟨?_, ?_, Nat.le_trans j4 hk.size⟩, hk.mono fun j _ q => .inl q⟩
    · exact j1.other hk fun j q => by obtain ⟨cs, q2⟩ := j2.types j q; exact ⟨cs, _, q2, by decide⟩
    · exact j3.other hk j2.types (by decide)
  · intro W1 hJ
    exact (noneRows bk W1 (hnil W1 hJ.1 5 (by omega))).mono fun e w' ⟨he, hw⟩ => by rw [hw]; exact ⟨he, hJ, Kept.refl _ _⟩
  · rintro W1 ⟨j1, j3, j4⟩
    refine (apartRes bk vS LS w.heap.size W1 (cell_of_row W1 bk 6 _ _ _ j1.at_) j1.s (by omega) (fun l hl => by have := hSn l hl; omega) j3 j4).mono fun e w' ⟨he, hk⟩ => ⟨he, ?_, hk.mono fun j _ q => .inr q⟩
    exact j1.other hk fun j q => by obtain ⟨cs, q2⟩ := j3.types j q; exact ⟨cs, _, q2, by decide⟩
  · rintro e W' ⟨he, _, hk⟩
    have hty : ∀ j, ((∃ l ∈ LC, j = l.g) ∨ ∃ l ∈ LS, j = l.g) → w.heap.size ≤ j ∧ ∃ cs t, W.heap[j]? = some (.cells cs t (0, 0)) ∧ (t = 29 ∨ t = 35) := fun j q => by
      rcases q with q | q
      · obtain ⟨cs, q2⟩ := hlc.types j q
        obtain ⟨l, hl, e⟩ := q
        obtain ⟨xs, _, hm⟩ := hlc.made l hl
        exact ⟨by rw [e]; exact (hm.lt l.g rfl).1, cs, _, q2, .inl rfl⟩
      · obtain ⟨cs, q2⟩ := hls.types j q
        obtain ⟨l, hl, e⟩ := q
        obtain ⟨xs, _, hm⟩ := hls.made l hl
        exact ⟨by rw [e]; exact (hm.lt l.g rfl).1, cs, _, q2, .inr rfl⟩
    refine ⟨he, keptA h.below hk (fun j q => (hty j q).1) (Nat.le_refl _), h.two.types hk fun j q => ?_, fun p hp hap => (h.oc.made p hp).same fun j hj => hk.block j ((h.oc.made p hp).lt j hj).2 fun q => ?_⟩
    · obtain ⟨_, cs, t, q2, q3⟩ := hty j q
      exact ⟨cs, t, q2, by rcases q3 with rfl | rfl <;> decide⟩
    · rcases q with q | q
      · obtain ⟨l, hl, e⟩ := q
        rw [hLC] at hl
        obtain ⟨p', hp', hl⟩ := List.mem_flatMap.1 hl
        refine hap p' hp' j hj ?_
        have h3 : p'.1.ownBlock = some l.g := by
          have hm' := (h.oc.sub hV).made p' hp'
          obtain ⟨v', xs'⟩ := p'
          rcases hm'.2 with ⟨hv, _⟩ | ⟨g, cap, cur, hv, _⟩
          · simp only at hv; subst hv; simp [bkOf] at hl
          · simp only at hv; subst hv
            unfold bkOf at hl
            by_cases h0 : xs'.length = 0
            · simp [h0] at hl
            · simp only [if_neg h0, List.mem_singleton] at hl
              subst hl; rfl
        rw [h3, e]
      · obtain ⟨cs, q2⟩ := hls.types j q
        obtain ⟨cs', q3⟩ := (h.oc.made p hp).cell_block hj
        rw [q2] at q3; cases q3
end
end Go.Proofs.Ytdkdddkhfonjmaa
