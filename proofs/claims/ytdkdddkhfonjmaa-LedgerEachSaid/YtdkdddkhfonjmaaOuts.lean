/- Values that calls handed out, each in memory of its own; what keeps them, and the book's lists. Plain memory. Conditions: none. -/
import Derived.Test.YtdkdddkhfonjmaaBook
namespace Go.Proofs.Ytdkdddkhfonjmaa
open Go.RowKit
set_option linter.unusedVariables false
set_option linter.unusedSimpArgs false

section
variable {α : Type} {enc : α → List Value} {k : Nat} {e : TypeId} {base : Nat} {w w' : World}
/-- Values that calls handed out: each in memory of its own, no two in one block. -/
structure Outs (enc : α → List Value) (k : Nat) (e : TypeId) (base : Nat) (w : World) (V : List (Value × List α)) : Prop where
  made : ∀ p ∈ V, Made enc k e base w p.1 p.2
  apart : V.Pairwise (fun p q => ∀ j, p.1.ownBlock = some j → q.1.ownBlock ≠ some j)
theorem Outs.nil : Outs enc k e base w [] := ⟨fun p h => by simp at h, List.Pairwise.nil⟩
theorem Outs.keep {V : List (Value × List α)} (h : Outs enc k e base w V) (hk : ∀ j, j < w.heap.size → base ≤ j → (∃ cs, w.heap[j]? = some (.cells cs e (0, 0))) → w'.heap[j]? = w.heap[j]?) : Outs enc k e base w' V :=
  ⟨fun p hp => (h.made p hp).same fun j hj => hk j ((h.made p hp).lt j hj).2 ((h.made p hp).lt j hj).1 ((h.made p hp).cell_block hj), h.apart⟩
theorem Outs.below {V : List (Value × List α)} (h : Outs enc k e base w V) (hb : Below w.heap.size w w') : Outs enc k e base w' V := h.keep fun j hj _ _ => hb.block j hj
theorem Outs.add {V : List (Value × List α)} (h : Outs enc k e base w V) (hb : Below w.heap.size w w') (hbase : base ≤ w.heap.size) {v : Value} {xs : List α} (hm : Made enc k e w.heap.size w' v xs) : Outs enc k e base w' (V ++ [(v, xs)]) := by
  refine ⟨fun p hp => ?_, List.pairwise_append.2 ⟨h.apart, by simp, fun p hp q hq j hj => ?_⟩⟩
  · rcases List.mem_append.1 hp with hp | hp
    · exact (h.below hb).made p hp
    · rw [List.mem_singleton.1 hp]; exact hm.base' hbase
  · rw [List.mem_singleton.1 hq]
    intro e
    have h1 := ((h.made p hp).lt j hj).2
    have h2 := (hm.lt j e).1
    omega
/-- As the book has them. -/
theorem Outs.lists {V : List (Value × List α)} (h : Outs enc k e base w V) : Lists enc k e base w (V.flatMap fun p => bkOf p.1) := by
  have key : ∀ p ∈ V, ∀ b ∈ bkOf p.1, p.1 = b.v ∧ b.n = p.2.length := fun p hp b hb => by
    have hm := h.made p hp
    obtain ⟨v, xs⟩ := p
    rcases hm.2 with ⟨hv, hn⟩ | ⟨g, cap, cur, hv, _⟩
    · simp only at hv; subst hv; simp [bkOf] at hb
    · simp only at hv; subst hv
      unfold bkOf at hb
      by_cases h0 : xs.length = 0
      · simp [h0] at hb
      · simp only [if_neg h0, List.mem_singleton] at hb
        subst hb
        exact ⟨rfl, rfl⟩
  constructor
  · intro b hb
    obtain ⟨p, hp, hb⟩ := List.mem_flatMap.1 hb
    obtain ⟨h1, h2⟩ := key p hp b hb
    refine ⟨p.2, h2.symm, ?_⟩
    rw [← h1]
    exact h.made p hp
  · have hap := h.apart
    clear h
    induction V with
    | nil => simp
    | cons p V ih =>
      rw [List.flatMap_cons, List.pairwise_append]
      obtain ⟨h1, h2⟩ := List.pairwise_cons.1 hap
      refine ⟨?_, ih (fun p hp => key p (by simp [hp])) h2, fun a ha b hb => ?_⟩
      · have hl : (bkOf p.1).length ≤ 1 := by unfold bkOf; split <;> (try split) <;> simp
        match hq : bkOf p.1, hl with
        | [], _ => simp
        | [x], _ => simp
      · obtain ⟨q, hq, hb⟩ := List.mem_flatMap.1 hb
        have ka := (key p (by simp) a ha).1
        have kb := (key q (by simp [hq]) b hb).1
        intro e
        refine h1 q hq a.g (by rw [ka]; rfl) ?_
        rw [kb, e]; rfl
theorem Outs.lens {V : List (Value × List α)} (h : Outs enc k e base w V) {m : Nat} (hm : ∀ p ∈ V, p.2.length ≤ m) : ∀ b ∈ (V.flatMap fun p => bkOf p.1), b.n ≤ m := fun b hb => by
  obtain ⟨p, hp, hb⟩ := List.mem_flatMap.1 hb
  have hmd := h.made p hp
  have hl := hm p hp
  obtain ⟨v, xs⟩ := p
  rcases hmd.2 with ⟨hv, hn⟩ | ⟨g, cap, cur, hv, _⟩
  · simp only at hv; subst hv; simp [bkOf] at hb
  · simp only at hv; subst hv
    unfold bkOf at hb
    by_cases h0 : xs.length = 0
    · simp [h0] at hb
    · simp only [if_neg h0, List.mem_singleton] at hb
      subst hb
      exact hl
theorem bkOf_le (v : Value) : (bkOf v).length ≤ 1 := by unfold bkOf; split <;> (try split) <;> simp
theorem outs_length (V : List (Value × List α)) : (V.flatMap fun p => bkOf p.1).length ≤ V.length := by
  induction V with
  | nil => simp
  | cons p V ih => rw [List.flatMap_cons, List.length_append]; have := bkOf_le p.1; simp only [List.length_cons]; omega
theorem Made.addr {A : Option Addr} {n c : Nat} {xs : List α} (h : Made enc k e base w (.slice A n c) xs) : (∀ ad, A = some ad → ∃ g, ad = ⟨g, 0, none⟩) ∧ (A = none → n = 0) := by
  rcases h.2 with ⟨hv, hn⟩ | ⟨g, cap, cur, hv, _⟩
  · injection hv with h1 h2 h3
    subst h1 h2
    exact ⟨fun ad e => (by cases e), fun _ => rfl⟩
  · injection hv with h1 h2 h3
    subst h1
    exact ⟨fun ad e => (by cases e; exact ⟨g, rfl⟩), fun e => (by cases e)⟩
end

theorem keptB {S : Nat → Prop} {B : Nat} {w w1 w2 : World} (h : Below B w w1) (k : Kept S w1 w2) (hs : ∀ j, S j → B ≤ j) (hB : B ≤ w.heap.size) : Below B w w2 :=
  ⟨k.os.trans h.os, k.tape.trans h.tape, k.output.trans h.output, Nat.le_trans h.size k.size, fun j hj => (k.block j (by have := h.size; omega) (fun q => by have := hs j q; omega)).trans (h.block j hj)⟩
section
variable {w W W' : World} {bk : Nat} {vC vS : Value} {LC LS : List Bk}
theorem Outs.sub {α : Type} {enc : α → List Value} {k : Nat} {e : TypeId} {base : Nat} {V V' : List (Value × List α)} (h : Outs enc k e base w V) (hs : V'.Sublist V) : Outs enc k e base w V' := ⟨fun p hp => h.made p (hs.mem hp), h.apart.sublist hs⟩
theorem Lists.other {α : Type} {enc : α → List Value} {k : Nat} {e e' : TypeId} {base : Nat} {S : Nat → Prop} {L : List Bk} (h : Lists enc k e base w L) (hk : Kept S w W') (hS : ∀ j, S j → ∃ cs, w.heap[j]? = some (.cells cs e' (0, 0))) (hne : e ≠ e') : Lists enc k e base W' L := by
  refine ⟨fun l hl => ?_, h.apart⟩
  obtain ⟨xs, h1, h2⟩ := h.made l hl
  refine ⟨xs, h1, h2.same fun j hj => hk.block j (h2.lt j hj).2 fun q => ?_⟩
  obtain ⟨cs, q1⟩ := hS j q
  obtain ⟨cs', q2⟩ := h2.cell_block hj
  rw [q1] at q2; cases q2; exact hne rfl
theorem Lists.types {α : Type} {enc : α → List Value} {k : Nat} {e : TypeId} {base : Nat} {L : List Bk} (h : Lists enc k e base w L) : ∀ j, (∃ l ∈ L, j = l.g) → ∃ cs, w.heap[j]? = some (.cells cs e (0, 0)) := fun j ⟨l, hl, e⟩ => by
  obtain ⟨xs, _, h2⟩ := h.made l hl
  subst e
  exact h2.cell_block rfl
theorem BookC.other {base : Nat} {vE vR : Value} {LE LR : List Bk} {S : Nat → Prop} (h : BookC w bk base vE vC vR vS LE LC LR LS) (hk : Kept S w W') (hS : ∀ j, S j → ∃ cs t, w.heap[j]? = some (.cells cs t (0, 0)) ∧ (t ≠ 50 ∧ t ≠ 88 ∧ t ≠ 22 ∧ t ≠ 93 ∧ t ≠ 52)) : BookC W' bk base vE vC vR vS LE LC LR LS :=
  h.keep fun j q => hk.block j (BookS.lt h q) fun q' => by
    obtain ⟨cs, t, q2, q3⟩ := hS j q'
    exact BookS.ne q (fun e => by subst e; rw [h.at_] at q2; cases q2; exact q3.1 rfl) q2 q3.2
end
end Go.Proofs.Ytdkdddkhfonjmaa
