/- LedgerOwn: what is written over, in plain lists; and what lives while the statement runs. Conditions: none. -/
import Derived.Test.YtdkdddkhfonjmaaBookAll
import Derived.Test.YtdkdddkhfonjmaaBookCell
import Derived.Test.YtdkdddkhfonjmaaBookRes
import Derived.Test.YtdkdddkhfonjmaaApart
import Derived.Test.YtdkdddkhfonjmaaReplay
import Derived.Test.YtdkdddkhfonjmaaWorks04
namespace Go.Proofs.Ytdkdddkhfonjmaa
open Go.RowKit
set_option linter.unusedVariables false
set_option linter.unusedSimpArgs false

def zOp (i : Nat) : Op := ⟨1, (i : Int) % 1024, ⟨#[122]⟩⟩
def zOps (n : Nat) : List Op := (List.range n).map zOp
theorem zOps_length (n : Nat) : (zOps n).length = n := by simp [zOps]
theorem zOps_succ (n : Nat) : zOps (n + 1) = zOps n ++ [zOp n] := by simp [zOps, List.range_succ]
theorem zOps_play (n : Nat) : (playC [] (zOps n)).length = min n 1024 ∧ ∀ s : Nat, s < 1024 → ((getC (playC [] (zOps n)) (s : Int)).isSome = true ↔ s < n) := by
  induction n with
  | zero => simp [zOps, playC, getC]
  | succ n ih =>
    obtain ⟨ih1, ih2⟩ := ih
    have hr : Rising (playC [] (zOps n)) := playC_rising Rising.nil
    rw [zOps_succ, playC_append]
    generalize playC [] (zOps n) = cs at *
    show (after cs (zOp n)).length = _ ∧ ∀ s : Nat, s < 1024 → ((getC (after cs (zOp n)) (s : Int)).isSome = true ↔ _)
    have hm : n % 1024 < 1024 := Nat.mod_lt _ (by omega)
    have hck : checkOp (zOp n) = 0 := by
      unfold checkOp zOp
      simp [ByteArray.size]
      omega
    have hi := ih2 (n % 1024) hm
    have hslot : (zOp n).slot = ((n % 1024 : Nat) : Int) := by show (n : Int) % 1024 = _; omega
    cases hg : getC cs ((n % 1024 : Nat) : Int) with
    | some v =>
      rw [hg] at hi
      simp only [Option.isSome_some, true_iff] at hi
      have hw : would cs (zOp n) = ⟨2, (zOp n).slot, v⟩ := by
        unfold would
        rw [if_neg (by simp [hck]), if_pos (show (zOp n).kind = 1 from rfl), hslot, hg]
      unfold after
      rw [hw, if_neg (show ¬ ((2 : Int) = 1) by omega)]
      refine ⟨by rw [ih1]; omega, fun s hs => ?_⟩
      rw [ih2 s hs]
      omega
    | none =>
      rw [hg] at hi
      simp only [Option.isSome_none, Bool.false_eq_true, false_iff] at hi
      have hw : would cs (zOp n) = ⟨1, (zOp n).slot, (zOp n).value⟩ := by
        unfold would
        rw [if_neg (by simp [hck]), if_pos (show (zOp n).kind = 1 from rfl), hslot, hg]
      unfold after
      rw [hw, if_pos rfl, hslot]
      have hn : n < 1024 := by omega
      have hmn : n % 1024 = n := Nat.mod_eq_of_lt hn
      rw [hmn] at hg ⊢
      refine ⟨by rw [putC_length, ih1]; omega, fun s hs => ?_⟩
      rw [getC_putC hr (c := ⟨(n : Int), (zOp n).value⟩) ⟨by simp only; omega, by simp only; omega, by simp [zOp, ByteArray.size]⟩ (fun d hd => getC_none.1 hg d hd)]
      by_cases h : (s : Int) = (n : Int)
      · rw [if_pos h]; simp; omega
      · rw [if_neg h, ih2 s hs]; omega

section
variable {α : Type} {enc : α → List Value} {k : Nat} {e : TypeId} {base : Nat} {w w' : World}
/-- Values that calls handed out: each in memory of its own, no two in one block. -/
structure Outs (enc : α → List Value) (k : Nat) (e : TypeId) (base : Nat) (w : World) (V : List (Value × List α)) : Prop where
  made : ∀ p ∈ V, Made enc k e base w p.1 p.2
  apart : V.Pairwise (fun p q => ∀ j, p.1.ownBlock = some j → q.1.ownBlock ≠ some j)
theorem Outs.nil : Outs enc k e base w [] := ⟨fun p h => by simp at h, List.Pairwise.nil⟩
theorem Outs.keep {V : List (Value × List α)} (h : Outs enc k e base w V) (hk : ∀ j, j < w.heap.size → base ≤ j → (∃ cs, w.heap[j]? = some (.cells cs e (0, 0))) → w'.heap[j]? = w.heap[j]?) : Outs enc k e base w' V :=
  ⟨fun p hp => (h.made p hp).same fun j hj => hk j ((h.made p hp).lt j hj).2 ((h.made p hp).lt j hj).1 ((h.made p hp).cell_block hj), h.apart⟩
theorem Outs.below {V : List (Value × List α)} (h : Outs enc k e base w V) (hb : Below w.heap.size w w') : Outs enc k e base w' V := h.keep fun j hj _ _ => hb.block j hj
theorem Outs.add {V : List (Value × List α)} (h : Outs enc k e base w V) (hb : Below w.heap.size w w') (hbase : base ≤ w.heap.size) {v : Value} {xs : List α} (hm : Made enc k e w.heap.size w' v xs) : Outs enc k e base w' (V ++ [(v, xs)]) := by
  refine ⟨fun p hp => ?_, List.pairwise_append.2 ⟨h.apart, by simp, fun p hp q hq j hj => ?_⟩⟩
  · rcases List.mem_append.1 hp with hp | hp
    · exact (h.below hb).made p hp
    · rw [List.mem_singleton.1 hp]; exact hm.base' hbase
  · rw [List.mem_singleton.1 hq]
    intro e
    have h1 := ((h.made p hp).lt j hj).2
    have h2 := (hm.lt j e).1
    omega
/-- As the book has them. -/
theorem Outs.lists {V : List (Value × List α)} (h : Outs enc k e base w V) : Lists enc k e base w (V.flatMap fun p => bkOf p.1) := by
  have key : ∀ p ∈ V, ∀ b ∈ bkOf p.1, p.1 = b.v ∧ b.n = p.2.length := fun p hp b hb => by
    have hm := h.made p hp
    obtain ⟨v, xs⟩ := p
    rcases hm.2 with ⟨hv, hn⟩ | ⟨g, cap, cur, hv, _⟩
    · simp only at hv; subst hv; simp [bkOf] at hb
    · simp only at hv; subst hv
      unfold bkOf at hb
      by_cases h0 : xs.length = 0
      · simp [h0] at hb
      · simp only [if_neg h0, List.mem_singleton] at hb
        subst hb
        exact ⟨rfl, rfl⟩
  constructor
  · intro b hb
    obtain ⟨p, hp, hb⟩ := List.mem_flatMap.1 hb
    obtain ⟨h1, h2⟩ := key p hp b hb
    refine ⟨p.2, h2.symm, ?_⟩
    rw [← h1]
    exact h.made p hp
  · have hap := h.apart
    clear h
    induction V with
    | nil => simp
    | cons p V ih =>
      rw [List.flatMap_cons, List.pairwise_append]
      obtain ⟨h1, h2⟩ := List.pairwise_cons.1 hap
      refine ⟨?_, ih (fun p hp => key p (by simp [hp])) h2, fun a ha b hb => ?_⟩
      · have hl : (bkOf p.1).length ≤ 1 := by unfold bkOf; split <;> (try split) <;> simp
        match hq : bkOf p.1, hl with
        | [], _ => simp
        | [x], _ => simp
      · obtain ⟨q, hq, hb⟩ := List.mem_flatMap.1 hb
        have ka := (key p (by simp) a ha).1
        have kb := (key q (by simp [hq]) b hb).1
        intro e
        refine h1 q hq a.g (by rw [ka]; rfl) ?_
        rw [kb, e]; rfl
theorem Outs.lens {V : List (Value × List α)} (h : Outs enc k e base w V) {m : Nat} (hm : ∀ p ∈ V, p.2.length ≤ m) : ∀ b ∈ (V.flatMap fun p => bkOf p.1), b.n ≤ m := fun b hb => by
  obtain ⟨p, hp, hb⟩ := List.mem_flatMap.1 hb
  have hmd := h.made p hp
  have hl := hm p hp
  obtain ⟨v, xs⟩ := p
  rcases hmd.2 with ⟨hv, hn⟩ | ⟨g, cap, cur, hv, _⟩
  · simp only at hv; subst hv; simp [bkOf] at hb
  · simp only at hv; subst hv
    unfold bkOf at hb
    by_cases h0 : xs.length = 0
    · simp [h0] at hb
    · simp only [if_neg h0, List.mem_singleton] at hb
      subst hb
      exact hl
theorem bkOf_le (v : Value) : (bkOf v).length ≤ 1 := by unfold bkOf; split <;> (try split) <;> simp
theorem outs_length (V : List (Value × List α)) : (V.flatMap fun p => bkOf p.1).length ≤ V.length := by
  induction V with
  | nil => simp
  | cons p V ih => rw [List.flatMap_cons, List.length_append]; have := bkOf_le p.1; simp only [List.length_cons]; omega
theorem Made.addr {A : Option Addr} {n c : Nat} {xs : List α} (h : Made enc k e base w (.slice A n c) xs) : (∀ ad, A = some ad → ∃ g, ad = ⟨g, 0, none⟩) ∧ (A = none → n = 0) := by
  rcases h.2 with ⟨hv, hn⟩ | ⟨g, cap, cur, hv, _⟩
  · injection hv with h1 h2 h3
    subst h1 h2
    exact ⟨fun ad e => (by cases e), fun _ => rfl⟩
  · injection hv with h1 h2 h3
    subst h1
    exact ⟨fun ad e => (by cases e; exact ⟨g, rfl⟩), fun e => (by cases e)⟩
end
end Go.Proofs.Ytdkdddkhfonjmaa
