/- The two iterators: ledger.Each and oplog.Each: what their functions hand to a loop's body, in what order, whatever the body keeps of what lay below. Conditions: none beyond the slice's own. -/
import Derived.Test.YtmfidhlhcochoaaJoin
import Derived.RangeFuncNested
import Derived.RangeFuncBound
import Derived.RangeFuncCalls
import Derived.RangeFuncLeaves
import Derived.Shelf.Abstract
import Derived.Shelf.RegionOpen
import Derived.WalkKit
import Derived.OwnWalkIn
import Derived.TacticsInMore
import Derived.LoopNIn
import Derived.LoopIn
namespace Go.Proofs.Ytmfidhlhcochoaa
open Go.RowKit Go.Shelf
set_option linter.unusedVariables false
set_option linter.unusedSimpArgs false
attribute [local go_sem] Oper.semAt_some

/-- Blocks from lo on, below hi, are as they were. -/
structure Mid (lo hi : Nat) (a b : World) : Prop where
  size : a.heap.size ≤ b.heap.size
  block : ∀ k, lo ≤ k → k < hi → b.heap[k]? = a.heap[k]?
section mid
variable {lo hi : Nat} {a b c : World}
theorem Mid.refl (a : World) : Mid lo hi a a := ⟨Nat.le_refl _, fun _ _ _ => rfl⟩
theorem Mid.trans (h : Mid lo hi a b) (j : Mid lo hi b c) : Mid lo hi a c := ⟨Nat.le_trans h.size j.size, fun k h1 h2 => (j.block k h1 h2).trans (h.block k h1 h2)⟩
theorem Mid.of_below (h : Below hi a b) : Mid lo hi a b := ⟨h.size, fun k _ h2 => h.block k h2⟩
theorem Mid.cell (h : Mid lo hi a b) {p : Addr} (h1 : lo ≤ p.block) (h2 : p.block < hi) : b.cell? p = a.cell? p := World.cell?_of_block (w := a) (h.block p.block h1 h2)
theorem Mid.alloc (h : Mid lo hi a b) (hb : hi ≤ b.heap.size) (o : Obj) : Mid lo hi a (b.alloc o) := h.trans (Mid.of_below ((Below.refl _ b).alloc hb o))
theorem Mid.setCell (h : Mid lo hi a b) {p : Addr} (hp : p.block < lo ∨ hi ≤ p.block) (u : Value) : Mid lo hi a (b.setCell p u) := ⟨by simpa [World.setCell] using h.size, fun k h1 h2 => (Below.heap_setCell b p u k (by omega)).trans (h.block k h1 h2)⟩
theorem Mid.of_kept {S : Nat → Prop} (h : Kept S a b) (hi' : hi ≤ a.heap.size) (hs : ∀ k, S k → k < lo ∨ hi ≤ k) : Mid lo hi a b := ⟨h.size, fun k h1 h2 => h.block k (by omega) (fun q => by have := hs k q; omega)⟩
theorem midK_t {A B C : World} (h : Mid lo hi A B) (k : Mid lo hi B C) : Mid lo hi A C := h.trans k
theorem midK_b {w : World} (hn : hi ≤ w.heap.size) (W : World) (l : Nat) (o o' : Obj) (hl : w.heap.size ≤ l) (h : W.heap[l]? = some o) (h1 : o.isCells = false) (h2 : o.isWalk = false) : Mid lo hi W (W.putObj l o') := Mid.of_below (belowK_b hn W l o o' hl h h1 h2)
theorem Rd.mid {α : Type} {enc : α → List Value} {k : Nat} {A : Option Addr} {xs : List α} (h : Rd enc k a hi A xs) (hA : ∀ ad, A = some ad → lo ≤ ad.block) (hm : Mid lo hi a b) : Rd enc k b hi A xs := fun i x hx => by
  obtain ⟨ad, e, hb, ha⟩ := h i x hx
  have h1 := hA ad e
  exact ⟨ad, e, hb, ha.keep (fun q hq => by rw [block_add] at hq; exact hm.cell (by omega) (by omega))⟩
end mid

/-- Places, in order, from i on. -/
def places (N i : Nat) : List (Fin N) := (List.finRange N).drop i
theorem places_full (N : Nat) : places N N = [] := by simp [places]
theorem places_cons {N i : Nat} (h : i < N) : places N i = ⟨i, h⟩ :: places N (i + 1) := by
  unfold places
  rw [List.drop_eq_getElem_cons (by simpa using h)]
  simp
theorem places_all (N : Nat) : (places N 0).take N = places N 0 := List.take_of_length_le (by simp [places])
theorem places_take {N k : Nat} (h : k < N) : (places N 0).take (k + 1) = (places N 0).take k ++ [⟨k, h⟩] := by
  rw [List.take_succ_eq_append_getElem (by simpa [places] using h)]
  simp [places]
theorem places_take_length {N k : Nat} (h : k ≤ N) : ((places N 0).take k).length = k := by simp [places, h]
def encC (xs : List Cell) (i : Fin xs.length) : Array Value := #[.int .i64 (xs[i.1]'i.2).slot, .string (xs[i.1]'i.2).value]

set_option maxRecDepth 100000 in
set_option maxHeartbeats 2000000 in
theorem eachC_in (n l Bs lo n₀ : Nat) (A : Option Addr) (len cap : Nat) (xs : List Cell) (hlen : len = xs.length) (hreach : xs.length ≤ 9223372036854775806) (J Jx : List (Fin xs.length) → World → Prop) (W : World) (hJ : AbidesFrom W.heap.size J) (hJx : AbidesFrom W.heap.size Jx)
    (hY : ∀ pre x W1, J pre W1 → pre.length < xs.length → YieldAt Fence.wide (n - 1) Try.prog l (encC xs x) W1 fun e W' =>
      (e = .returned (.bool true) ∧ J (pre ++ [x]) W' ∧ Mid lo n₀ W1 W') ∨ (e = .returned (.bool false) ∧ Jx (pre ++ [x]) W'))
    (hBs : W.cell? ⟨Bs, 0, none⟩ = some (.slice A len cap)) (hr : Rd Cell.cells 2 W n₀ A xs) (hA : ∀ ad, A = some ad → lo ≤ ad.block) (h0 : J [] W) (hn0 : n₀ ≤ W.heap.size) :
    CallsIn Fence.wide n Try.prog 99 #[.func (.yield l) #[] #[], .pointer (some ⟨Bs, 0, none⟩)] W fun e W' => (∃ v, e = .returned v) ∧
      ((∃ ys, ys = places xs.length 0 ∧ J ys W') ∨ (∃ pre, pre <+: places xs.length 0 ∧ Jx pre W')) := by
  subst hlen
  refine callsIn_of_wp Try.func99 rfl trivial ?_ rfl
  simp only [Try.ntmps99, List.size_toArray, List.length_cons, List.length_nil, Nat.reduceAdd, Nat.reduceSub, Array.replicate_succ, Array.replicate_zero, List.push_toArray, List.append_toArray, List.nil_append, List.cons_append]
  have HR := Lib.hid hr
  clear hr
  gi_wp2
  gi_loopw [7] (fun i wr => ∃ k : Nat, k ≤ xs.length ∧ i = .int .i64 k ∧ J ((places xs.length 0).take k) wr ∧ Mid lo n₀ W wr)
    (fun i _ => xs.length - (intOf i).toNat)
  case atStart => exact ⟨0, Nat.zero_le _, rfl, by simpa using h0, Mid.refl _⟩
  case round =>
    obtain ⟨k, hk, rfl, hJs, hnx⟩ := hrel
    by_cases hlt : k < xs.length
    · obtain ⟨ad, rfl, _, hca⟩ := (HR.out.mid hA hnx).at_ hlt
      have g1 : (k : Int) < (xs.length : Int) := by omega
      obtain ⟨c0, c1⟩ := hca.two
      obtain ⟨W1, hW1⟩ : ∃ W1, W1 = wr.alloc (.cells #[.int .i64 xs[k].slot, .string xs[k].value] 107) := ⟨_, rfl⟩
      have hJ1 : J ((places xs.length 0).take k) W1 := by rw [hW1]; exact hJ _ wr _ none hJs (World.grownBy_alloc wr _ none) (fun r e => by cases e)
      have hb1 : Mid lo n₀ wr W1 := by rw [hW1]; exact (Mid.refl _).alloc (Nat.le_trans hn0 hnx.size) _
      obtain ⟨fn, tmps, assign, body, hy, hR⟩ := hY _ ⟨k, hlt⟩ W1 hJ1 (by rw [places_take_length hk]; exact hlt)
      dsimp only [encC] at hy
      have hr1 : W1.heap[wr.heap.size]? = some (.cells #[.int .i64 xs[k].slot, .string xs[k].value] 107 (0, 0)) := by rw [hW1]; exact heap_alloc_new _ _
      have d0 : W1.cell? ⟨wr.heap.size, 0, none⟩ = some (.int .i64 xs[k].slot) := cell_of_row _ _ 0 _ _ _ hr1
      have d1 : W1.cell? ⟨wr.heap.size, 1, none⟩ = some (.string xs[k].value) := cell_of_row _ _ 1 _ _ _ hr1
      rw [hW1] at d0 d1 hy
      gi_wp2
      rw [← hW1]
      refine ⟨fun h => by simp [Fence.wide] at h, hR.mono ?_⟩
      rintro e W3 (⟨rfl, hJ3, hk3⟩ | ⟨rfl, hJx3⟩)
      · gi_wp2
        go_roundw
        case rel => exact ⟨k + 1, by omega, by simp, by rw [places_take hlt]; exact hJ3, (hnx.trans hb1).trans hk3⟩
        case measure => simp [intOf]; omega
      · gi_wp2
        refine bodyPost_ret (results_none rfl _ _ _) rfl ?_
        exact ⟨⟨_, rfl⟩, .inr ⟨_, ⟨_, List.take_append_drop (k + 1) _⟩, by rw [places_take hlt]; exact hJx3⟩⟩
    · obtain rfl : k = xs.length := by omega
      gi_wp2
      go_end0
      exact ⟨⟨_, rfl⟩, .inl ⟨_, rfl, by rwa [places_all] at hJs⟩⟩

def encE (xs : List Entry) (i : Fin xs.length) : Array Value := #[.int .i64 ((i.1 : Int) + 1), .agg #[.int .i64 (xs[i.1]'i.2).client, .int .i64 (xs[i.1]'i.2).number, .int .i64 (xs[i.1]'i.2).op.kind, .int .i64 (xs[i.1]'i.2).op.slot, .string (xs[i.1]'i.2).op.value]]
theorem places_take' {N s k : Nat} (h : s + k < N) : (places N s).take (k + 1) = (places N s).take k ++ [⟨s + k, h⟩] := by
  rw [List.take_succ_eq_append_getElem (by simp [places]; omega)]
  simp [places]
theorem places_take_length' {N s k : Nat} (h : s + k ≤ N) : ((places N s).take k).length = k := by simp [places]; omega
theorem places_all' {N s k : Nat} (h : N ≤ s + k) : (places N s).take k = places N s := List.take_of_length_le (by simp [places]; omega)

end Go.Proofs.Ytmfidhlhcochoaa
