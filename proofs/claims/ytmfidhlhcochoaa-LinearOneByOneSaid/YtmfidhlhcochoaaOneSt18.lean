/- One behind the other: the state of the law's loop, plain lists and memory. Conditions: none. -/
import Derived.Test.YtmfidhlhcochoaaOneByPlain
import Derived.Test.YtmfidhlhcochoaaWithin18
import Derived.Test.YtmfidhlhcochoaaRefM18
namespace Go.Proofs.Ytmfidhlhcochoaa
open Go.RowKit
set_option linter.unusedVariables false
set_option linter.unusedSimpArgs false

structure Step where
  op : Op
  wait : Int
  last : Int
  right : Bool
  res : Res
deriving DecidableEq
def Step.cells (x : Step) : List Value := [.int .i64 x.op.kind, .int .i64 x.op.slot, .string x.op.value, .int .i64 x.wait, .int .i64 x.last, .bool x.right, .int .i64 x.res.code, .int .i64 x.res.slot, .string x.res.value]
theorem encStep : Enc Step.cells 9 := ⟨fun _ => rfl, fun x u hu => by simp [Step.cells] at hu; rcases hu with rfl | rfl | rfl | rfl | rfl | rfl | rfl | rfl | rfl <;> rfl⟩
def openC (x : Call) : Call := { x with fin := -1, res := zres }
structure OneSt (k : Nat) (row : Int) (good : Bool) (xs : List Call) : Prop where
  len : xs.length ≤ 8
  lek : xs.length ≤ k
  row0 : 0 ≤ row ∧ row ≤ 12 * xs.length
  line : InLine xs
  last : ∀ x ∈ xs, x.fin ≤ row
  num : ∀ x ∈ xs, 1 ≤ x.number ∧ x.number ≤ k ∧ 0 ≤ x.client ∧ x.client < 16 ∧ checkOp x.op = 0
  rise : xs.Pairwise fun x y => x.number < y.number
  good : good = allRight [] xs
theorem OneSt.nil : OneSt 0 0 true [] := ⟨by simp, by simp, by simp, ⟨fun x h => by simp at h, List.Pairwise.nil⟩, fun x h => by simp at h, fun x h => by simp at h, List.Pairwise.nil, rfl⟩
theorem allRight_snoc (cs : List Cell) (xs : List Call) (x : Call) : allRight cs (xs ++ [x]) = (allRight cs xs && decide (would (xs.foldl (fun cs x => after cs x.op) cs) x.op = x.res)) := by
  induction xs generalizing cs with
  | nil => show (decide (would cs x.op = x.res) && true) = (true && decide (would cs x.op = x.res)); rw [Bool.and_true, Bool.true_and]
  | cons y xs ih =>
    show (decide (would cs y.op = y.res) && allRight (after cs y.op) (xs ++ [x])) = ((decide (would cs y.op = y.res) && allRight (after cs y.op) xs) && _)
    rw [ih, Bool.and_assoc]
    rfl
theorem OneSt.more {k : Nat} {row : Int} {good : Bool} {xs : List Call} (h : OneSt k row good xs) : OneSt (k + 1) row good xs :=
  ⟨h.len, by have := h.lek; omega, h.row0, h.line, h.last, fun x hx => by have := h.num x hx; refine ⟨this.1, by omega, this.2.2⟩, h.rise, h.good⟩
theorem OneSt.snoc {k : Nat} {row : Int} {good : Bool} {xs : List Call} (h : OneSt k row good xs) {x : Call} (h8 : xs.length < 8) (hb : row < x.beg) (hf : x.beg < x.fin) (hr : x.fin ≤ row + 12) (hn : x.number = (k : Int) + 1) (hc : 0 ≤ x.client ∧ x.client < 16) (ho : checkOp x.op = 0) : OneSt (k + 1) x.fin (good && decide (would (cellsOf xs) x.op = x.res)) (xs ++ [x]) := by
  obtain ⟨h1, h2, h3, h4, h5, h6, h7, h9⟩ := h
  refine ⟨by simp; omega, by simp; omega, by simp; omega, ⟨fun y hy => ?_, ?_⟩, fun y hy => ?_, fun y hy => ?_, ?_, ?_⟩
  · rcases List.mem_append.1 hy with hy | hy
    · exact h4.1 y hy
    · simp only [List.mem_singleton] at hy; subst hy; omega
  · rw [List.pairwise_append]
    refine ⟨h4.2, by simp, fun a ha b hb' => ?_⟩
    simp only [List.mem_singleton] at hb'
    subst hb'
    have := h5 a ha
    omega
  · rcases List.mem_append.1 hy with hy | hy
    · have := h5 y hy; omega
    · simp only [List.mem_singleton] at hy; subst hy; omega
  · rcases List.mem_append.1 hy with hy | hy
    · have := h6 y hy; refine ⟨this.1, by omega, this.2.2⟩
    · simp only [List.mem_singleton] at hy; subst hy; exact ⟨by omega, by omega, hc.1, hc.2, ho⟩
  · rw [List.pairwise_append]
    refine ⟨h7, by simp, fun a ha b hb' => ?_⟩
    simp only [List.mem_singleton] at hb'
    subst hb'
    have := h6 a ha
    omega
  · rw [allRight_snoc, h9]; rfl
theorem OneSt.goodL {k : Nat} {row : Int} {good : Bool} {xs : List Call} (h : OneSt k row good xs) : GoodL xs := by
  refine GoodL.of_pair (fun x hx => ?_) (h.rise.imp ?_)
  · obtain ⟨a1, a2, a3, a4, a5⟩ := h.num x hx
    obtain ⟨b1, b2⟩ := h.line.1 x hx
    have b3 : ¬ x.fin = -1 := by omega
    simp [goodC, mayC, a1, a3, a4, a5, b1, b2, b3]
  · intro a b hab
    have : ¬ a.number = b.number := by omega
    simp [sameKey, this]
theorem OneSt.goodO {k : Nat} {row : Int} {good : Bool} {xs : List Call} (h : OneSt k row good xs) : GoodL (xs.map openC) := by
  refine GoodL.of_pair (fun x hx => ?_) (List.pairwise_map.2 (h.rise.imp ?_))
  · obtain ⟨y, hy, rfl⟩ := List.mem_map.1 hx
    obtain ⟨a1, a2, a3, a4, a5⟩ := h.num y hy
    obtain ⟨b1, b2⟩ := h.line.1 y hy
    simp [goodC, mayC, openC, a1, a3, a4, a5, b1]
  · intro a b hab
    have : ¬ a.number = b.number := by omega
    simp [sameKey, openC, this]
theorem OneSt.rising {k : Nat} {row : Int} {good : Bool} {xs : List Call} (h : OneSt k row good xs) : Rising (cellsOf xs) := by
  have : ∀ (xs : List Call) (cs : List Cell), Rising cs → Rising (xs.foldl (fun cs x => after cs x.op) cs) := by
    intro xs
    induction xs with
    | nil => intro cs h; exact h
    | cons x xs ih => intro cs h; exact ih _ (after_rising h x.op)
  exact this xs [] Rising.nil

theorem Rd.block {α : Type} {enc : α → List Value} {k : Nat} {w w' : World} {B : Nat} {A : Option Addr} {xs : List α} (h : Rd enc k w B A xs) (hb : ∀ ad, A = some ad → w'.heap[ad.block]? = w.heap[ad.block]?) : Rd enc k w' B A xs := fun i x hx => by
  obtain ⟨ad, e, hB, ha⟩ := h i x hx
  exact ⟨ad, e, hB, ha.keep (fun q hq => World.cell?_of_block (by rw [hq, block_add]; exact hb ad e))⟩
/-- The memory of the law's loop: two rows of its own, the cells, and a call under way (block b). -/
structure OneX (w W : World) (b : Nat) (v3 v4 : Value) (A5 : Option Addr) (cs : List Cell) (xs zs : List Call) : Prop where
  m3 : Made Call.cells 10 45 w.heap.size W v3 xs
  m4 : Made Call.cells 10 45 w.heap.size W v4 zs
  ne : ∀ c, v3.ownBlock = some c → v4.ownBlock ≠ some c
  rc : Rd Cell.cells 2 W W.heap.size A5 cs
  n5 : ∀ ad, A5 = some ad → v3.ownBlock ≠ some ad.block ∧ v4.ownBlock ≠ some ad.block ∧ ad.block ≠ b ∧ ad.block < W.heap.size
  bel : Below w.heap.size w W
  fr : v3.ownBlock ≠ some b ∧ v4.ownBlock ≠ some b ∧ w.heap.size ≤ b
theorem OneX.step {w W W' : World} {b : Nat} {v3 v4 : Value} {A5 : Option Addr} {cs : List Cell} {xs zs : List Call} (h : OneX w W b v3 v4 A5 cs xs zs) (hb : Below W.heap.size W W') : OneX w W' b v3 v4 A5 cs xs zs :=
  ⟨h.m3.below hb (fun c e => (h.m3.lt c e).2), h.m4.below hb (fun c e => (h.m4.lt c e).2), h.ne, (h.rc.below hb).more hb.size, fun ad e => by obtain ⟨q1, q2, q3, q4⟩ := h.n5 ad e; exact ⟨q1, q2, q3, Nat.lt_of_lt_of_le q4 hb.size⟩, h.bel.trans (hb.mono h.bel.size), h.fr⟩
/-- A new call under way: its block is new. -/
theorem OneX.fresh {w W W' : World} {b b' : Nat} {v3 v4 : Value} {A5 : Option Addr} {cs : List Cell} {xs zs : List Call} (h : OneX w W b v3 v4 A5 cs xs zs) (hb : Below W.heap.size W W') (hw : W.heap.size ≤ b') : OneX w W' b' v3 v4 A5 cs xs zs := by
  have h' := h.step hb
  refine ⟨h'.m3, h'.m4, h'.ne, h'.rc, fun ad e => ?_, h'.bel, fun e => ?_, fun e => ?_, Nat.le_trans h.bel.size hw⟩
  · obtain ⟨q1, q2, q3, q4⟩ := h.n5 ad e
    exact ⟨q1, q2, by omega, Nat.lt_of_lt_of_le q4 hb.size⟩
  · have := (h.m3.lt _ e).2; omega
  · have := (h.m4.lt _ e).2; omega
theorem OneX.set {w W : World} {b : Nat} {v3 v4 : Value} {A5 : Option Addr} {cs : List Cell} {xs zs : List Call} (h : OneX w W b v3 v4 A5 cs xs zs) (j : Nat) (u : Value) : OneX w (W.setCell ⟨b, j, none⟩ u) b v3 v4 A5 cs xs zs := by
  have hs : (W.setCell ⟨b, j, none⟩ u).heap.size = W.heap.size := by simp [World.setCell]
  refine ⟨h.m3.same fun c e => Below.heap_setCell _ _ _ _ (fun q => h.fr.1 (by rw [e]; exact congrArg some q)), h.m4.same fun c e => Below.heap_setCell _ _ _ _ (fun q => h.fr.2.1 (by rw [e]; exact congrArg some q)), h.ne, ?_, fun ad e => ?_, h.bel.setCell (p := ⟨b, j, none⟩) h.fr.2.2 _, h.fr⟩
  · rw [hs]
    exact h.rc.block fun ad e => Below.heap_setCell _ _ _ _ (h.n5 ad e).2.2.1
  · rw [hs]; exact h.n5 ad e
/-- The cells behind another operation. -/
theorem OneX.cells {w W W' : World} {b : Nat} {v3 v4 : Value} {A5 A7 : Option Addr} {cs cs' : List Cell} {xs zs : List Call} (h : OneX w W b v3 v4 A5 cs xs zs) (hb : Below W.heap.size W W') (hbW : b < W.heap.size) (hr : Rd Cell.cells 2 W' W'.heap.size A7 cs') (hA : A7 = A5 ∨ ∀ ad, A7 = some ad → W.heap.size ≤ ad.block ∧ ad.block < W'.heap.size) : OneX w W' b v3 v4 A7 cs' xs zs := by
  have h' := h.step hb
  refine ⟨h'.m3, h'.m4, h'.ne, hr, fun ad e => ?_, h'.bel, h'.fr⟩
  rcases hA with rfl | hA
  · exact h'.n5 ad e
  · obtain ⟨q1, q2⟩ := hA ad e
    exact ⟨fun e => by have := (h.m3.lt _ e).2; omega, fun e => by have := (h.m4.lt _ e).2; omega, by omega, q2⟩
theorem OneX.push3 {w W W' : World} {b : Nat} {v3 v4 v3' : Value} {A5 : Option Addr} {cs : List Cell} {xs zs xs' : List Call} (h : OneX w W b v3 v4 A5 cs xs zs) (hbW : b < W.heap.size) (hm : Made Call.cells 10 45 w.heap.size W' v3' xs') (hg : W.grownBy W' v3.ownBlock) (hat : v3'.ownBlock = v3.ownBlock ∨ v3'.ownBlock = some W.heap.size) : OneX w W' b v3' v4 A5 cs xs' zs ∧ W'.heap[b]? = W.heap[b]? := by
  have hsz : W.heap.size ≤ W'.heap.size := (Kept.of_grown hg).size
  refine ⟨⟨hm, h.m4.same fun c e => hg.block c (h.m4.lt c e).2 (fun q => h.ne c q.symm e), fun c e q => ?_, ?_, fun ad e => ?_, Below.grown h.bel hg h.bel.size (fun q e => (h.m3.lt q e).1), fun e => ?_, h.fr.2⟩, hg.block b hbW (fun q => h.fr.1 q.symm)⟩
  · rcases hat with a | a
    · exact h.ne c (a.symm.trans e) q
    · rw [a] at e
      injection e with e
      have := (h.m4.lt c q).2
      omega
  · exact (h.rc.block fun ad e => hg.block _ (h.n5 ad e).2.2.2 (fun q => (h.n5 ad e).1 q.symm)).more hsz
  · obtain ⟨q1, q2, q3, q4⟩ := h.n5 ad e
    refine ⟨fun e => ?_, q2, q3, Nat.lt_of_lt_of_le q4 hsz⟩
    rcases hat with a | a
    · exact q1 (a.symm.trans e)
    · rw [a] at e; injection e with e; omega
  · rcases hat with a | a
    · exact h.fr.1 (a.symm.trans e)
    · rw [a] at e; injection e with e; omega
theorem OneX.push4 {w W W' : World} {b : Nat} {v3 v4 v4' : Value} {A5 : Option Addr} {cs : List Cell} {xs zs zs' : List Call} (h : OneX w W b v3 v4 A5 cs xs zs) (hbW : b < W.heap.size) (hm : Made Call.cells 10 45 w.heap.size W' v4' zs') (hg : W.grownBy W' v4.ownBlock) (hat : v4'.ownBlock = v4.ownBlock ∨ v4'.ownBlock = some W.heap.size) : OneX w W' b v3 v4' A5 cs xs zs' := by
  have hsz : W.heap.size ≤ W'.heap.size := (Kept.of_grown hg).size
  refine ⟨h.m3.same fun c e => hg.block c (h.m3.lt c e).2 (fun q => h.ne c e q.symm), hm, fun c e q => ?_, ?_, fun ad e => ?_, Below.grown h.bel hg h.bel.size (fun q e => (h.m4.lt q e).1), h.fr.1, fun e => ?_, h.fr.2.2⟩
  · rcases hat with a | a
    · exact h.ne c e (a.symm.trans q)
    · rw [a] at q
      injection q with q
      have := (h.m3.lt c e).2
      omega
  · exact (h.rc.block fun ad e => hg.block _ (h.n5 ad e).2.2.2 (fun q => (h.n5 ad e).2.1 q.symm)).more hsz
  · obtain ⟨q1, q2, q3, q4⟩ := h.n5 ad e
    refine ⟨q1, fun e => ?_, q3, Nat.lt_of_lt_of_le q4 hsz⟩
    rcases hat with a | a
    · exact q2 (a.symm.trans e)
    · rw [a] at e; injection e with e; omega
  · rcases hat with a | a
    · exact h.fr.2.1 (a.symm.trans e)
    · rw [a] at e; injection e with e; omega
theorem OneX.nil (w : World) : OneX w w w.heap.size (.slice none 0 0) (.slice none 0 0) none [] [] [] :=
  ⟨Made.nil _ _ _, Made.nil _ _ _, (fun c e => by simp [Value.ownBlock] at e), Rd.nil, (fun ad e => by cases e), Below.refl _ _, (by simp [Value.ownBlock]), (by simp [Value.ownBlock]), Nat.le_refl _⟩
theorem row_set {w : World} {b : Nat} {cs : Array Value} {t : TypeId} (h : w.heap[b]? = some (.cells cs t (0, 0))) (j : Nat) (v : Value) : (w.setCell ⟨b, j, none⟩ v).heap[b]? = some (.cells (cs.setIfInBounds j v) t (0, 0)) := by
  have hlt := (Array.getElem?_eq_some_iff.1 h).1
  have h' : w.heap[b] = .cells cs t (0, 0) := (Array.getElem?_eq_some_iff.1 h).2
  show (w.heap.modify b _)[b]? = _
  rw [Array.getElem?_eq_getElem (by simpa using hlt), Array.getElem_modify_self, h']
  rfl
end Go.Proofs.Ytmfidhlhcochoaa
