/- ledger.Each and oplog.Each: what they hand back, and that it is an iterator over the list as it was. Conditions: sizes within Go's own limits. -/
import Derived.Test.YtbdcpoagdbkgeaaEachIn
namespace Go.Proofs.Ytbdcpoagdbkgeaa
open Go.RowKit Go.Shelf
set_option linter.unusedVariables false
set_option linter.unusedSimpArgs false
attribute [local go_sem] Oper.semAt_some


/-- What oplog.Each hands back: a function that captured two boxes: where to begin, and a slice of new memory. -/
def EachE (w : World) (base : Nat) (f : Int) (xs : List Entry) (v : Value) : Prop :=
  ∃ Bf Bs A c, v = .func (.func 9) #[] #[.pointer (some ⟨Bf, 0, none⟩), .pointer (some ⟨Bs, 0, none⟩)] ∧ base ≤ Bf ∧ Bf < Bs ∧ Bs < w.heap.size ∧ w.cell? ⟨Bf, 0, none⟩ = some (.int .i64 f) ∧ w.cell? ⟨Bs, 0, none⟩ = some (.slice A xs.length c) ∧ Rd Entry.cells 5 w Bs A xs ∧ (∀ a, A = some a → base ≤ a.block)

set_option maxRecDepth 100000 in
theorem oplogEach (A : Option Addr) (c n : Nat) (f : Int) (xs : List Entry) (hn : n = xs.length) (w : World) (hb : xs.length * 48 ≤ 140737488355328) (ha : Rd Entry.cells 5 w w.heap.size A xs) :
    Calls Try.prog 5 #[.slice A n c, .int .i64 f] w fun e w' => ∃ v, e = .returned v ∧ EachE w' w.heap.size f xs v ∧ Below w.heap.size w w' := by
  subst hn
  go_enter Try.func5, Try.ntmps5
  go_wp2_with fail
  have hb0 : Below w.heap.size w (w.alloc (.cells #[.int .i64 f] 3)) := (Below.refl _ _).alloc (Nat.le_refl _) _
  refine (joined A none c 0 _ 0 xs [] rfl rfl _ (by simp; omega) ((ha.below hb0).more hb0.size) Rd.nil).mono ?_
  rintro e w1 ⟨v1, rfl, hm1, hb1⟩
  dsimp only
  rw [List.append_nil] at hm1
  obtain ⟨A1, c1, rfl, hc1⟩ := hm1.form
  go_wp2_with fail
  go_ret
  have hbw := hb0.trans (hb1.mono hb0.size)
  have hs1 : w.heap.size < w1.heap.size := Nat.lt_of_lt_of_le (by simp) hb1.size
  have hr1 : Rd Entry.cells 5 w1 w1.heap.size A1 xs := hm1.rd' encEntry.len
  have hf1 : w1.cell? ⟨w.heap.size, 0, none⟩ = some (.int .i64 f) := cell_of_row _ _ 0 _ _ _ ((hb1.block _ (by simp)).trans (heap_alloc_new w _))
  refine ⟨_, rfl, ⟨w.heap.size, w1.heap.size, A1, c1, rfl, Nat.le_refl _, hs1, by simp, (World.cell?_alloc_lt _ _ _ hs1).trans hf1, cell_of_row _ _ 0 _ _ _ (heap_alloc_new w1 _), hr1.keep fun q hq => World.cell?_alloc_lt _ _ _ hq, fun a ha => ?_⟩, hbw.alloc hbw.size _⟩
  subst ha
  have := (hm1.lt a.block rfl).1
  simp at this
  omega

theorem EachE.stops {w : World} {base : Nat} {f : Int} {xs : List Entry} {v : Value} (h : EachE w base f xs v) (hf : I64 f) (hreach : xs.length ≤ 9223372036854775806) :
    ∃ Bf Bs, v = .func (.func 9) #[] #[.pointer (some ⟨Bf, 0, none⟩), .pointer (some ⟨Bs, 0, none⟩)] ∧ base ≤ Bs ∧ Bs < w.heap.size ∧ ∀ (n : Nat) (w' : World), Below (Bs + 1) w w' →
      SeqStopsK Fence.wide n Try.prog 9 #[.pointer (some ⟨Bf, 0, none⟩), .pointer (some ⟨Bs, 0, none⟩)] (encE xs) (Mid base (Bs + 1)) (fun ys => ys = places xs.length (max f 1 - 1).toNat) (fun pre => pre <+: places xs.length (max f 1 - 1).toNat) xs.length w' := by
  obtain ⟨Bf, Bs, A, c, rfl, h1, h2, h3, h4, h5, h6, h7⟩ := h
  refine ⟨Bf, Bs, rfl, by omega, h3, fun n w' hb l J Jx W hW hJ hJx hY h0 => ?_⟩
  have hsz : Bs + 1 ≤ w'.heap.size := Nat.le_trans h3 hb.size
  have hb' : Below (Bs + 1) w W := hb.trans (hW.mono hsz)
  exact eachE_in n l Bf Bs base (Bs + 1) _ f rfl hf A xs.length c xs rfl hreach J Jx W hY ((hb'.cell (p := ⟨Bf, 0, none⟩) (by simp; omega)).trans h4) ((hb'.cell (p := ⟨Bs, 0, none⟩) (by simp)).trans h5) (by omega) (by omega) ((h6.more (by omega)).below hb') h7 h0
end Go.Proofs.Ytbdcpoagdbkgeaa
