/- ledger.Cells: the cells that are taken, rising, in new memory. Conditions: none beyond the object's own shape. -/
import Derived.Test.YtmfidhlhcochoaaLedger
import Derived.Test.YtmfidhlhcochoaaMapRange
import Derived.Test.YtmfidhlhcochoaaSortNone
import Derived.Test.YtmfidhlhcochoaaOpen3
import Derived.Deep.LoopGhost
namespace Go.Proofs.Ytmfidhlhcochoaa
open Go.RowKit
set_option linter.unusedVariables false
set_option linter.unusedSimpArgs false

section
variable {α : Type} {ev : α → Value} {w w' : World} {mb r : Nat} {ps left : List (Int × α)} {P : Program} {T K E : TypeId}
theorem wpList_rangeM {ops : Array Oper} {rest : List Oper} {o : Oper} {a : Act} {Q : Exit → Act → World → Prop} (h : MapIs ev w mb ps) (hg : o.guard = none) (m : Operand) (hop : o.op = Op.range T m)
    (hT : P.underlying T = some (.map K E)) (hm : a.eval m = .map (some mb))
    (hK' : ∀ w', RangeIs ev w' mb w.heap.size ps ps → Below w.heap.size w w' → w'.heap.size = w.heap.size + 1 → wpList P ops Q rest (a.put o.dst (.pointer (some ⟨w.heap.size, 0, none⟩))) w') : wpList P ops Q (o :: rest) a w := by
  refine wpList_plain hg fun K1 hK1 => ?_
  obtain ⟨hrun, hr⟩ := h.range (P := P) (T := T) hT
  unfold Oper.wp
  simp only [execOp, hop, hm, Sem.run_bind, Sem.run_pure, hrun, Result.andThen_ok]
  exact hK1 _ _ (hK' _ hr ((Below.refl _ w).alloc (Nat.le_refl _) _) (by simp))
theorem wpList_nextM {ops : Array Oper} {rest : List Oper} {o : Oper} {a : Act} {Q : Exit → Act → World → Prop} (h : RangeIs ev w mb r ps left) (hg : o.guard = none) (it : Operand) (hop : o.op = Op.next it false)
    (hit : a.eval it = .pointer (some ⟨r, 0, none⟩)) (hDone : left = [] → wpList P ops Q rest (a.put o.dst (.tuple #[.bool false])) w)
    (hMore : ∀ k u left' w', left.Perm ((k, u) :: left') → RangeIs ev w' mb r ps left' → w.grownBy w' (some r) → w'.heap.size = w.heap.size → (Instr.entry (.pointer (some ⟨r, 0, none⟩))).run P w' = .ok (.tuple #[.int .i64 k, ev u]) w' →
      wpList P ops Q rest (a.put o.dst (.tuple #[.bool true, .int .i64 k, ev u])) w') : wpList P ops Q (o :: rest) a w := by
  refine wpList_plain hg fun K1 hK1 => ?_
  unfold Oper.wp
  rcases h.next (P := P) o.type with ⟨hl, hrun⟩ | ⟨k, u, left', w', hp, hrun, hr, hgr, hs, hent⟩
  · simp only [execOp, hop, hit, Sem.run_bind, Sem.run_pure, hrun, Result.andThen_ok]
    exact hK1 _ _ (hDone hl)
  · simp only [execOp, hop, hit, Sem.run_bind, Sem.run_pure, hrun, Result.andThen_ok]
    exact hK1 _ _ (hMore k u left' w' hp hr hgr hs hent)
end
theorem at_range {P : Program} {ops : Array Oper} {Q : Exit → Act → World → Prop} {dst : Option Tmp} {t : TypeId} {m : Operand} {ty : TypeId} {pos : String} {after : Array Edge} {rest : List Oper} {a : Act} {w : World}
    (h : wpList P ops Q ({ dst := dst, op := .range t m, type := ty, pos := pos, after := after, guard := none } :: rest) a w) : wpList P ops Q ({ dst := dst, op := .range t m, type := ty, pos := pos, after := after, guard := none } :: rest) a w := h
theorem at_next {P : Program} {ops : Array Oper} {Q : Exit → Act → World → Prop} {dst : Option Tmp} {b : Bool} {m : Operand} {ty : TypeId} {pos : String} {after : Array Edge} {rest : List Oper} {a : Act} {w : World}
    (h : wpList P ops Q ({ dst := dst, op := .next m b, type := ty, pos := pos, after := after, guard := none } :: rest) a w) : wpList P ops Q ({ dst := dst, op := .next m b, type := ty, pos := pos, after := after, guard := none } :: rest) a w := h

def toCells (ps : List (Int × ByteArray)) : List Cell := ps.map fun p => ⟨p.1, p.2⟩
/-- A rising list is the one order of its cells that rises. -/
theorem sorted_cells {ys cs : List Cell} (hr : Rising cs) (hp : ys.Perm cs) (hs : ys.Pairwise (fun a b => a.slot ≤ b.slot)) : ys = cs := by
  refine hp.eq_of_pairwise (le := fun a b => a.slot ≤ b.slot) (fun a b ha hb h1 h2 => ?_) hs (hr.sorted.imp (fun h => by omega))
  have ha' := hp.mem_iff.1 ha
  have he : a.slot = b.slot := by omega
  have e1 := getC_of_mem hr (k := a.slot) (v := a.value) ha'
  have e2 := getC_of_mem hr (k := b.slot) (v := b.value) hb
  rw [he, e2] at e1
  cases a; cases b
  simp at he e1
  rw [he, e1]

set_option maxRecDepth 100000 in
set_option maxHeartbeats 4000000 in
theorem cellsLedger (b mb : Nat) (cs : List Cell) (w : World) (h : Ledger w b mb cs) :
    Calls Try.prog 75 #[.pointer (some ⟨b, 0, none⟩)] w fun e w' => ∃ v, e = .returned v ∧ Made Cell.cells 2 107 w.heap.size w' v cs ∧ Below w.heap.size w w' := by
  obtain ⟨hbl, hml⟩ := h.lt
  obtain ⟨ps, hb, hm, hp, hr⟩ := h
  have c0 : w.cell? ⟨b, 0, none⟩ = some (.map (some mb)) := cell_of_row w b 0 _ _ _ hb
  have HP := Lib.hid (show (toCells ps).Perm cs from hp)
  clear hb hp
  go_enter Try.func75, Try.ntmps75
  go_wp2_with (with_reducible refine at_range ?_; go_loud (refine wpList_rangeM hm rfl (.tmp 11) rfl undMap rfl ?_); intro w1 hr1 hb1 hs1)
  go_simp
  have hpl : ps.length ≤ 1024 := by have h1 := HP.out.length_eq; have h2 := rising_length hr; simp [toCells] at h1; omega
  have HM0 := Lib.hid hml
  clear hm c0
  go_loopg [3, 4, 5] ps.length (fun g o s v wr => ∃ (done left : List (Int × ByteArray)) (A1 : Option Addr) (c1 : Nat), g = left.length ∧ o = .slice A1 done.length c1 ∧ Hid (Made Cell.cells 2 107 w.heap.size wr (.slice A1 done.length c1) (toCells done)) ∧ RangeIs evS wr mb w.heap.size ps left ∧ Hid ((done ++ left).Perm ps) ∧ Below w.heap.size w wr)
  case atStart => exact ⟨[], ps, none, 0, rfl, rfl, Made.nil _ _ _, hr1, List.Perm.refl _, hb1⟩
  case round =>
    clear hr1 hb1 hs1
    obtain ⟨done, left, A1, c1, hgk, rfl, hmd, hR, hpm, hbr⟩ := hrel
    have hdl : done.length ≤ 1024 := by have := hpm.out.length_eq; simp at this; omega
    cases left with
    | nil =>
      have hpd : Hid (done.Perm ps) := by have := hpm.out; rwa [List.append_nil] at this
      go_wp2_with (with_reducible refine at_next ?_; refine wpList_nextM hR rfl (.tmp 12) rfl rfl (fun _ => ?_) (fun k u l' w' hp => absurd hp.length_eq (by simp)))
      have hpc : Hid ((toCells done).Perm cs) := (hpd.out.map _).trans HP.out
      by_cases h0 : done.length = 0
      · have hd0 : done = [] := List.eq_nil_of_length_eq_zero h0
        subst hd0
        have hcs : cs = [] := by have := hpc.out.length_eq; simp [toCells] at this; exact List.eq_nil_of_length_eq_zero this.symm
        subst hcs
        refine (sortNone A1 c1 _ wr).mono ?_
        rintro e w0 ⟨rfl, hw0⟩
        rw [hw0]
        clear hw0 w0
        have HMD := Lib.hid hmd.out
        clear hR hpm hpd hpc
        dsimp only
        go_wp2_with fail
        go_ret
        exact ⟨_, rfl, HMD.out, hbr⟩
      · have hgd : ∀ x ∈ toCells done, Good x := fun x hx => hr.good x (hpc.out.mem_iff.1 hx)
        have hlen : (toCells done).length = done.length := by simp [toCells]
        obtain ⟨g, hA1⟩ : ∃ g, A1 = some ⟨g, 0, none⟩ := by
          rcases hmd.out.2 with ⟨e, hn⟩ | ⟨g, _, _, e, _⟩
          · rw [hlen] at hn; exact absurd hn h0
          · injection e with e1 e2 e3
            exact ⟨g, e1⟩
        subst hA1
        have hmd' := hmd.out
        rw [← hlen] at hmd' ⊢
        refine (sortCells g c1 (toCells done) w.heap.size wr hgd (by omega) hmd').mono ?_
        rintro e w6 ⟨rfl, ys, hys, hsd, hm6, hk6⟩
        have hyc : ys = cs := sorted_cells hr (hys.trans hpc.out) hsd
        subst hyc
        have hbg := (hmd.out.lt g rfl).1
        have hb6 : Below w.heap.size w w6 := hbr.trans (hk6.below hbr.size (fun q e => by omega))
        have HM6 := Lib.hid hm6
        clear hm6 hk6 hR hpm hpd hpc hmd'
        dsimp only
        go_wp2_with fail
        go_ret
        exact ⟨_, rfl, HM6.out, hb6⟩
    | cons p0 left0 =>
      have hne : p0 :: left0 ≠ [] := by simp
      have hr2 := hR.lt
      have hq : ∀ q, (Value.slice A1 done.length c1).ownBlock = some q → q ≠ w.heap.size := fun q hq e => by
        obtain ⟨cs', hcs⟩ := hmd.out.cell_block hq
        obtain ⟨es, cl, si, se, c0', _, _, _, _, _, hrr, _⟩ := hR
        subst e
        rw [hcs] at hrr; cases hrr
      have HQ := Lib.hid hq
      have hszr := hbr.size
      clear hq
      go_wp2_with (first
        | (with_reducible refine at_next ?_; refine wpList_nextM hR rfl (.tmp 12) rfl rfl (fun h => absurd h hne) (fun k u left' w2 hp2 hR2 hg2 hs2 hent => ?_)
           have hmd2 : Made Cell.cells 2 107 w.heap.size w2 (.slice A1 done.length c1) (toCells done) := hmd.out.same fun q hq => hg2.block q (hmd.out.lt q hq).2 (fun e => HQ.out q hq (by cases e; rfl))
           have hmd4 := Lib.hid ((hmd2.alloc (.cells #[.string u] 183)).alloc (.cells #[.int .i64 k, .string u] 107))
           have hrd4 : Hid (Rd Cell.cells 2 ((w2.alloc (.cells #[.string u] 183)).alloc (.cells #[.int .i64 k, .string u] 107)) (wr.heap.size + 1 + 1) (some ⟨wr.heap.size + 1, 0, none⟩) [⟨k, u⟩]) := by
             have h := rd_one encCell (w2.alloc (.cells #[.string u] 183)) ⟨k, u⟩ #[.int .i64 k, .string u] rfl 107
             rw [show (w2.alloc (.cells #[.string u] 183)).heap.size = wr.heap.size + 1 by simp [hs2]] at h
             exact h
           have HR2 := Lib.hid hR2
           have HP2 := Lib.hid hp2
           have HG2 := Lib.hid hg2
           clear hR2 hp2 hg2 hmd2
           simp only [evS] at hent ⊢)
        | (at_builtin; go_loud (refine wpList_app (v := .slice A1 done.length c1) (xs := toCells done) (ys := [⟨k, u⟩]) rowCell encCell rfl (.tmp 18) (.tmp 23) rfl w.heap.size rfl hmd4.out rfl rfl hrd4.out (by simp [toCells]; omega) (by unfold maxLen; simp [toCells]; omega) (by simp; omega) ?_)
           intro v5 w5 hm5 hg5 hat5))
      go_roundg left'.length
      case rel =>
        have hb2 : Below w.heap.size w w2 := hbr.grown HG2.out hszr (fun q e => by cases e; exact Nat.le_refl _)
        have hsz2 : w.heap.size ≤ w2.heap.size := hb2.size
        have hb4 := (hb2.alloc hsz2 (.cells #[.string u] 183)).alloc (by simp; omega) (.cells #[.int .i64 k, .string u] 107)
        have hown : ∀ q, (Value.slice A1 done.length c1).ownBlock = some q → w.heap.size ≤ q ∧ q < w2.heap.size := fun q hq => by have := hmd.out.lt q hq; omega
        have hb5 : Below w.heap.size w w5 := hb4.grown hg5 hb4.size (fun q e => (hown q e).1)
        have hR5 : RangeIs evS w5 mb w.heap.size ps left' := by
          refine HR2.out.same ?_ ?_
          · rw [hg5.block mb (by simp; omega) (fun e => by have := (hown mb e.symm).1; omega), heap_alloc_old _ _ (by simp; omega), heap_alloc_old _ _ (by omega)]
          · rw [hg5.block w.heap.size (by simp; omega) (fun e => HQ.out _ e.symm rfl), heap_alloc_old _ _ (by simp; omega), heap_alloc_old _ _ (by omega)]
        obtain ⟨A5, c5, rfl, hc5⟩ := hm5.form
        have e5 : toCells done ++ [(⟨k, u⟩ : Cell)] = toCells (done ++ [(k, u)]) := by simp [toCells]
        have e6 : (toCells done ++ [(⟨k, u⟩ : Cell)]).length = (done ++ [(k, u)]).length := by simp [toCells]
        rw [e6, e5] at hm5
        refine ⟨done ++ [(k, u)], left', A5, c5, rfl, by rw [e6], hm5, hR5, ?_, hb5⟩
        have h1 := hpm.out
        refine List.Perm.trans ?_ h1
        rw [List.append_assoc]
        exact (List.Perm.append_left done HP2.out.symm)
      case measure => have := HP2.out.length_eq; simp at this; simp at hgk; omega
end Go.Proofs.Ytmfidhlhcochoaa
