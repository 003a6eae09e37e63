/- Append of the program and of the reference; the reference's Joined. Conditions: sizes within Go's own limits. -/
import Derived.Test.YtbdcpoagdbkgeaaCheck
import Derived.Test.YtbdcpoagdbkgeaaCheckRef
import Derived.Deep.DeepAppendWide
namespace Go.Proofs.Ytbdcpoagdbkgeaa
open Go.RowKit
set_option linter.unusedVariables false
set_option linter.unusedSimpArgs false

theorem rd_entry (w : World) (x : Entry) {B : Nat} (hB : w.heap.size < B) : Rd Entry.cells 5 (w.alloc (.cells #[.int .i64 x.client, .int .i64 x.number, .int .i64 x.op.kind, .int .i64 x.op.slot, .string x.op.value] 32)) B (some ⟨w.heap.size, 0, none⟩) [x] := fun i y hy => by
  have hi : i = 0 := by
    cases i with
    | zero => rfl
    | succ i => simp at hy
  subst hi
  simp at hy
  subst hy
  refine ⟨_, rfl, hB, fun j u hu => ?_⟩
  have h0 := heap_alloc_new w (.cells #[.int .i64 x.client, .int .i64 x.number, .int .i64 x.op.kind, .int .i64 x.op.slot, .string x.op.value] 32)
  simp only [Nat.zero_mul]
  rw [add_add', Nat.zero_add, Entry.cells] at *
  have hj : j < 5 := by have := (List.getElem?_eq_some_iff.1 hu).1; simpa using this
  match j, hj with
  | 0, _ => simp at hu; subst hu; exact cell_of_row _ _ 0 _ _ _ h0
  | 1, _ => simp at hu; subst hu; exact cell_of_row _ _ 1 _ _ _ h0
  | 2, _ => simp at hu; subst hu; exact cell_of_row _ _ 2 _ _ _ h0
  | 3, _ => simp at hu; subst hu; exact cell_of_row _ _ 3 _ _ _ h0
  | 4, _ => simp at hu; subst hu; exact cell_of_row _ _ 4 _ _ _ h0

section appW
variable {P : Program} {t e : TypeId} {k bytes : Nat} {α : Type} {enc : α → List Value}
/-- append(v, x...), its bound nearer to Go's own. -/
theorem wpList_appW {w : World} (T : RowT P t e k bytes) (E : Enc enc k) {ops : Array Oper} {rest : List Oper} {o : Oper} {a : Act} {Q : Exit → Act → World → Prop} (hgd : o.guard = none) (s x : Operand)
    (ho : o.op = .call { callee := .builtin .append, args := #[s, x], argTypes := #[t, t] })
    (base : Nat) {v : Value} {xs ys : List α} (hs : a.eval s = v) (hv : Made enc k e base w v xs) {B : Nat} {A : Option Addr} {c m : Nat} (hx : a.eval x = .slice A m c) (hm : m = ys.length) (hy : Rd enc k w B A ys)
    (hbytes : ((xs.length + ys.length) + (xs.length + ys.length) / 4 + 192) * bytes ≤ 281474976710656) (h63 : xs.length + ys.length ≤ maxLen) (hbase : base ≤ w.heap.size)
    (h : ∀ v' w', Made enc k e base w' v' (xs ++ ys) → w.grownBy w' v.ownBlock → wpList P ops Q rest (a.put o.dst v') w') : wpList P ops Q (o :: rest) a w := by
  refine wpList_plain hgd fun K hK => ?_
  have hrun : ∃ v' w', (Builtin.append_ #[t, t] o.type #[v, .slice A m c]).run P w = .ok v' w' ∧ Made enc k e base w' v' (xs ++ ys) ∧ w.grownBy w' v.ownBlock := by
    subst hm
    obtain ⟨i, z, hi, hz, hs, hb, hzs⟩ := T.info
    cases A with
    | none =>
      have := hy.none_
      subst this
      refine ⟨v, w, ?_, by simpa using hv, World.grownBy.refl w _⟩
      rcases hv.2 with ⟨rfl, h0⟩ | ⟨g, cap, cur, rfl, _, _, hc, _⟩
      · simp [Builtin.append_, run_underlying T.under, sizeOf, typeInfo, hi, Builtin.lenOf, Builtin.firstCells]
      · simp [Builtin.append_, run_underlying T.under, sizeOf, typeInfo, hi, Builtin.lenOf, Builtin.firstCells, hc, storeCells]
    | some ad =>
      obtain ⟨v', w', hrun, h2, h3, _⟩ := run_append_own_wide (P := P) w base t o.type e i z k bytes T.under hi hz hs hb hzs T.pos v xs.length (flat enc xs) hv ad ys.length c (flat enc ys) (flat_length E.len ys) (hy.flatAt E.len T.pos) (E.flat_one ys) h63 hbytes hbase
      refine ⟨v', w', hrun, ?_, h3⟩
      unfold Made
      rw [List.length_append, flat_append]
      exact h2
  obtain ⟨v', w', hrun, h2, h3⟩ := hrun
  unfold Oper.wp execOp
  simp only [ho, resolve, invoke, builtin, Sem.run_bind, Sem.run_pure, Result.andThen_ok, List.map_toArray, List.map_cons, List.map_nil, hs, hx, hrun]
  exact hK _ _ (h v' w' h2 h3)
end appW

set_option maxRecDepth 100000 in
set_option maxHeartbeats 2000000 in
theorem append_prog (A : Option Addr) (c n : Nat) (xs : List Entry) (room : Int) (x : Entry) (hn : n = xs.length) (w : World) (hb : xs.length * 48 ≤ 140737488355328) (hvx : x.op.value.size ≤ 9223372036854775807) (hv : ∀ x ∈ xs, x.op.value.size ≤ 9223372036854775807) (ha : Rd Entry.cells 5 w w.heap.size A xs) :
    Calls Try.prog 10 #[.slice A n c, .int .i64 room, .agg #[.int .i64 x.client, .int .i64 x.number, .int .i64 x.op.kind, .int .i64 x.op.slot, .string x.op.value]] w fun e w' => ∃ v, e = .returned (.tuple #[v, .int .i64 (appE xs room x)]) ∧ Made Entry.cells 5 32 w.heap.size w' v (if appE xs room x = 0 then xs ++ [x] else []) ∧ Below w.heap.size w w' := by
  subst hn
  obtain ⟨r, hr⟩ : ∃ r, r = appE xs room x := ⟨_, rfl⟩
  have HR := Lib.hid hr
  rw [← hr]
  clear hr
  obtain ⟨W0, hW0⟩ : ∃ W0, W0 = w.alloc (.cells #[.int .i64 x.client, .int .i64 x.number, .int .i64 x.op.kind, .int .i64 x.op.slot, .string x.op.value] 32) := ⟨_, rfl⟩
  have hb0 : Below w.heap.size w W0 := by rw [hW0]; exact (Below.refl _ _).alloc (Nat.le_refl _) _
  have k0 : W0.heap[w.heap.size]? = some (.cells #[.int .i64 x.client, .int .i64 x.number, .int .i64 x.op.kind, .int .i64 x.op.slot, .string x.op.value] 32 (0, 0)) := by rw [hW0]; exact heap_alloc_new _ _
  have hlt : w.heap.size < W0.heap.size := by rw [hW0]; simp
  go_enter Try.func10, Try.ntmps10
  go_wp2_with fail
  rw [← hW0]
  refine (check_prog_log A c xs.length xs room rfl W0 (by omega) hv ((ha.below hb0).more hb0.size)).mono ?_
  rintro e w1 ⟨rfl, hb1⟩
  have hz := Lib.hid (@chkE_zero xs room)
  have k1 := (hb1.block _ hlt).trans k0
  have hbw := hb0.trans (hb1.mono hb0.size)
  have hlt1 : w.heap.size < w1.heap.size := Nat.lt_of_lt_of_le hlt hb1.size
  clear hb1 hb0 k0 hlt hW0
  unfold appE at HR
  generalize (chkE xs room).1 = q at *
  generalize (chkE xs room).2 = q2 at *
  by_cases h1 : q = 0
  · subst h1
    have hlen : xs.length ≤ 256 := by obtain ⟨_, h2, h3, _⟩ := hz.out.1 rfl; omega
    have hgood := Lib.hid (hz.out.1 rfl).2.2.2
    rw [if_neg (by simp)] at HR
    clear hz
    by_cases h2 : (xs.length : Int) = room
    · have e : r = 60 := by rw [HR.out, if_pos h2]
      subst e
      have h2' : ((xs.length : Int) == room) = true := by simpa using h2
      clear HR
      go_wp2_with fail
      go_ret2
      exact ⟨_, rfl, by first | exact Made.nil _ _ _ | (rw [if_neg (by assumption)]; exact Made.nil _ _ _), hbw⟩
    · rw [if_neg h2] at HR
      have h2' : ((xs.length : Int) == room) = false := by simpa using h2
      have hmm := @run_makeMap Try.prog
      obtain ⟨W2, hW2⟩ : ∃ W2, W2 = w1.alloc (.map #[] 0) := ⟨_, rfl⟩
      have hb2 : Below w1.heap.size w1 W2 := by rw [hW2]; exact (Below.refl _ _).alloc (Nat.le_refl _) _
      have hs2 : W2.heap.size = w1.heap.size + 1 := by rw [hW2]; simp
      have hm2 : MapIs evI W2 w1.heap.size [] := by rw [hW2]; exact MapIs.new w1
      have HA := Lib.hid ha
      have HK1 := Lib.hid k1
      clear ha k1
      go_wp2_with fail
      rw [← hW2]
      clear hW2 hmm
      go_loopw [30] (fun i wr => ∃ k : Nat, k ≤ xs.length ∧ i = .int .i64 k ∧ (∃ ps, MapIs evI wr w1.heap.size ps ∧ tells (xs.take k) ps) ∧ Below w1.heap.size W2 wr) (fun i _ => xs.length - (intOf i).toNat)
      case atStart => exact ⟨0, by omega, rfl, ⟨[], hm2, fun c => rfl⟩, Below.refl _ _⟩
      case round =>
        obtain ⟨k, hk, rfl, ⟨ps, hm, ht⟩, hbr⟩ := hrel
        have HT := Lib.hid ht
        have hbwr : Below w.heap.size w wr := hbw.trans ((hb2.trans hbr).mono hbw.size)
        have hzr : w1.heap.size < wr.heap.size := hm.lt
        clear ht
        by_cases hk1 : k < xs.length
        · obtain ⟨ad, rfl, _, hca⟩ := (HA.out.below hbwr).at_ hk1
          have g1 : (k:Int) < (xs.length : Int) := by omega
          obtain ⟨c0, c1, c2, c3, c4⟩ := hca.five
          have hsn := Lib.hid (take_snoc hk1)
          clear hca
          generalize xs[k] = y at *
          go_wp2_with (at_mapUpdate; refine wpList_update (ev := evI) (hm.same (heap_alloc_old _ _ hzr)) rfl _ _ _ rfl undMapI undIntI rfl y.client rfl y.number rfl ?_; intro w5 hm5 hg5 hs5)
          go_roundw
          case rel =>
            refine ⟨k + 1, by omega, by go_num, ⟨_, hm5, by rw [hsn.out]; exact HT.out.snoc y⟩, hbr.trans (((Below.refl w1.heap.size wr).alloc (Nat.le_of_lt hzr) _).grown hg5 ?_ fun j hj => ?_)⟩
            · simp; omega
            · cases hj; omega
          case measure => simp [intOf]; omega
        · have g2 : decide ((k:Int) < (xs.length : Int)) = false := by simp; omega
          have ht : tells xs ps := by have := HT.out; rwa [List.take_of_length_le (by omega)] at this
          have hfit : Hid (fitM (look ps x.client) x = fitE xs x) := by
            show _ = _
            rw [ht, fitM_last hgood.out]
          have k2 : wr.heap[w.heap.size]? = _ := ((hb2.trans hbr).block _ hlt1).trans HK1.out
          have d0 : wr.cell? ⟨w.heap.size, 0, none⟩ = some (.int .i64 x.client) := cell_of_row _ _ 0 _ _ _ k2
          have d1 : wr.cell? ⟨w.heap.size, 1, none⟩ = some (.int .i64 x.number) := cell_of_row _ _ 1 _ _ _ k2
          have d2 : wr.cell? ⟨w.heap.size, 2, none⟩ = some (.int .i64 x.op.kind) := cell_of_row _ _ 2 _ _ _ k2
          have d3 : wr.cell? ⟨w.heap.size, 3, none⟩ = some (.int .i64 x.op.slot) := cell_of_row _ _ 3 _ _ _ k2
          have d4 : wr.cell? ⟨w.heap.size, 4, none⟩ = some (.string x.op.value) := cell_of_row _ _ 4 _ _ _ k2
          clear HT
          go_wp2_with fail
          refine (fits_prog w1.heap.size ps x hvx wr hm).mono ?_
          rintro e w6 ⟨rfl, hb6⟩
          have hlt6 : w.heap.size < wr.heap.size := by omega
          have k6 := (hb6.block _ hlt6).trans k2
          have b0 : w6.cell? ⟨w.heap.size, 0, none⟩ = some (.int .i64 x.client) := cell_of_row _ _ 0 _ _ _ k6
          have b1 : w6.cell? ⟨w.heap.size, 1, none⟩ = some (.int .i64 x.number) := cell_of_row _ _ 1 _ _ _ k6
          have b2 : w6.cell? ⟨w.heap.size, 2, none⟩ = some (.int .i64 x.op.kind) := cell_of_row _ _ 2 _ _ _ k6
          have b3 : w6.cell? ⟨w.heap.size, 3, none⟩ = some (.int .i64 x.op.slot) := cell_of_row _ _ 3 _ _ _ k6
          have b4 : w6.cell? ⟨w.heap.size, 4, none⟩ = some (.string x.op.value) := cell_of_row _ _ 4 _ _ _ k6
          have hbw6 := hbwr.trans (hb6.mono hbwr.size)
          have e : fitM (look ps x.client) x = r := hfit.out.trans HR.out.symm
          rw [e]
          clear HR e hfit d0 d1 d2 d3 d4 k2 HK1
          by_cases h3 : r = 0
          · subst h3
            have hw3 : Below w.heap.size w (w6.alloc (.cells #[.int .i64 x.client, .int .i64 x.number, .int .i64 x.op.kind, .int .i64 x.op.slot, .string x.op.value] 32)) := hbw6.alloc hbw6.size _
            have hr3 := rd_entry w6 x (B := w6.heap.size + 1) (by omega)
            go_wp2_with fail
            refine (joined A _ c _ xs.length 1 xs [x] rfl rfl _ (by simp; omega) ((HA.out.below hw3).more hw3.size) (hr3.more (by simp))).mono ?_
            rintro e w4 ⟨v, rfl, hm4, hb4⟩
            dsimp only
            go_wp2_with fail
            go_ret2
            exact ⟨_, rfl, by simpa using hm4.base' hw3.size, hw3.trans (hb4.mono hw3.size)⟩
          · have h3' : (r == 0) = false := by simpa using h3
            go_wp2_with fail
            go_ret2
            exact ⟨_, rfl, by first | exact Made.nil _ _ _ | (rw [if_neg (by assumption)]; exact Made.nil _ _ _), hbw6⟩
  · rw [if_pos h1] at HR
    have e : r = q := HR.out
    subst e
    have h1' : (r == 0) = false := by simpa using h1
    clear HR hz
    go_wp2_with fail
    go_ret2
    exact ⟨_, rfl, by first | exact Made.nil _ _ _ | (rw [if_neg (by assumption)]; exact Made.nil _ _ _), hbw⟩
end Go.Proofs.Ytbdcpoagdbkgeaa
