/- LedgerEach answers true. Conditions: sizes within the form's own reach. -/
import Derived.Test.YtdkdddkhfonjmaaResCell
import Derived.Test.YtdkdddkhfonjmaaSame04
import Derived.Test.YtdkdddkhfonjmaaWorks04
import Derived.Test.YtdkdddkhfonjmaaOuts
import Derived.LoopNIn
import Derived.Laws.EntriesVeiled
namespace Go.Proofs.Ytdkdddkhfonjmaa
open Go.RowKit Go.Shelf
set_option linter.unusedVariables false
set_option linter.unusedSimpArgs false
attribute [local go_sem] Oper.semAt_some

theorem run_equalIn_func_nil {P : Program} (w : World) (d : Nat) (t : TypeId) {a : Array TypeId} {b : Array TypeId} {c : Bool} (fn : Fn) (first cap : Array Value) (h : P.underlying t = some (.func a b c)) : (Op.equalIn (d + 1) t (.func fn first cap) .nilFunc).run P w = .ok false w := by
  simp [Op.equalIn, run_underlying h]
theorem run_eql_func_nil {P : Program} (w : World) (t : TypeId) {a : Array TypeId} {b : Array TypeId} {c : Bool} (fn : Fn) (first cap : Array Value) (h : P.underlying t = some (.func a b c)) : (binOp .eql t (.func fn first cap) .nilFunc).run P w = .ok (.bool false) w := by
  simp only [binOp]
  simp [Op.equal, Op.maxDepth, run_equalIn_func_nil w 9999 t fn first cap h]

theorem EachC.mid {w w' : World} {base : Nat} {xs : List Cell} {v : Value} (h : EachC w base xs v) (hm : Mid base w.heap.size w w') : EachC w' base xs v := by
  obtain ⟨Bs, A, c, e, h1, h2, h3, h4, h5⟩ := h
  exact ⟨Bs, A, c, e, h1, Nat.lt_of_lt_of_le h2 hm.size, (hm.cell (p := ⟨Bs, 0, none⟩) h1 h2).trans h3, h4.mid h5 ⟨hm.size, fun k a b => hm.block k a (by omega)⟩, h5⟩
theorem wp_act {F : Fence} {n : Nat} {P : Program} {c : Code} {Q : Exit → Act → World → Prop} {tmps : Array Value} {ds : List Deferred} {w : World} (h : ∀ tm, tm = tmps → c.wpIn F n P Q { tmps := tm, defers := ds } w) : c.wpIn F n P Q { tmps := tmps, defers := ds } w := h _ rfl
theorem func_box_inj {f : Fn} {a b : Nat} (h : Value.func f #[] #[.pointer (some ⟨a, 0, none⟩)] = Value.func f #[] #[.pointer (some ⟨b, 0, none⟩)]) : a = b := by
  injection h with _ _ h
  simpa using h
theorem prefix_last {N : Nat} {pre : List (Fin N)} {x : Fin N} (h : pre ++ [x] <+: places N 0) : x.1 = pre.length := by
  have h1 := List.prefix_iff_eq_take.1 h
  have hl := h.length_le
  simp only [List.length_append, List.length_singleton, places, List.drop_zero, List.length_finRange] at hl
  rw [List.length_append, List.length_singleton, places_take (by omega)] at h1
  obtain ⟨h2, h3⟩ := List.append_inj' h1 rfl
  simp at h3
  rw [h3]
theorem KeepsFrom.of_below {B : Nat} {a b : World} (h : Below a.heap.size a b) : KeepsFrom B a b := ⟨h.size, fun k o hB hk _ => (h.block k (Array.getElem?_eq_some_iff.1 hk).1).trans hk⟩
/-- What stands at the head of a turn: T the turn's box, E the iterator's. -/
structure EachSt (w X : World) (A : Option Addr) (c : Nat) (cs : List Cell) (stop : Int) (Bs lo E T : Nat) (turn : Int) : Prop where
  q0 : X.heap[w.heap.size]? = some (.cells #[.slice A cs.length c] 22 (0, 0))
  q1 : X.heap[w.heap.size + 1]? = some (.cells #[.int .i64 stop] 3 (0, 0))
  q2 : X.heap[w.heap.size + 2]? = some (.cells #[.bool false] 4 (0, 0))
  q3 : X.heap[E]? = some (.cells #[.func (.func 22) #[] #[.pointer (some ⟨Bs, 0, none⟩)]] 24 (0, 0))
  q4 : X.heap[T]? = some (.cells #[.int .i64 turn] 3 (0, 0))
  hE : EachC X lo cs (.func (.func 22) #[] #[.pointer (some ⟨Bs, 0, none⟩)])
  hb : Below w.heap.size w X
  h1 : w.heap.size + 2 < lo
  h2 : lo ≤ E
  h3 : E < T
/-- What a round leaves of it, where nothing below a box beyond was touched. -/
theorem EachSt.below {w X Y : World} {A : Option Addr} {c : Nat} {cs : List Cell} {stop : Int} {Bs lo E T : Nat} {turn : Int} (h : EachSt w X A c cs stop Bs lo E T turn) (hb : Below X.heap.size X Y) : EachSt w Y A c cs stop Bs lo E T turn := by
  have lt : ∀ {k : Nat} {o : Obj}, X.heap[k]? = some o → k < X.heap.size := fun e => (Array.getElem?_eq_some_iff.1 e).1
  exact ⟨(hb.block _ (lt h.q0)).trans h.q0, (hb.block _ (lt h.q1)).trans h.q1, (hb.block _ (lt h.q2)).trans h.q2, (hb.block _ (lt h.q3)).trans h.q3, (hb.block _ (lt h.q4)).trans h.q4, h.hE.mid (Mid.of_below hb), h.hb.trans (hb.mono h.hb.size), h.h1, h.h2, h.h3⟩

set_option maxRecDepth 100000 in
set_option maxHeartbeats 8000000 in
theorem each04_calls (A : Option Addr) (c n : Nat) (cs : List Cell) (stop : Int) (hn : n = cs.length) (w : World) (hl : cs.length * 24 ≤ 140737488355328) (hv : ∀ x ∈ cs, x.value.size ≤ 9223372036854775807) (ha : Rd Cell.cells 2 w w.heap.size A cs) :
    Calls Try.prog 3 #[.slice A n c, .int .i64 stop] w fun e w' => e = .returned (.bool true) ∧ Below w.heap.size w w' := by
  subst hn
  have HA := Lib.hid ha
  have HV := Lib.hid hv
  clear ha hv
  refine (callsIn_wide (n := 6)).1 ?_
  refine callsIn_of_wp_marks Try.func3 rfl trivial ?_ rfl
  simp only [Try.ntmps3, List.size_toArray, List.length_cons, List.length_nil, Nat.reduceAdd, Nat.reduceSub, Array.replicate_succ, Array.replicate_zero, List.push_toArray, List.append_toArray, List.nil_append, List.cons_append]
  refine wpIn_wide.2 ?_
  obtain ⟨W0, hW0⟩ : ∃ W0, W0 = ((w.alloc (.cells #[.slice A cs.length c] 22)).alloc (.cells #[.int .i64 stop] 3)).alloc (.cells #[.bool false] 4) := ⟨_, rfl⟩
  have hb0 : Below w.heap.size w W0 := by rw [hW0]; exact (((Below.refl _ w).alloc (Nat.le_refl _) _).alloc (by simp) _).alloc (by simp; omega) _
  have hz0 : W0.heap.size = w.heap.size + 3 := by rw [hW0]; simp
  have hr0 : Rd Cell.cells 2 W0 W0.heap.size A cs := (HA.out.below hb0).more hb0.size
  have r0 : W0.heap[w.heap.size]? = some (.cells #[.slice A cs.length c] 22 (0, 0)) := by rw [hW0, heap_alloc_old _ _ (by simp; omega), heap_alloc_old _ _ (by simp)]; exact heap_alloc_new _ _
  have r1 : W0.heap[w.heap.size + 1]? = some (.cells #[.int .i64 stop] 3 (0, 0)) := by rw [hW0, heap_alloc_old _ _ (by simp)]; exact heap_alloc2_new w _ _
  have r2 : W0.heap[w.heap.size + 2]? = some (.cells #[.bool false] 4 (0, 0)) := by rw [hW0]; have := heap_alloc_new ((w.alloc (.cells #[.slice A cs.length c] 22)).alloc (.cells #[.int .i64 stop] 3)) (.cells #[.bool false] 4); simpa using this
  have HW0 := Lib.hid hW0
  have HB0 := Lib.hid hb0
  have R0 := Lib.hid r0
  have R1 := Lib.hid r1
  have R2 := Lib.hid r2
  have HR0 := Lib.hid hr0
  have HZ0 := Lib.hid hz0
  clear hW0 hb0 r0 r1 r2 hr0 hz0
  have hl2 : cs.length ≤ maxLen := by unfold maxLen; omega
  go_wp2_with (at_builtin; refine wpList_app (v := .slice none 0 0) (xs := []) rowCell encCell rfl (.tmp 15) (.tmp 16) rfl W0.heap.size rfl (Made.nil _ _ _) rfl rfl (by rw [← HW0.out]; exact HR0.out) (by simpa using hl) (by simpa using hl2) (by rw [← HW0.out]; exact Nat.le_refl _) ?_; intro v1 w1 hm1 hg1 hat1; obtain ⟨A1, c1, rfl, hc1⟩ := hm1.form)
  simp only [List.nil_append] at hm1
  rw [← HW0.out] at hg1
  have hb1 : Below W0.heap.size W0 w1 := (Below.refl _ _).grown hg1 (Nat.le_refl _) (by simp [Value.ownBlock])
  have HM1 := Lib.hid hm1
  have HB1 := Lib.hid hb1
  have HC1 := Lib.hid hc1
  clear hm1 hg1 hat1 hb1 hc1
  go_wp2_with fail
  refine (ledgerEach A1 c1 cs.length cs rfl w1 hl (Made.rd' encCell.len HM1.out)).mono ?_
  rintro e w2 ⟨v, rfl, hE, hb2⟩
  have HE := Lib.hid hE
  obtain ⟨Bs0, _, _, rfl, _⟩ := hE
  have HB2 := Lib.hid hb2
  have HS12 : Hid (W0.heap.size ≤ w1.heap.size) := HB1.out.size
  clear hb2
  have hs0 : (List.nil ++ cs).length = cs.length := rfl
  clear hs0
  have HMo := Lib.hid (HM1.out.below HB2.out fun j e => (HM1.out.lt j e).2)
  have hsw : w2.heap.size ≥ W0.heap.size := Nat.le_trans HS12.out HB2.out.size
  have hz0 := HZ0.out
  obtain ⟨W3, hW3⟩ : ∃ W3, W3 = w2.alloc (.cells #[.func (.func 22) #[] #[.pointer (some ⟨Bs0, 0, none⟩)]] 24) := ⟨_, rfl⟩
  have hb23 : Below w2.heap.size w2 W3 := by rw [hW3]; exact (Below.refl _ _).alloc (Nat.le_refl _) _
  have hB3 : Below W0.heap.size W0 W3 := (HB1.out.trans (HB2.out.mono HS12.out)).trans (hb23.mono hsw)
  have q0 : W3.heap[w.heap.size]? = some (.cells #[.slice A cs.length c] 22 (0, 0)) := (hB3.block _ (by omega)).trans R0.out
  have q1 : W3.heap[w.heap.size + 1]? = some (.cells #[.int .i64 stop] 3 (0, 0)) := (hB3.block _ (by omega)).trans R1.out
  have q2 : W3.heap[w.heap.size + 2]? = some (.cells #[.bool false] 4 (0, 0)) := (hB3.block _ (by omega)).trans R2.out
  have q3 : W3.heap[w2.heap.size]? = some (.cells #[.func (.func 22) #[] #[.pointer (some ⟨Bs0, 0, none⟩)]] 24 (0, 0)) := by rw [hW3]; exact heap_alloc_new _ _
  have hz3 : W3.heap.size = w2.heap.size + 1 := by rw [hW3]; simp
  have k0 : W3.cell? ⟨w.heap.size, 0, none⟩ = some (.slice A cs.length c) := cell_of_row _ _ 0 _ _ _ q0
  have k3 : W3.cell? ⟨w2.heap.size, 0, none⟩ = some (.func (.func 22) #[] #[.pointer (some ⟨Bs0, 0, none⟩)]) := cell_of_row _ _ 0 _ _ _ q3
  have HMo3 := Lib.hid (HMo.out.below (hb23.mono (Nat.le_refl _)) fun j e => Nat.lt_of_lt_of_le (HMo.out.lt j e).2 (Nat.le_refl _))
  have HRd3 : Hid (Rd Cell.cells 2 W3 W3.heap.size A cs) := (HR0.out.below hB3).more hB3.size
  have HB03 := Lib.hid hB3
  have Q0 := Lib.hid q0
  have Q1 := Lib.hid q1
  have Q2 := Lib.hid q2
  have Q3 := Lib.hid q3
  have HW3 := Lib.hid hW3
  have HZ3 := Lib.hid hz3
  have HB23 := Lib.hid hb23
  rw [hW3] at k0 k3
  clear hb23 hB3 q0 q1 q2 q3 hz3 hW3 hz0 hsw HMo
  dsimp only
  go_wp2_with fail
  rw [← HW3.out]
  refine (sameCellsTrue A1 A c1 c cs.length cs rfl W3 (by omega) (Made.rd' encCell.len HMo3.out) HRd3.out).mono ?_
  rintro e W4 ⟨rfl, q4, hw4⟩
  have hb34 : Below W3.heap.size W3 W4 := by rw [hw4]; exact below_drewN (Below.refl _ _) _
  have hh4 : W4.heap = W3.heap := by rw [hw4]; rfl
  have HH4 := Lib.hid hh4
  have HB34 := Lib.hid hb34
  have k0 : W4.cell? ⟨w.heap.size, 0, none⟩ = some (.slice A cs.length c) := cell_of_row _ _ 0 _ _ _ (by rw [hh4]; exact Q0.out)
  have k3 : W4.cell? ⟨w2.heap.size, 0, none⟩ = some (.func (.func 22) #[] #[.pointer (some ⟨Bs0, 0, none⟩)]) := cell_of_row _ _ 0 _ _ _ (by rw [hh4]; exact Q3.out)
  clear hw4 hb34 hh4
  have i0 : (0:Int) ≤ (cs.length:Int) := by omega
  have hnf := fun (W : World) (fn : Fn) (first cap : Array Value) => run_eql_func_nil (P := Try.prog) W 24 fn first cap Try.underlying24
  dsimp only
  go_wp2_with fail
  have HMo4 := Lib.hid (HMo3.out.below (HB34.out) fun j e => (HMo3.out.lt j e).2)
  clear HMo3
  go_loopw [7] (fun i wr => ∃ k : Nat, ∃ zs : List Cell, k ≤ cs.length ∧ i = .int .i64 k ∧ Hid (zs.length = cs.length) ∧ Hid (Made Cell.cells 2 29 W0.heap.size wr (.slice A1 cs.length c1) zs) ∧ Hid (Kept (fun j => (Value.slice A1 cs.length c1).ownBlock = some j) W4 wr)) (fun i _ => cs.length - (intOf i).toNat)
  case atStart => exact ⟨0, cs, by omega, rfl, rfl, HMo4.out, Kept.refl _ _⟩
  case round =>
    obtain ⟨k, zs, hk, rfl, hzs, hmo, hkp⟩ := hrel
    by_cases h1 : k < cs.length
    · have g1 : decide ((k:Int) < (cs.length:Int)) = true := decide_eq_true (by omega)
      have g1b : decide (k < cs.length) = true := decide_eq_true h1
      have i1 : (k:Int) < (cs.length:Int) := by omega
      have i2 : (0:Int) ≤ (k:Int) := by omega
      have k1 : IntKind.i64.wrap ((k:Int) + 1) = (k:Int) + 1 := IntWalk.i64_in _ (by omega)
      have hm0 := hmo.out
      obtain ⟨ad, hAd, hx1, hx2⟩ := (Made.rd' encCell.len hm0).at_ (i := k) (by rw [hzs.out]; exact h1)
      clear hx1 hx2
      obtain ⟨g, rfl⟩ := (hm0.addr).1 ad hAd
      subst hAd
      have hsp := hm0.stepped encCell hzs.out h1 ⟨-1, ⟨#[115, 112, 111, 105, 108, 116]⟩⟩
      have hmo' : Made Cell.cells 2 29 W0.heap.size wr (.slice (some ⟨g, 0, none⟩) zs.length c1) zs := by rw [hzs.out]; exact hm0
      have hput := hmo'.put encCell.len (by omega) (show k < zs.length by rw [hzs.out]; exact h1) ⟨-1, ⟨#[115, 112, 111, 105, 108, 116]⟩⟩
      rw [List.length_set, hzs.out] at hput
      have HPT := Lib.hid hput
      have HZS2 : Hid ((zs.set k ⟨-1, ⟨#[115, 112, 111, 105, 108, 116]⟩⟩).length = cs.length) := by show _ = _; rw [List.length_set]; exact hzs.out
      have hkk : Kept (fun j => (Value.slice (some ⟨g, 0, none⟩) cs.length c1).ownBlock = some j) W4 (putCells wr g (k * 2) [.int .i64 (-1), .string ⟨#[115, 112, 111, 105, 108, 116]⟩]) := hkp.out.trans (putCells_kept.mono fun j _ e => by rw [e]; rfl)
      have HKK := Lib.hid hkk
      simp only [Stepped, Cell.cells, Nat.add_zero, Nat.zero_add, Nat.reduceAdd] at hsp
      obtain ⟨⟨_, _⟩, _, ⟨_, _⟩, _, _⟩ := hsp
      clear hm0 hmo' hput hkk hmo hkp
      go_wp2_with fail
      go_roundw
      case rel => exact ⟨k + 1, _, by omega, by go_num, HZS2, HPT.out, HKK.out⟩
      case measure => simp [intOf]; omega
    · have g1 : decide ((k:Int) < (cs.length:Int)) = false := decide_eq_false (by omega)
      have g1b : decide (k < cs.length) = false := decide_eq_false h1
      have hlo : ∀ j, (Value.slice A1 cs.length c1).ownBlock = some j → W0.heap.size ≤ j ∧ j < w1.heap.size := fun j e => HM1.out.lt j e
      have hz0 := HZ0.out
      have hz3 := HZ3.out
      have hs2 := HB2.out.size
      have hs12 := HS12.out
      have hs34 := HB34.out.size
      have hK := hkp.out
      have hbk : ∀ j, j < W4.heap.size → (j < W0.heap.size ∨ w1.heap.size ≤ j) → wr.heap[j]? = W4.heap[j]? := fun j a b => hK.block j a (fun e => by have := hlo j e; omega)
      have hst : EachSt w (wr.alloc (.cells #[.int .i64 0] 3)) A c cs stop Bs0 w1.heap.size w2.heap.size wr.heap.size 0 := by
        have hsz := hK.size
        have hbX : Below wr.heap.size wr (wr.alloc (.cells #[.int .i64 0] 3)) := (Below.refl _ _).alloc (Nat.le_refl _) _
        have hq : ∀ j, j < W4.heap.size → (j < W0.heap.size ∨ w1.heap.size ≤ j) → (wr.alloc (.cells #[.int .i64 0] 3)).heap[j]? = W4.heap[j]? := fun j a b => (hbX.block j (by omega)).trans (hbk j a b)
        have hh := HH4.out
        refine ⟨(hq _ (by omega) (by omega)).trans (by rw [hh]; exact Q0.out), (hq _ (by omega) (by omega)).trans (by rw [hh]; exact Q1.out), (hq _ (by omega) (by omega)).trans (by rw [hh]; exact Q2.out), (hq _ (by omega) (by omega)).trans (by rw [hh]; exact Q3.out), heap_alloc_new _ _, ?_, ?_, by omega, by omega, by omega⟩
        · refine HE.out.mid ⟨by simp; omega, fun j a b => ?_⟩
          refine (hq j (by omega) (by omega)).trans ?_
          rw [hh]
          exact HB23.out.block j b
        · have hb4 : Below w.heap.size w W4 := HB0.out.trans (((HB03.out.trans (HB34.out.mono HB03.out.size))).mono HB0.out.size)
          exact (Kept.below_n hb4 (Nat.le_refl _) hK (fun j e => by have := hlo j e; omega)).alloc (by have := hb4.size; omega) _
      have HST := Lib.hid hst
      clear hst hbk hK hlo
      go_wp2_with fail
      generalize wr.alloc (.cells #[.int .i64 0] 3) = X0 at *
      generalize wr.heap.size = T at *
      generalize w1.heap.size = lo at *
      generalize w2.heap.size = E at *
      refine wp_loop_rounds 4 ?_
      rw [rounds_succ]
      have t0 : X0.cell? ⟨T, 0, none⟩ = some (.int .i64 0) := cell_of_row _ _ 0 _ _ _ HST.out.q4
      obtain ⟨X1, hX1⟩ : ∃ X1, X1 = X0.alloc (.cells #[.int .i64 0] 3) := ⟨_, rfl⟩
      have hbX : Below X0.heap.size X0 X1 := by rw [hX1]; exact (Below.refl _ _).alloc (Nat.le_refl _) _
      have hs1 := HST.out.below hbX
      have hn1 : X1.heap[X0.heap.size]? = some (.cells #[.int .i64 0] 3 (0, 0)) := by rw [hX1]; exact heap_alloc_new _ _
      have hl1 : X1.heap.size = X0.heap.size + 1 := by rw [hX1]; simp
      have k3 : X1.cell? ⟨E, 0, none⟩ = some (.func (.func 22) #[] #[.pointer (some ⟨Bs0, 0, none⟩)]) := cell_of_row _ _ 0 _ _ _ hs1.q3
      have HX1 := Lib.hid hX1
      have HBX := Lib.hid hbX
      have HS1 := Lib.hid hs1
      have HN1 := Lib.hid hn1
      have HL1 := Lib.hid hl1
      rw [hX1] at k3
      clear hX1 hbX hs1 hn1 hl1
      go_wp2_with fail
      rw [← HX1.out]
      refine (wpIn_wide (n := 6)).1 ?_
      refine wp_act ?_
      intro tm htm
      have HTM := Lib.hid htm
      obtain ⟨Bs', heq, hBs1, hBs2, hS⟩ := HS1.out.hE.stops (by omega)
      obtain rfl := func_box_inj heq
      clear heq
      have hl1 := HL1.out
      have hqs := HST.out.hE
      have hBX : Bs0 < X0.heap.size := by
        obtain ⟨B, _, _, hv, _, hB, _⟩ := hqs
        have := func_box_inj hv
        omega
      refine wpIn_rangeFunc_ownH rfl (by omega) (gf := 22) (lb := #[.pointer (some ⟨Bs0, 0, none⟩)]) (by rw [htm]; rfl) trivial (enters_of Try.func22 (by kernel_rfl) rfl)
        (hS _ X1 (Below.refl _ _)) midK_t (midK_b (by omega)) (Below.refl _ _) (fun _ => rfl)
        (fun pre W => W.heap[X0.heap.size]? = some (.cells #[.int .i64 (pre.length : Nat)] 3 (0, 0)) ∧ Below X0.heap.size X1 W)
        (fun c pre W => c = .ret ∧ ¬ (pre <+: places cs.length 0))
        ?hI0 ?hIx0 ?h00
        (fun x a' W => a' = { tmps := (((tm.setIfInBounds 51 (.int .i64 cs[x.1].slot)).setIfInBounds 52 (.string cs[x.1].value)).setIfInBounds 10 (.int .i64 cs[x.1].slot)).setIfInBounds 11 (.string cs[x.1].value), defers := [] })
        ?hAx0 ?assign0 ?body0 ?done0 ?stop0
      case hI0 => exact OwnFrom.and (row_ownC _ _ (fun pre : List (Fin cs.length) => #[.int .i64 (pre.length : Nat)]) _) (ownFrom_below (by omega) (by omega))
      case hIx0 => intro c s X Y row hs hg hr; exact hs
      case h00 => exact ⟨HN1.out, Below.refl _ _⟩
      case hAx0 => intro x a' _ X Y row hs hg hr; exact hs
      case assign0 =>
        rintro l pre x W K ⟨k9, hB⟩ hK
        dsimp only [encC]
        rw [htm]
        gi_wp2
        exact hK _ _ (KeepsFrom.refl _ _) (Mid.refl W) ⟨k9, hB⟩ (by rw [htm]; rfl)
      case body0 =>
        rintro l pre x a' W hl ⟨r, hr⟩ ⟨k9, hB⟩ rfl hlt
        have HRL := Lib.hid hr
        have hst := HST.out.below (HBX.out.trans hB)
        have HSW := Lib.hid hst
        obtain ⟨p, hp⟩ : ∃ p, p = pre.length := ⟨_, rfl⟩
        rw [← hp] at k9 hlt
        have d0 : W.cell? ⟨w.heap.size, 0, none⟩ = some (.slice A cs.length c) := cell_of_row _ _ 0 _ _ _ hst.q0
        have d4 : W.cell? ⟨T, 0, none⟩ = some (.int .i64 0) := cell_of_row _ _ 0 _ _ _ hst.q4
        have d2 : W.cell? ⟨w.heap.size + 1 + 1, 0, none⟩ = some (.bool false) := cell_of_row _ _ 0 _ _ _ hst.q2
        have f2 : W.frozen? ⟨w.heap.size + 1 + 1, 0, none⟩ = false := frozen_of_row _ _ _ _ _ hst.q2
        have d9 : W.cell? ⟨X0.heap.size, 0, none⟩ = some (.int .i64 p) := cell_of_row _ _ 0 _ _ _ k9
        have f9 : W.frozen? ⟨X0.heap.size, 0, none⟩ = false := frozen_of_row _ _ _ _ _ k9
        have hTX : T < X0.heap.size := (Array.getElem?_eq_some_iff.1 HST.out.q4).1
        have hoth : ∀ (b : Nat) (v u : Value), b < X0.heap.size → W.cell? ⟨b, 0, none⟩ = some v → (W.setCell ⟨X0.heap.size, 0, none⟩ u).cell? ⟨b, 0, none⟩ = some v := fun b v u hb h => (World.cell?_setCell_other _ _ _ _ (fun e => by injection e with e1; omega)).trans h
        have d4' := hoth T _ (.int .i64 ((p:Int) + 1)) hTX d4
        have d1' := hoth (w.heap.size + 1) _ (.int .i64 ((p:Int) + 1)) (Array.getElem?_eq_some_iff.1 HST.out.q1).1 (show W.cell? ⟨w.heap.size + 1, 0, none⟩ = some (.int .i64 stop) from cell_of_row _ _ 0 _ _ _ hst.q1)
        have d9' : (W.setCell ⟨X0.heap.size, 0, none⟩ (.int .i64 ((p:Int) + 1))).cell? ⟨X0.heap.size, 0, none⟩ = some (.int .i64 ((p:Int) + 1)) := World.cell?_setCell_same' _ _ _ (by simp [d9])
        obtain ⟨ad, hAd, _, hca⟩ := (HA.out.below hst.hb).at_ hlt
        obtain ⟨c0, c1⟩ := hca.two
        have hpx : pre ++ [x] <+: places cs.length 0 → cs[p] = cs[x.1] := fun h => by have := prefix_last h; simp [hp, this]
        obtain ⟨y, hy⟩ : ∃ y, y = cs[p] := ⟨_, rfl⟩
        obtain ⟨z, hz⟩ : ∃ z, z = cs[x.1] := ⟨_, rfl⟩
        rw [← hy] at c0 c1 hpx
        rw [← hz] at hpx ⊢
        have HPX := Lib.hid hpx
        have i1 : (p:Int) < (cs.length:Int) := by omega
        have i2 : (0:Int) ≤ (p:Int) := by omega
        have kw : IntKind.i64.wrap ((p:Int) + 1) = (p:Int) + 1 := IntWalk.i64_in _ (by omega)
        have HK9 := Lib.hid k9
        have HBW := Lib.hid hB
        have HP := Lib.hid hp
        clear hpx hca hst hp hy hz k9 hB hoth
        rw [htm]
        clear HTM htm hS
        subst hAd
        simp only [List.setIfInBounds_toArray, List.set_cons_succ, List.set_cons_zero]
        have hne : ∀ W', (binOp .neq 29 (.agg #[.int .i64 y.slot, .string y.value]) (.agg #[.int .i64 z.slot, .string z.value])).run Try.prog W' = .ok (.bool (!decide (y = z))) W' := fun W' => neq_cell y z W'
        by_cases hq : y = z
        · rw [decide_eq_true hq] at hne
          by_cases h2 : (p:Int) + 1 = 2
          all_goals
            gi_wp2_with fail
            exact ⟨(KeepsOthers.setCell _ _ _).from _, (Mid.refl W).setCell (.inr hBX) _, by rw [heap_setCell_same W X0.heap.size 0 _ _ _ HK9.out, List.length_append, ← HP.out]; first | rfl | (have hp1 : p = 1 := (by omega); subst hp1; rfl), HBW.out.setCell (Nat.le_refl _) _⟩
        · rw [decide_eq_false hq] at hne
          gi_wp2_with fail
          exact ⟨(KeepsOthers.setCell _ _ _).from _, rfl, fun h => hq (HPX.out h)⟩
      case done0 =>
        rintro D0 ys W hD rfl ⟨k9, hB⟩ hK
        have hst := HST.out.below (HBX.out.trans hB)
        have hlN : (places cs.length 0).length = cs.length := by simp [places]
        rw [hlN] at k9
        have d9 : W.cell? ⟨X0.heap.size, 0, none⟩ = some (.int .i64 (cs.length : Nat)) := cell_of_row _ _ 0 _ _ _ k9
        clear k9 hlN
        have hTX : T < X0.heap.size := (Array.getElem?_eq_some_iff.1 HST.out.q4).1
        have d0 : W.cell? ⟨w.heap.size, 0, none⟩ = some (.slice A cs.length c) := cell_of_row _ _ 0 _ _ _ hst.q0
        have d4 : W.cell? ⟨T, 0, none⟩ = some (.int .i64 0) := cell_of_row _ _ 0 _ _ _ hst.q4
        obtain ⟨X2, hX2⟩ : ∃ X2, X2 = W.alloc (.cells #[.int .i64 1] 3) := ⟨_, rfl⟩
        have hbX2 : Below W.heap.size W X2 := by rw [hX2]; exact (Below.refl _ _).alloc (Nat.le_refl _) _
        have hst2' := hst.below hbX2
        have hst2 : EachSt w X2 A c cs stop Bs0 lo E W.heap.size 1 := ⟨hst2'.q0, hst2'.q1, hst2'.q2, hst2'.q3, by rw [hX2]; exact heap_alloc_new _ _, hst2'.hE, hst2'.hb, hst2'.h1, hst2'.h2, by have := hst.h3; have := (Array.getElem?_eq_some_iff.1 hst.q4).1; omega⟩
        have hlt0 := (Array.getElem?_eq_some_iff.1 hK).1
        have hK2 : X2.heap[D0]? = some (.deferred (some [])) := (hbX2.block _ hlt0).trans hK
        have HGE0 : Hid (w.heap.size + 3 ≤ D0) := by show _ ≤ _; have := (Array.getElem?_eq_some_iff.1 HST.out.q2).1; omega
        have HX2 := Lib.hid hX2
        have HD0 : Hid (X2.heap[D0]? = some (.deferred (some []))) := hK2
        have HST := Lib.hid hst2
        clear hX2 hbX2 hst2 hst2' hst hK2 hK hB HS1 HX1 HBX HN1 HL1 hl1 hqs hBX hS hlt0
        rw [htm]
        clear HTM htm
        go_wp2_with fail
        rw [← HX2.out]
        clear HX2 d0 d4 d9 t0 k3 hTX
        generalize W.heap.size = T at *
        generalize X2 = X0 at *
        rw [rounds_succ]
        have t0 : X0.cell? ⟨T, 0, none⟩ = some (.int .i64 1) := cell_of_row _ _ 0 _ _ _ HST.out.q4
        obtain ⟨X1, hX1⟩ : ∃ X1, X1 = X0.alloc (.cells #[.int .i64 0] 3) := ⟨_, rfl⟩
        have hbX : Below X0.heap.size X0 X1 := by rw [hX1]; exact (Below.refl _ _).alloc (Nat.le_refl _) _
        have hs1 := HST.out.below hbX
        have hn1 : X1.heap[X0.heap.size]? = some (.cells #[.int .i64 0] 3 (0, 0)) := by rw [hX1]; exact heap_alloc_new _ _
        have hl1 : X1.heap.size = X0.heap.size + 1 := by rw [hX1]; simp
        have k3 : X1.cell? ⟨E, 0, none⟩ = some (.func (.func 22) #[] #[.pointer (some ⟨Bs0, 0, none⟩)]) := cell_of_row _ _ 0 _ _ _ hs1.q3
        have HX1 := Lib.hid hX1
        have HBX := Lib.hid hbX
        have HS1 := Lib.hid hs1
        have HN1 := Lib.hid hn1
        have HL1 := Lib.hid hl1
        rw [hX1] at k3
        clear hX1 hbX hs1 hn1 hl1
        go_wp2_with fail
        rw [← HX1.out]
        refine (wpIn_wide (n := 6)).1 ?_
        refine wp_act ?_
        intro tm htm
        have HTM := Lib.hid htm
        obtain ⟨Bs', heq, hBs1, hBs2, hS⟩ := HS1.out.hE.stops (by omega)
        obtain rfl := func_box_inj heq
        clear heq
        have hl1 := HL1.out
        have hqs := HST.out.hE
        have hBX : Bs0 < X0.heap.size := by
          obtain ⟨B, _, _, hv, _, hB, _⟩ := hqs
          have := func_box_inj hv
          omega
        refine wpIn_rangeFunc_ownH rfl (by omega) (gf := 22) (lb := #[.pointer (some ⟨Bs0, 0, none⟩)]) (by rw [htm]; rfl) trivial (enters_of Try.func22 (by kernel_rfl) rfl)
          (hS _ X1 (Below.refl _ _)) midK_t (midK_b (by omega)) (Below.refl _ _) (fun _ => rfl)
          (fun pre W => W.heap[X0.heap.size]? = some (.cells #[.int .i64 (pre.length : Nat)] 3 (0, 0)) ∧ Below X0.heap.size X1 W)
          (fun c pre W => (c = .ret ∧ ¬ (pre <+: places cs.length 0)) ∨ (c = .exit 4 ∧ Below X0.heap.size X1 W))
          ?hI1 ?hIx1 ?h01
          (fun x a' W => a' = { tmps := (((tm.setIfInBounds 51 (.int .i64 cs[x.1].slot)).setIfInBounds 52 (.string cs[x.1].value)).setIfInBounds 10 (.int .i64 cs[x.1].slot)).setIfInBounds 11 (.string cs[x.1].value), defers := [] })
          ?hAx1 ?assign1 ?body1 ?done1 ?stop1
        case hI1 => exact OwnFrom.and (row_ownC _ _ (fun pre : List (Fin cs.length) => #[.int .i64 (pre.length : Nat)]) _) (ownFrom_below (by omega) (by omega))
        case hIx1 => intro c s X Y row hs hg hr; rcases hs with hs | ⟨h1, h2⟩; exact .inl hs; exact .inr ⟨h1, ownFrom_below (β := Unit) (by omega) (by omega) () X Y row h2 hg hr⟩
        case h01 => exact ⟨HN1.out, Below.refl _ _⟩
        case hAx1 => intro x a' _ X Y row hs hg hr; exact hs
        case assign1 =>
          rintro l pre x W K ⟨k9, hB⟩ hK
          dsimp only [encC]
          rw [htm]
          gi_wp2
          exact hK _ _ (KeepsFrom.refl _ _) (Mid.refl W) ⟨k9, hB⟩ (by rw [htm]; rfl)
        case body1 =>
          rintro l pre x a' W hl ⟨r, hr⟩ ⟨k9, hB⟩ rfl hlt
          have HRL := Lib.hid hr
          have hst := HST.out.below (HBX.out.trans hB)
          have HSW := Lib.hid hst
          obtain ⟨p, hp⟩ : ∃ p, p = pre.length := ⟨_, rfl⟩
          rw [← hp] at k9 hlt
          have d0 : W.cell? ⟨w.heap.size, 0, none⟩ = some (.slice A cs.length c) := cell_of_row _ _ 0 _ _ _ hst.q0
          have d4 : W.cell? ⟨T, 0, none⟩ = some (.int .i64 1) := cell_of_row _ _ 0 _ _ _ hst.q4
          have d2 : W.cell? ⟨w.heap.size + 1 + 1, 0, none⟩ = some (.bool false) := cell_of_row _ _ 0 _ _ _ hst.q2
          have f2 : W.frozen? ⟨w.heap.size + 1 + 1, 0, none⟩ = false := frozen_of_row _ _ _ _ _ hst.q2
          have d9 : W.cell? ⟨X0.heap.size, 0, none⟩ = some (.int .i64 p) := cell_of_row _ _ 0 _ _ _ k9
          have f9 : W.frozen? ⟨X0.heap.size, 0, none⟩ = false := frozen_of_row _ _ _ _ _ k9
          have hTX : T < X0.heap.size := (Array.getElem?_eq_some_iff.1 HST.out.q4).1
          have hoth : ∀ (b : Nat) (v u : Value), b < X0.heap.size → W.cell? ⟨b, 0, none⟩ = some v → (W.setCell ⟨X0.heap.size, 0, none⟩ u).cell? ⟨b, 0, none⟩ = some v := fun b v u hb h => (World.cell?_setCell_other _ _ _ _ (fun e => by injection e with e1; omega)).trans h
          have d4' := hoth T _ (.int .i64 ((p:Int) + 1)) hTX d4
          have d1' := hoth (w.heap.size + 1) _ (.int .i64 ((p:Int) + 1)) (Array.getElem?_eq_some_iff.1 HST.out.q1).1 (show W.cell? ⟨w.heap.size + 1, 0, none⟩ = some (.int .i64 stop) from cell_of_row _ _ 0 _ _ _ hst.q1)
          have d9' : (W.setCell ⟨X0.heap.size, 0, none⟩ (.int .i64 ((p:Int) + 1))).cell? ⟨X0.heap.size, 0, none⟩ = some (.int .i64 ((p:Int) + 1)) := World.cell?_setCell_same' _ _ _ (by simp [d9])
          obtain ⟨ad, hAd, _, hca⟩ := (HA.out.below hst.hb).at_ hlt
          obtain ⟨c0, c1⟩ := hca.two
          have hpx : pre ++ [x] <+: places cs.length 0 → cs[p] = cs[x.1] := fun h => by have := prefix_last h; simp [hp, this]
          obtain ⟨y, hy⟩ : ∃ y, y = cs[p] := ⟨_, rfl⟩
          obtain ⟨z, hz⟩ : ∃ z, z = cs[x.1] := ⟨_, rfl⟩
          rw [← hy] at c0 c1 hpx
          rw [← hz] at hpx ⊢
          have HPX := Lib.hid hpx
          have i1 : (p:Int) < (cs.length:Int) := by omega
          have i2 : (0:Int) ≤ (p:Int) := by omega
          have kw : IntKind.i64.wrap ((p:Int) + 1) = (p:Int) + 1 := IntWalk.i64_in _ (by omega)
          have HK9 := Lib.hid k9
          have HBW := Lib.hid hB
          have HP := Lib.hid hp
          clear hpx hca hst hp hy hz k9 hB hoth
          rw [htm]
          clear HTM htm hS
          subst hAd
          simp only [List.setIfInBounds_toArray, List.set_cons_succ, List.set_cons_zero]
          have hne : ∀ W', (binOp .neq 29 (.agg #[.int .i64 y.slot, .string y.value]) (.agg #[.int .i64 z.slot, .string z.value])).run Try.prog W' = .ok (.bool (!decide (y = z))) W' := fun W' => neq_cell y z W'
          by_cases hq : y = z
          · rw [decide_eq_true hq] at hne
            by_cases hs : stop ≤ (p:Int) + 1
            · gi_wp2_with fail
              exact ⟨(KeepsOthers.setCell _ _ _).from _, .inr ⟨rfl, HBW.out.setCell (Nat.le_refl _) _⟩⟩
            · rcases Bool.eq_false_or_eq_true (decide ((p:Int) + 1 = 2)) with h2 | h2
              all_goals
                gi_wp2_with fail
              all_goals
                exact ⟨(KeepsOthers.setCell _ _ _).from _, (Mid.refl W).setCell (.inr hBX) _, by rw [heap_setCell_same W X0.heap.size 0 _ _ _ HK9.out, List.length_append, ← HP.out]; first | rfl | (have hp1 : p = 1 := (by omega); subst hp1; rfl), HBW.out.setCell (Nat.le_refl _) _⟩
          · rw [decide_eq_false hq] at hne
            gi_wp2_with fail
            exact ⟨(KeepsOthers.setCell _ _ _).from _, .inl ⟨rfl, fun h => hq (HPX.out h)⟩⟩
        case done1 =>
          rintro D1 ys W hD rfl ⟨k9, hB⟩ hK
          have hst := HST.out.below (HBX.out.trans hB)
          have hlN : (places cs.length 0).length = cs.length := by simp [places]
          rw [hlN] at k9
          have d9 : W.cell? ⟨X0.heap.size, 0, none⟩ = some (.int .i64 (cs.length : Nat)) := cell_of_row _ _ 0 _ _ _ k9
          clear k9 hlN
          have hTX : T < X0.heap.size := (Array.getElem?_eq_some_iff.1 HST.out.q4).1
          have d0 : W.cell? ⟨w.heap.size, 0, none⟩ = some (.slice A cs.length c) := cell_of_row _ _ 0 _ _ _ hst.q0
          have d4 : W.cell? ⟨T, 0, none⟩ = some (.int .i64 1) := cell_of_row _ _ 0 _ _ _ hst.q4
          obtain ⟨X2, hX2⟩ : ∃ X2, X2 = W.alloc (.cells #[.int .i64 2] 3) := ⟨_, rfl⟩
          have hbX2 : Below W.heap.size W X2 := by rw [hX2]; exact (Below.refl _ _).alloc (Nat.le_refl _) _
          have hst2' := hst.below hbX2
          have hst2 : EachSt w X2 A c cs stop Bs0 lo E W.heap.size 2 := ⟨hst2'.q0, hst2'.q1, hst2'.q2, hst2'.q3, by rw [hX2]; exact heap_alloc_new _ _, hst2'.hE, hst2'.hb, hst2'.h1, hst2'.h2, by have := hst.h3; have := (Array.getElem?_eq_some_iff.1 hst.q4).1; omega⟩
          have hlt0 := (Array.getElem?_eq_some_iff.1 hK).1
          have hK2 : X2.heap[D1]? = some (.deferred (some [])) := (hbX2.block _ hlt0).trans hK
          have hbB := HBX.out.trans hB
          have hK0 : X2.heap[D0]? = some (.deferred (some [])) := (hbX2.block _ (by have := hbB.size; have := (Array.getElem?_eq_some_iff.1 HD0.out).1; omega)).trans ((hbB.block _ (Array.getElem?_eq_some_iff.1 HD0.out).1).trans HD0.out)
          have HLT0_1 : Hid (D0 < D1) := by show _ < _; have := HBX.out.size; have := (Array.getElem?_eq_some_iff.1 HD0.out).1; omega
          clear hbB HD0
          have HD0 : Hid (X2.heap[D0]? = some (.deferred (some []))) := hK0
          clear hK0
          have HGE1 : Hid (w.heap.size + 3 ≤ D1) := by show _ ≤ _; have := (Array.getElem?_eq_some_iff.1 HST.out.q2).1; omega
          have HX2 := Lib.hid hX2
          have HD1 : Hid (X2.heap[D1]? = some (.deferred (some []))) := hK2
          have HST := Lib.hid hst2
          clear hX2 hbX2 hst2 hst2' hst hK2 hK hB HS1 HX1 HBX HN1 HL1 hl1 hqs hBX hS hlt0
          rw [htm]
          clear HTM htm
          go_wp2_with fail
          rw [← HX2.out]
          clear HX2 d0 d4 d9 t0 k3 hTX
          generalize W.heap.size = T at *
          generalize X2 = X0 at *
          rw [rounds_succ]
          have t0 : X0.cell? ⟨T, 0, none⟩ = some (.int .i64 2) := cell_of_row _ _ 0 _ _ _ HST.out.q4
          obtain ⟨X1, hX1⟩ : ∃ X1, X1 = X0.alloc (.cells #[.int .i64 0] 3) := ⟨_, rfl⟩
          have hbX : Below X0.heap.size X0 X1 := by rw [hX1]; exact (Below.refl _ _).alloc (Nat.le_refl _) _
          have hs1 := HST.out.below hbX
          have hn1 : X1.heap[X0.heap.size]? = some (.cells #[.int .i64 0] 3 (0, 0)) := by rw [hX1]; exact heap_alloc_new _ _
          have hl1 : X1.heap.size = X0.heap.size + 1 := by rw [hX1]; simp
          have k3 : X1.cell? ⟨E, 0, none⟩ = some (.func (.func 22) #[] #[.pointer (some ⟨Bs0, 0, none⟩)]) := cell_of_row _ _ 0 _ _ _ hs1.q3
          have HX1 := Lib.hid hX1
          have HBX := Lib.hid hbX
          have HS1 := Lib.hid hs1
          have HN1 := Lib.hid hn1
          have HL1 := Lib.hid hl1
          rw [hX1] at k3
          clear hX1 hbX hs1 hn1 hl1
          go_wp2_with fail
          rw [← HX1.out]
          refine (wpIn_wide (n := 6)).1 ?_
          refine wp_act ?_
          intro tm htm
          have HTM := Lib.hid htm
          obtain ⟨Bs', heq, hBs1, hBs2, hS⟩ := HS1.out.hE.stops (by omega)
          obtain rfl := func_box_inj heq
          clear heq
          have hl1 := HL1.out
          have hqs := HST.out.hE
          have hBX : Bs0 < X0.heap.size := by
            obtain ⟨B, _, _, hv, _, hB, _⟩ := hqs
            have := func_box_inj hv
            omega
          refine wpIn_rangeFunc_ownH rfl (by omega) (gf := 22) (lb := #[.pointer (some ⟨Bs0, 0, none⟩)]) (by rw [htm]; rfl) trivial (enters_of Try.func22 (by kernel_rfl) rfl)
            (hS _ X1 (Below.refl _ _)) midK_t (midK_b (by omega)) (Below.refl _ _) (fun _ => rfl)
            (fun pre W => W.heap[X0.heap.size]? = some (.cells #[.int .i64 (pre.length : Nat)] 3 (0, 0)) ∧ Below X0.heap.size X1 W)
            (fun c pre W => c = .ret ∧ ¬ (pre <+: places cs.length 0))
            ?hI2 ?hIx2 ?h02
            (fun x a' W => a' = { tmps := (((tm.setIfInBounds 51 (.int .i64 cs[x.1].slot)).setIfInBounds 52 (.string cs[x.1].value)).setIfInBounds 10 (.int .i64 cs[x.1].slot)).setIfInBounds 11 (.string cs[x.1].value), defers := [] })
            ?hAx2 ?assign2 ?body2 ?done2 ?stop2
          case hI2 => exact OwnFrom.and (row_ownC _ _ (fun pre : List (Fin cs.length) => #[.int .i64 (pre.length : Nat)]) _) (ownFrom_below (by omega) (by omega))
          case hIx2 => intro c s X Y row hs hg hr; exact hs
          case h02 => exact ⟨HN1.out, Below.refl _ _⟩
          case hAx2 => intro x a' _ X Y row hs hg hr; exact hs
          case assign2 =>
            rintro l pre x W K ⟨k9, hB⟩ hK
            dsimp only [encC]
            rw [htm]
            gi_wp2
            exact hK _ _ (KeepsFrom.refl _ _) (Mid.refl W) ⟨k9, hB⟩ (by rw [htm]; rfl)
          case body2 =>
            rintro l pre x a' W hl ⟨r, hr⟩ ⟨k9, hB⟩ rfl hlt
            have HRL := Lib.hid hr
            have hst := HST.out.below (HBX.out.trans hB)
            have HSW := Lib.hid hst
            obtain ⟨p, hp⟩ : ∃ p, p = pre.length := ⟨_, rfl⟩
            rw [← hp] at k9 hlt
            have d0 : W.cell? ⟨w.heap.size, 0, none⟩ = some (.slice A cs.length c) := cell_of_row _ _ 0 _ _ _ hst.q0
            have d4 : W.cell? ⟨T, 0, none⟩ = some (.int .i64 2) := cell_of_row _ _ 0 _ _ _ hst.q4
            have d2 : W.cell? ⟨w.heap.size + 1 + 1, 0, none⟩ = some (.bool false) := cell_of_row _ _ 0 _ _ _ hst.q2
            have f2 : W.frozen? ⟨w.heap.size + 1 + 1, 0, none⟩ = false := frozen_of_row _ _ _ _ _ hst.q2
            have d9 : W.cell? ⟨X0.heap.size, 0, none⟩ = some (.int .i64 p) := cell_of_row _ _ 0 _ _ _ k9
            have f9 : W.frozen? ⟨X0.heap.size, 0, none⟩ = false := frozen_of_row _ _ _ _ _ k9
            have hTX : T < X0.heap.size := (Array.getElem?_eq_some_iff.1 HST.out.q4).1
            have hoth : ∀ (b : Nat) (v u : Value), b < X0.heap.size → W.cell? ⟨b, 0, none⟩ = some v → (W.setCell ⟨X0.heap.size, 0, none⟩ u).cell? ⟨b, 0, none⟩ = some v := fun b v u hb h => (World.cell?_setCell_other _ _ _ _ (fun e => by injection e with e1; omega)).trans h
            have d4' := hoth T _ (.int .i64 ((p:Int) + 1)) hTX d4
            have d1' := hoth (w.heap.size + 1) _ (.int .i64 ((p:Int) + 1)) (Array.getElem?_eq_some_iff.1 HST.out.q1).1 (show W.cell? ⟨w.heap.size + 1, 0, none⟩ = some (.int .i64 stop) from cell_of_row _ _ 0 _ _ _ hst.q1)
            have d9' : (W.setCell ⟨X0.heap.size, 0, none⟩ (.int .i64 ((p:Int) + 1))).cell? ⟨X0.heap.size, 0, none⟩ = some (.int .i64 ((p:Int) + 1)) := World.cell?_setCell_same' _ _ _ (by simp [d9])
            obtain ⟨ad, hAd, _, hca⟩ := (HA.out.below hst.hb).at_ hlt
            obtain ⟨c0, c1⟩ := hca.two
            have hpx : pre ++ [x] <+: places cs.length 0 → cs[p] = cs[x.1] := fun h => by have := prefix_last h; simp [hp, this]
            obtain ⟨y, hy⟩ : ∃ y, y = cs[p] := ⟨_, rfl⟩
            obtain ⟨z, hz⟩ : ∃ z, z = cs[x.1] := ⟨_, rfl⟩
            rw [← hy] at c0 c1 hpx
            rw [← hz] at hpx ⊢
            have HPX := Lib.hid hpx
            have i1 : (p:Int) < (cs.length:Int) := by omega
            have i2 : (0:Int) ≤ (p:Int) := by omega
            have kw : IntKind.i64.wrap ((p:Int) + 1) = (p:Int) + 1 := IntWalk.i64_in _ (by omega)
            have HK9 := Lib.hid k9
            have HBW := Lib.hid hB
            have HP := Lib.hid hp
            clear hpx hca hst hp hy hz k9 hB hoth
            rw [htm]
            clear HTM htm hS
            subst hAd
            simp only [List.setIfInBounds_toArray, List.set_cons_succ, List.set_cons_zero]
            have hne : ∀ W', (binOp .neq 29 (.agg #[.int .i64 y.slot, .string y.value]) (.agg #[.int .i64 z.slot, .string z.value])).run Try.prog W' = .ok (.bool (!decide (y = z))) W' := fun W' => neq_cell y z W'
            by_cases hq : y = z
            · rw [decide_eq_true hq] at hne
              by_cases h2 : p = 1
              · have kw2 : IntKind.i64.wrap ((p:Int) + 1) = 2 := by rw [kw]; omega
                have e2 : (p:Int) + 1 = 2 := by omega
                have HP2 : Hid (p = 1) := h2
                rw [e2] at d4' d1' d9'
                clear kw e2 h2
                obtain ⟨V, hV⟩ : ∃ V, V = W.setCell ⟨X0.heap.size, 0, none⟩ (.int .i64 2) := ⟨_, rfl⟩
                obtain ⟨V1, hV1⟩ : ∃ V1, V1 = V.alloc (.cells #[.int .i64 0] 3) := ⟨_, rfl⟩
                have hVs : V.heap.size = W.heap.size := by rw [hV]; simp [World.setCell]
                have hbV : Below X0.heap.size W V := by rw [hV]; exact Below.setCell (p := ⟨X0.heap.size, 0, none⟩) (Below.refl X0.heap.size W) (Nat.le_refl _) _
                have hbV1 : Below V.heap.size V V1 := by rw [hV1]; exact (Below.refl _ _).alloc (Nat.le_refl _) _
                have hEX : E < X0.heap.size := (Array.getElem?_eq_some_iff.1 HST.out.q3).1
                have hXW : X0.heap.size < W.heap.size := (Array.getElem?_eq_some_iff.1 HK9.out).1
                have dE : V1.cell? ⟨E, 0, none⟩ = some (.func (.func 22) #[] #[.pointer (some ⟨Bs0, 0, none⟩)]) := cell_of_row _ _ 0 _ _ _ ((hbV1.block _ (by omega)).trans ((hbV.block _ hEX).trans HSW.out.q3))
                have hrV : V1.heap[l]? = some (.loop r) := by
                  have hlW : l < W.heap.size := (Array.getElem?_eq_some_iff.1 HRL.out).1
                  rw [hbV1.block _ (by omega), hV]
                  exact ((KeepsOthers.setCell W ⟨X0.heap.size, 0, none⟩ (.int .i64 2)).from X1.heap.size).same _ _ hl HRL.out rfl
                have hm1 : V1.heap[W.heap.size]? = some (.cells #[.int .i64 0] 3 (0, 0)) := by rw [hV1, ← hVs]; exact heap_alloc_new _ _
                have hkV : KeepsFrom X1.heap.size W V := by rw [hV]; exact (KeepsOthers.setCell _ _ _).from _
                have hn9 : V.heap[X0.heap.size]? = some (.cells #[.int .i64 2] 3 (0, 0)) := by rw [hV]; exact heap_setCell_same W X0.heap.size 0 _ _ _ HK9.out
                have hzV1 : V1.heap.size = W.heap.size + 1 := by rw [hV1]; simp [hVs]
                have HV := Lib.hid hV
                have HV1 := Lib.hid hV1
                have HVS := Lib.hid hVs
                have HBV := Lib.hid hbV
                have HBV1 := Lib.hid hbV1
                have HRV := Lib.hid hrV
                have HM1 := Lib.hid hm1
                have HKV := Lib.hid hkV
                have HN9 := Lib.hid hn9
                have HZV1 := Lib.hid hzV1
                rw [hV1, hV] at dE
                clear hV hV1 hVs hbV hbV1 hrV hm1 hkV hn9 hzV1
                gi_wp2_with fail
                rw [← HV.out, ← HV1.out]
                try simp only [decide_eq_false (show ¬ (cs.length ≤ p) by omega)]
                refine wp_act ?_
                intro tn htn
                have HTN := Lib.hid htn
                obtain ⟨Bs2, heq2, hB21, hB22, hS2⟩ := HS1.out.hE.stops (by omega)
                obtain rfl := func_box_inj heq2
                clear heq2
                have hBW := HBW.out
                have hBV := HBV.out
                have hBV1 := HBV1.out
                have hVS := HVS.out
                have hzv := HZV1.out
                have hbX1 : Below X0.heap.size X1 V1 := (hBW.trans hBV).trans (hBV1.mono (by omega))
                have hmono1 : V.heap.size ≤ V1.heap.size := hBV1.size
                refine wpIn_rangeFunc_ownN (l₀ := l) (r₀ := r) rfl HRV.out (by omega) (gf := 22) (lb := #[.pointer (some ⟨Bs0, 0, none⟩)]) (by rw [htn]; rfl) trivial (enters_of Try.func22 (by kernel_rfl) rfl)
                  ((hS2 _ V1 (hbX1.mono (by omega))).inRound l) midK_t (midK_b (by omega)) (Below.refl _ _) (fun _ => rfl)
                  (fun pre' W' => W'.heap[W.heap.size]? = some (.cells #[.int .i64 (pre'.length : Nat)] 3 (0, 0)) ∧ Below V.heap.size V W')
                  (fun c pre' W' => c = .ret ∧ ¬ (pre' <+: places cs.length 0))
                  ?hIn ?hIxn ?h0n
                  (fun x' a' W' => a' = { tmps := (((tn.setIfInBounds 83 (.int .i64 cs[x'.1].slot)).setIfInBounds 84 (.string cs[x'.1].value)).setIfInBounds 13 (.int .i64 cs[x'.1].slot)).setIfInBounds 14 (.string cs[x'.1].value), defers := [] })
                  ?hAxn ?assignn ?bodyn ?donen ?stopn
                case hIn => exact OwnFrom.and (row_ownC _ _ (fun pre : List (Fin cs.length) => #[.int .i64 (pre.length : Nat)]) _) (ownFrom_below (by omega) (by omega))
                case hIxn => intro c s X Y row hs hg hr; exact hs
                case h0n => exact ⟨HM1.out, hBV1⟩
                case hAxn => intro x' a' _ X Y row hs hg hr; exact hs
                case assignn =>
                  rintro l2 pre' x' W' K ⟨k12, hB2⟩ hK
                  dsimp only [encC]
                  rw [htn]
                  gi_wp2
                  exact hK _ _ (KeepsFrom.refl _ _) (Mid.refl W') ⟨k12, hB2⟩ (by rw [htn]; rfl)
                case bodyn =>
                  rintro l2 pre' x' a' W' hl2 _ ⟨k12, hB2⟩ rfl hlt2
                  have hq0 : w.heap.size + 2 < X0.heap.size := (Array.getElem?_eq_some_iff.1 HST.out.q2).1
                  have hbw : Below w.heap.size w W' := (HSW.out.hb.trans (hBV.mono (by omega))).trans (hB2.mono (by omega))
                  have hbx : Below X0.heap.size W W' := hBV.trans (hB2.mono (by omega))
                  obtain ⟨p', hp'⟩ : ∃ p', p' = pre'.length := ⟨_, rfl⟩
                  rw [← hp'] at k12 hlt2
                  have e0 : W'.cell? ⟨w.heap.size, 0, none⟩ = some (.slice (some ad) cs.length c) := cell_of_row _ _ 0 _ _ _ ((hbx.block _ (by omega)).trans HSW.out.q0)
                  have r2 := (hbx.block _ (by omega)).trans HSW.out.q2
                  have e2 : W'.cell? ⟨w.heap.size + 1 + 1, 0, none⟩ = some (.bool false) := cell_of_row _ _ 0 _ _ _ r2
                  have f2' : W'.frozen? ⟨w.heap.size + 1 + 1, 0, none⟩ = false := frozen_of_row _ _ _ _ _ r2
                  have e12 : W'.cell? ⟨W.heap.size, 0, none⟩ = some (.int .i64 p') := cell_of_row _ _ 0 _ _ _ k12
                  have f12 : W'.frozen? ⟨W.heap.size, 0, none⟩ = false := frozen_of_row _ _ _ _ _ k12
                  obtain ⟨ad2, hAd2, _, hca2⟩ := (HA.out.below hbw).at_ hlt2
                  cases hAd2
                  obtain ⟨c0, c1⟩ := hca2.two
                  have hpx : pre' ++ [x'] <+: places cs.length 0 → cs[p'] = cs[x'.1] := fun h => by have := prefix_last h; simp [hp', this]
                  obtain ⟨y2, hy2⟩ : ∃ y, y = cs[p'] := ⟨_, rfl⟩
                  obtain ⟨z2, hz2⟩ : ∃ z, z = cs[x'.1] := ⟨_, rfl⟩
                  rw [← hy2] at c0 c1 hpx
                  rw [← hz2] at hpx ⊢
                  have HPX2 := Lib.hid hpx
                  have i1' : (p':Int) < (cs.length:Int) := by omega
                  have i2' : (0:Int) ≤ (p':Int) := by omega
                  have kw' : IntKind.i64.wrap ((p':Int) + 1) = (p':Int) + 1 := IntWalk.i64_in _ (by omega)
                  have HK12 := Lib.hid k12
                  have HB2 := Lib.hid hB2
                  have HPP := Lib.hid hp'
                  have hBX2 : Bs0 + 1 ≤ W.heap.size := by omega
                  clear hpx hca2 hp' hy2 hz2 k12 hB2 hbw hbx r2
                  rw [htn]
                  clear HTN htn hS2
                  simp only [List.setIfInBounds_toArray, List.set_cons_succ, List.set_cons_zero]
                  have hne2 : ∀ W', (binOp .neq 29 (.agg #[.int .i64 y2.slot, .string y2.value]) (.agg #[.int .i64 z2.slot, .string z2.value])).run Try.prog W' = .ok (.bool (!decide (y2 = z2))) W' := fun W' => neq_cell y2 z2 W'
                  clear hne d0 d4 d2 f2 d9 f9 d4' d1' d9' dE
                  by_cases hq' : y2 = z2
                  · rw [decide_eq_true hq'] at hne2
                    gi_wp2_with fail
                    exact ⟨(KeepsOthers.setCell _ _ _).from _, (Mid.refl W').setCell (.inr hBX2) _, by rw [heap_setCell_same W' W.heap.size 0 _ _ _ HK12.out, List.length_append, ← HPP.out]; rfl, HB2.out.setCell (by rw [HVS.out]; exact Nat.le_refl _) _⟩
                  · rw [decide_eq_false hq'] at hne2
                    gi_wp2_with fail
                    exact ⟨(KeepsOthers.setCell _ _ _).from _, rfl, fun h => hq' (HPX2.out h)⟩
                case stopn =>
                  rintro c pre' W' hSp h
                  exact absurd hSp h.2
                case donen =>
                  rintro ys W' rfl ⟨k12, hB2⟩
                  have hlN : (places cs.length 0).length = cs.length := by simp [places]
                  rw [hlN] at k12
                  have hq0 : w.heap.size + 2 < X0.heap.size := (Array.getElem?_eq_some_iff.1 HST.out.q2).1
                  have hbx : Below X0.heap.size W W' := hBV.trans (hB2.mono (by omega))
                  have e0 : W'.cell? ⟨w.heap.size, 0, none⟩ = some (.slice (some ad) cs.length c) := cell_of_row _ _ 0 _ _ _ ((hbx.block _ (by omega)).trans HSW.out.q0)
                  have e12 : W'.cell? ⟨W.heap.size, 0, none⟩ = some (.int .i64 (cs.length : Nat)) := cell_of_row _ _ 0 _ _ _ k12
                  have hfin : ownPostG X1.heap.size (Mid lo (Bs0 + 1)) (fun pre W => W.heap[X0.heap.size]? = some (.cells #[.int .i64 (pre.length : Nat)] 3 (0, 0)) ∧ Below X0.heap.size X1 W) (fun c pre W => c = .ret ∧ ¬ (pre <+: places cs.length 0)) (pre ++ [x]) W .normal { tmps := tn, defers := [] } W' :=
                    ⟨HKV.out.trans (KeepsFrom.of_below hB2), Mid.of_below (hbx.mono (by omega)), ((hB2.block _ (by omega)).trans HN9.out).trans (by rw [List.length_append, ← HP.out, HP2.out]; rfl), HBW.out.trans hbx⟩
                  have HFIN := Lib.hid hfin
                  clear hfin k12 hB2 hbx hlN
                  clear hne d0 d4 d2 f2 d9 f9 d4' d1' d9' dE hS2
                  rw [htn]
                  clear HTN htn
                  gi_wp2_with fail
                  exact HFIN.out
              · obtain ⟨q, hqq⟩ : ∃ q : Int, (p:Int) + 1 = q := ⟨_, rfl⟩
                have kw2 : IntKind.i64.wrap ((p:Int) + 1) = q := kw.trans hqq
                have hq2 : ¬ q = 2 := by omega
                have hq3 : decide (q = 2) = false := decide_eq_false hq2
                rw [hqq] at d4' d1' d9'
                have HQ := Lib.hid hqq
                clear kw hqq h2
                gi_wp2_with fail
                exact ⟨(KeepsOthers.setCell _ _ _).from _, (Mid.refl W).setCell (.inr hBX) _, by rw [heap_setCell_same W X0.heap.size 0 _ _ _ HK9.out, List.length_append, ← HP.out, ← HQ.out]; rfl, HBW.out.setCell (Nat.le_refl _) _⟩
            · rw [decide_eq_false hq] at hne
              gi_wp2_with fail
              exact ⟨(KeepsOthers.setCell _ _ _).from _, rfl, fun h => hq (HPX.out h)⟩
          case done2 =>
            rintro D2 ys W hD rfl ⟨k9, hB⟩ hK
            have hst := HST.out.below (HBX.out.trans hB)
            have hlN : (places cs.length 0).length = cs.length := by simp [places]
            rw [hlN] at k9
            have d9 : W.cell? ⟨X0.heap.size, 0, none⟩ = some (.int .i64 (cs.length : Nat)) := cell_of_row _ _ 0 _ _ _ k9
            clear k9 hlN
            have hTX : T < X0.heap.size := (Array.getElem?_eq_some_iff.1 HST.out.q4).1
            have d0 : W.cell? ⟨w.heap.size, 0, none⟩ = some (.slice A cs.length c) := cell_of_row _ _ 0 _ _ _ hst.q0
            have d4 : W.cell? ⟨T, 0, none⟩ = some (.int .i64 2) := cell_of_row _ _ 0 _ _ _ hst.q4
            obtain ⟨X2, hX2⟩ : ∃ X2, X2 = W.alloc (.cells #[.int .i64 3] 3) := ⟨_, rfl⟩
            have hbX2 : Below W.heap.size W X2 := by rw [hX2]; exact (Below.refl _ _).alloc (Nat.le_refl _) _
            have hst2' := hst.below hbX2
            have hst2 : EachSt w X2 A c cs stop Bs0 lo E W.heap.size 3 := ⟨hst2'.q0, hst2'.q1, hst2'.q2, hst2'.q3, by rw [hX2]; exact heap_alloc_new _ _, hst2'.hE, hst2'.hb, hst2'.h1, hst2'.h2, by have := hst.h3; have := (Array.getElem?_eq_some_iff.1 hst.q4).1; omega⟩
            have hlt0 := (Array.getElem?_eq_some_iff.1 hK).1
            have hK2 : X2.heap[D2]? = some (.deferred (some [])) := (hbX2.block _ hlt0).trans hK
            have hbB := HBX.out.trans hB
            have hK0 : X2.heap[D0]? = some (.deferred (some [])) := (hbX2.block _ (by have := hbB.size; have := (Array.getElem?_eq_some_iff.1 HD0.out).1; omega)).trans ((hbB.block _ (Array.getElem?_eq_some_iff.1 HD0.out).1).trans HD0.out)
            have HLT0_2 : Hid (D0 < D2) := by show _ < _; have := HBX.out.size; have := (Array.getElem?_eq_some_iff.1 HD0.out).1; omega
            clear hbB HD0
            have HD0 : Hid (X2.heap[D0]? = some (.deferred (some []))) := hK0
            clear hK0
            have hbB := HBX.out.trans hB
            have hK1 : X2.heap[D1]? = some (.deferred (some [])) := (hbX2.block _ (by have := hbB.size; have := (Array.getElem?_eq_some_iff.1 HD1.out).1; omega)).trans ((hbB.block _ (Array.getElem?_eq_some_iff.1 HD1.out).1).trans HD1.out)
            have HLT1_2 : Hid (D1 < D2) := by show _ < _; have := HBX.out.size; have := (Array.getElem?_eq_some_iff.1 HD1.out).1; omega
            clear hbB HD1
            have HD1 : Hid (X2.heap[D1]? = some (.deferred (some []))) := hK1
            clear hK1
            have HGE2 : Hid (w.heap.size + 3 ≤ D2) := by show _ ≤ _; have := (Array.getElem?_eq_some_iff.1 HST.out.q2).1; omega
            have HX2 := Lib.hid hX2
            have HD2 : Hid (X2.heap[D2]? = some (.deferred (some []))) := hK2
            have HST := Lib.hid hst2
            clear hX2 hbX2 hst2 hst2' hst hK2 hK hB HS1 HX1 HBX HN1 HL1 hl1 hqs hBX hS hlt0
            rw [htm]
            clear HTM htm
            go_wp2_with fail
            rw [← HX2.out]
            clear HX2 d0 d4 d9 t0 k3 hTX
            generalize W.heap.size = T at *
            generalize X2 = X0 at *
            rw [rounds_succ]
            have t0 : X0.cell? ⟨T, 0, none⟩ = some (.int .i64 3) := cell_of_row _ _ 0 _ _ _ HST.out.q4
            go_wp2_with fail
            refine (works04 X0).mono ?_
            rintro e X5 ⟨rfl, hb5⟩
            have r2 := (hb5.block _ (Array.getElem?_eq_some_iff.1 HST.out.q2).1).trans HST.out.q2
            have d2 : X5.cell? ⟨w.heap.size + 1 + 1, 0, none⟩ = some (.bool false) := cell_of_row _ _ 0 _ _ _ r2
            have f2 : X5.frozen? ⟨w.heap.size + 1 + 1, 0, none⟩ = false := frozen_of_row _ _ _ _ _ r2
            have HB5 := Lib.hid hb5
            have HR2 := Lib.hid r2
            clear hb5 r2
            dsimp only
            go_wp2_with fail
            have hB5 := HB5.out
            have hsz0 := HST.out.hb.size
            refine leaves_marks (B := w.heap.size + 3) [D2, D1, D0] ?_ ?_ ?_
            · intro D hD
              have hlt : ∀ E : Nat, X0.heap[E]? = some (Obj.deferred (some [])) → (X5.setCell ⟨w.heap.size + 1 + 1, 0, none⟩ (.bool true)).heap[E]? = some (Obj.deferred (some [])) := fun E hE =>
                ((KeepsOthers.setCell X5 ⟨w.heap.size + 1 + 1, 0, none⟩ (.bool true)).from 0).same _ _ (Nat.zero_le _) ((hB5.block _ (Array.getElem?_eq_some_iff.1 hE).1).trans hE) rfl
              simp only [List.mem_cons, List.not_mem_nil, or_false] at hD
              rcases hD with rfl | rfl | rfl
              · exact ⟨hlt _ HD2.out, HGE2.out⟩
              · exact ⟨hlt _ HD1.out, HGE1.out⟩
              · exact ⟨hlt _ HD0.out, HGE0.out⟩
            · have h1 := HLT0_1.out
              have h2 := HLT0_2.out
              have h3 := HLT1_2.out
              simp only [List.nodup_cons, List.mem_cons, List.not_mem_nil, or_false, not_or, not_false_iff, List.nodup_nil, and_true]
              omega
            · intro w' hw'
              refine ⟨_, results_cell1 rfl _ _ (w.heap.size + 1 + 1) (.bool true) rfl aggBool ?_, rfl, ?_⟩
              · rw [hw'.cell (p := ⟨w.heap.size + 1 + 1, 0, none⟩) (by simp)]
                exact World.cell?_setCell_same' _ _ _ (by simp [d2])
              · exact ((HST.out.hb.trans (hB5.mono hsz0)).setCell (p := ⟨w.heap.size + 1 + 1, 0, none⟩) (by simp; omega) _).trans (hw'.mono (by omega))
          case stop2 =>
            rintro D c pre W hD hSp h
            exact absurd hSp h.2
        case stop1 =>
          rintro D1 c' pre W hD hSp h hK
          rcases h with h | ⟨rfl, hB⟩
          · exact absurd hSp h.2
          · refine wpIn_wide.2 ?_
            have hst := HST.out.below (HBX.out.trans hB)
            have hTX : T < X0.heap.size := (Array.getElem?_eq_some_iff.1 HST.out.q4).1
            have d0 : W.cell? ⟨w.heap.size, 0, none⟩ = some (.slice A cs.length c) := cell_of_row _ _ 0 _ _ _ hst.q0
            have d4 : W.cell? ⟨T, 0, none⟩ = some (.int .i64 1) := cell_of_row _ _ 0 _ _ _ hst.q4
            obtain ⟨X2, hX2⟩ : ∃ X2, X2 = W.alloc (.cells #[.int .i64 2] 3) := ⟨_, rfl⟩
            have hbX2 : Below W.heap.size W X2 := by rw [hX2]; exact (Below.refl _ _).alloc (Nat.le_refl _) _
            have hst2' := hst.below hbX2
            have hst2 : EachSt w X2 A c cs stop Bs0 lo E W.heap.size 2 := ⟨hst2'.q0, hst2'.q1, hst2'.q2, hst2'.q3, by rw [hX2]; exact heap_alloc_new _ _, hst2'.hE, hst2'.hb, hst2'.h1, hst2'.h2, by have := hst.h3; have := (Array.getElem?_eq_some_iff.1 hst.q4).1; omega⟩
            have hlt0 := (Array.getElem?_eq_some_iff.1 hK).1
            have hK2 : X2.heap[D1]? = some (.deferred (some [])) := (hbX2.block _ hlt0).trans hK
            have hbB := HBX.out.trans hB
            have hK0 : X2.heap[D0]? = some (.deferred (some [])) := (hbX2.block _ (by have := hbB.size; have := (Array.getElem?_eq_some_iff.1 HD0.out).1; omega)).trans ((hbB.block _ (Array.getElem?_eq_some_iff.1 HD0.out).1).trans HD0.out)
            have HLT0_1 : Hid (D0 < D1) := by show _ < _; have := HBX.out.size; have := (Array.getElem?_eq_some_iff.1 HD0.out).1; omega
            clear hbB HD0
            have HD0 : Hid (X2.heap[D0]? = some (.deferred (some []))) := hK0
            clear hK0
            have HGE1 : Hid (w.heap.size + 3 ≤ D1) := by show _ ≤ _; have := (Array.getElem?_eq_some_iff.1 HST.out.q2).1; omega
            have HX2 := Lib.hid hX2
            have HD1 : Hid (X2.heap[D1]? = some (.deferred (some []))) := hK2
            have HST := Lib.hid hst2
            clear hX2 hbX2 hst2 hst2' hst hK2 hK hB HS1 HX1 HBX HN1 HL1 hl1 hqs hBX hS hlt0
            rw [htm]
            clear HTM htm
            go_wp2_with fail
            rw [← HX2.out]
            clear HX2 d0 d4 t0 k3 hTX
            generalize W.heap.size = T at *
            generalize X2 = X0 at *
            rw [rounds_succ]
            have t0 : X0.cell? ⟨T, 0, none⟩ = some (.int .i64 2) := cell_of_row _ _ 0 _ _ _ HST.out.q4
            obtain ⟨X1, hX1⟩ : ∃ X1, X1 = X0.alloc (.cells #[.int .i64 0] 3) := ⟨_, rfl⟩
            have hbX : Below X0.heap.size X0 X1 := by rw [hX1]; exact (Below.refl _ _).alloc (Nat.le_refl _) _
            have hs1 := HST.out.below hbX
            have hn1 : X1.heap[X0.heap.size]? = some (.cells #[.int .i64 0] 3 (0, 0)) := by rw [hX1]; exact heap_alloc_new _ _
            have hl1 : X1.heap.size = X0.heap.size + 1 := by rw [hX1]; simp
            have k3 : X1.cell? ⟨E, 0, none⟩ = some (.func (.func 22) #[] #[.pointer (some ⟨Bs0, 0, none⟩)]) := cell_of_row _ _ 0 _ _ _ hs1.q3
            have HX1 := Lib.hid hX1
            have HBX := Lib.hid hbX
            have HS1 := Lib.hid hs1
            have HN1 := Lib.hid hn1
            have HL1 := Lib.hid hl1
            rw [hX1] at k3
            clear hX1 hbX hs1 hn1 hl1
            go_wp2_with fail
            rw [← HX1.out]
            refine (wpIn_wide (n := 6)).1 ?_
            refine wp_act ?_
            intro tm htm
            have HTM := Lib.hid htm
            obtain ⟨Bs', heq, hBs1, hBs2, hS⟩ := HS1.out.hE.stops (by omega)
            obtain rfl := func_box_inj heq
            clear heq
            have hl1 := HL1.out
            have hqs := HST.out.hE
            have hBX : Bs0 < X0.heap.size := by
              obtain ⟨B, _, _, hv, _, hB, _⟩ := hqs
              have := func_box_inj hv
              omega
            refine wpIn_rangeFunc_ownH rfl (by omega) (gf := 22) (lb := #[.pointer (some ⟨Bs0, 0, none⟩)]) (by rw [htm]; rfl) trivial (enters_of Try.func22 (by kernel_rfl) rfl)
              (hS _ X1 (Below.refl _ _)) midK_t (midK_b (by omega)) (Below.refl _ _) (fun _ => rfl)
              (fun pre W => W.heap[X0.heap.size]? = some (.cells #[.int .i64 (pre.length : Nat)] 3 (0, 0)) ∧ Below X0.heap.size X1 W)
              (fun c pre W => c = .ret ∧ ¬ (pre <+: places cs.length 0))
              ?hI2 ?hIx2 ?h02
              (fun x a' W => a' = { tmps := (((tm.setIfInBounds 51 (.int .i64 cs[x.1].slot)).setIfInBounds 52 (.string cs[x.1].value)).setIfInBounds 10 (.int .i64 cs[x.1].slot)).setIfInBounds 11 (.string cs[x.1].value), defers := [] })
              ?hAx2 ?assign2 ?body2 ?done2 ?stop2
            case hI2 => exact OwnFrom.and (row_ownC _ _ (fun pre : List (Fin cs.length) => #[.int .i64 (pre.length : Nat)]) _) (ownFrom_below (by omega) (by omega))
            case hIx2 => intro c s X Y row hs hg hr; exact hs
            case h02 => exact ⟨HN1.out, Below.refl _ _⟩
            case hAx2 => intro x a' _ X Y row hs hg hr; exact hs
            case assign2 =>
              rintro l pre x W K ⟨k9, hB⟩ hK
              dsimp only [encC]
              rw [htm]
              gi_wp2
              exact hK _ _ (KeepsFrom.refl _ _) (Mid.refl W) ⟨k9, hB⟩ (by rw [htm]; rfl)
            case body2 =>
              rintro l pre x a' W hl ⟨r, hr⟩ ⟨k9, hB⟩ rfl hlt
              have HRL := Lib.hid hr
              have hst := HST.out.below (HBX.out.trans hB)
              have HSW := Lib.hid hst
              obtain ⟨p, hp⟩ : ∃ p, p = pre.length := ⟨_, rfl⟩
              rw [← hp] at k9 hlt
              have d0 : W.cell? ⟨w.heap.size, 0, none⟩ = some (.slice A cs.length c) := cell_of_row _ _ 0 _ _ _ hst.q0
              have d4 : W.cell? ⟨T, 0, none⟩ = some (.int .i64 2) := cell_of_row _ _ 0 _ _ _ hst.q4
              have d2 : W.cell? ⟨w.heap.size + 1 + 1, 0, none⟩ = some (.bool false) := cell_of_row _ _ 0 _ _ _ hst.q2
              have f2 : W.frozen? ⟨w.heap.size + 1 + 1, 0, none⟩ = false := frozen_of_row _ _ _ _ _ hst.q2
              have d9 : W.cell? ⟨X0.heap.size, 0, none⟩ = some (.int .i64 p) := cell_of_row _ _ 0 _ _ _ k9
              have f9 : W.frozen? ⟨X0.heap.size, 0, none⟩ = false := frozen_of_row _ _ _ _ _ k9
              have hTX : T < X0.heap.size := (Array.getElem?_eq_some_iff.1 HST.out.q4).1
              have hoth : ∀ (b : Nat) (v u : Value), b < X0.heap.size → W.cell? ⟨b, 0, none⟩ = some v → (W.setCell ⟨X0.heap.size, 0, none⟩ u).cell? ⟨b, 0, none⟩ = some v := fun b v u hb h => (World.cell?_setCell_other _ _ _ _ (fun e => by injection e with e1; omega)).trans h
              have d4' := hoth T _ (.int .i64 ((p:Int) + 1)) hTX d4
              have d1' := hoth (w.heap.size + 1) _ (.int .i64 ((p:Int) + 1)) (Array.getElem?_eq_some_iff.1 HST.out.q1).1 (show W.cell? ⟨w.heap.size + 1, 0, none⟩ = some (.int .i64 stop) from cell_of_row _ _ 0 _ _ _ hst.q1)
              have d9' : (W.setCell ⟨X0.heap.size, 0, none⟩ (.int .i64 ((p:Int) + 1))).cell? ⟨X0.heap.size, 0, none⟩ = some (.int .i64 ((p:Int) + 1)) := World.cell?_setCell_same' _ _ _ (by simp [d9])
              obtain ⟨ad, hAd, _, hca⟩ := (HA.out.below hst.hb).at_ hlt
              obtain ⟨c0, c1⟩ := hca.two
              have hpx : pre ++ [x] <+: places cs.length 0 → cs[p] = cs[x.1] := fun h => by have := prefix_last h; simp [hp, this]
              obtain ⟨y, hy⟩ : ∃ y, y = cs[p] := ⟨_, rfl⟩
              obtain ⟨z, hz⟩ : ∃ z, z = cs[x.1] := ⟨_, rfl⟩
              rw [← hy] at c0 c1 hpx
              rw [← hz] at hpx ⊢
              have HPX := Lib.hid hpx
              have i1 : (p:Int) < (cs.length:Int) := by omega
              have i2 : (0:Int) ≤ (p:Int) := by omega
              have kw : IntKind.i64.wrap ((p:Int) + 1) = (p:Int) + 1 := IntWalk.i64_in _ (by omega)
              have HK9 := Lib.hid k9
              have HBW := Lib.hid hB
              have HP := Lib.hid hp
              clear hpx hca hst hp hy hz k9 hB hoth
              rw [htm]
              clear HTM htm hS
              subst hAd
              simp only [List.setIfInBounds_toArray, List.set_cons_succ, List.set_cons_zero]
              have hne : ∀ W', (binOp .neq 29 (.agg #[.int .i64 y.slot, .string y.value]) (.agg #[.int .i64 z.slot, .string z.value])).run Try.prog W' = .ok (.bool (!decide (y = z))) W' := fun W' => neq_cell y z W'
              by_cases hq : y = z
              · rw [decide_eq_true hq] at hne
                by_cases h2 : p = 1
                · have kw2 : IntKind.i64.wrap ((p:Int) + 1) = 2 := by rw [kw]; omega
                  have e2 : (p:Int) + 1 = 2 := by omega
                  have HP2 : Hid (p = 1) := h2
                  rw [e2] at d4' d1' d9'
                  clear kw e2 h2
                  obtain ⟨V, hV⟩ : ∃ V, V = W.setCell ⟨X0.heap.size, 0, none⟩ (.int .i64 2) := ⟨_, rfl⟩
                  obtain ⟨V1, hV1⟩ : ∃ V1, V1 = V.alloc (.cells #[.int .i64 0] 3) := ⟨_, rfl⟩
                  have hVs : V.heap.size = W.heap.size := by rw [hV]; simp [World.setCell]
                  have hbV : Below X0.heap.size W V := by rw [hV]; exact Below.setCell (p := ⟨X0.heap.size, 0, none⟩) (Below.refl X0.heap.size W) (Nat.le_refl _) _
                  have hbV1 : Below V.heap.size V V1 := by rw [hV1]; exact (Below.refl _ _).alloc (Nat.le_refl _) _
                  have hEX : E < X0.heap.size := (Array.getElem?_eq_some_iff.1 HST.out.q3).1
                  have hXW : X0.heap.size < W.heap.size := (Array.getElem?_eq_some_iff.1 HK9.out).1
                  have dE : V1.cell? ⟨E, 0, none⟩ = some (.func (.func 22) #[] #[.pointer (some ⟨Bs0, 0, none⟩)]) := cell_of_row _ _ 0 _ _ _ ((hbV1.block _ (by omega)).trans ((hbV.block _ hEX).trans HSW.out.q3))
                  have hrV : V1.heap[l]? = some (.loop r) := by
                    have hlW : l < W.heap.size := (Array.getElem?_eq_some_iff.1 HRL.out).1
                    rw [hbV1.block _ (by omega), hV]
                    exact ((KeepsOthers.setCell W ⟨X0.heap.size, 0, none⟩ (.int .i64 2)).from X1.heap.size).same _ _ hl HRL.out rfl
                  have hm1 : V1.heap[W.heap.size]? = some (.cells #[.int .i64 0] 3 (0, 0)) := by rw [hV1, ← hVs]; exact heap_alloc_new _ _
                  have hkV : KeepsFrom X1.heap.size W V := by rw [hV]; exact (KeepsOthers.setCell _ _ _).from _
                  have hn9 : V.heap[X0.heap.size]? = some (.cells #[.int .i64 2] 3 (0, 0)) := by rw [hV]; exact heap_setCell_same W X0.heap.size 0 _ _ _ HK9.out
                  have hzV1 : V1.heap.size = W.heap.size + 1 := by rw [hV1]; simp [hVs]
                  have HV := Lib.hid hV
                  have HV1 := Lib.hid hV1
                  have HVS := Lib.hid hVs
                  have HBV := Lib.hid hbV
                  have HBV1 := Lib.hid hbV1
                  have HRV := Lib.hid hrV
                  have HM1 := Lib.hid hm1
                  have HKV := Lib.hid hkV
                  have HN9 := Lib.hid hn9
                  have HZV1 := Lib.hid hzV1
                  rw [hV1, hV] at dE
                  clear hV hV1 hVs hbV hbV1 hrV hm1 hkV hn9 hzV1
                  gi_wp2_with fail
                  rw [← HV.out, ← HV1.out]
                  try simp only [decide_eq_false (show ¬ (cs.length ≤ p) by omega)]
                  refine wp_act ?_
                  intro tn htn
                  have HTN := Lib.hid htn
                  obtain ⟨Bs2, heq2, hB21, hB22, hS2⟩ := HS1.out.hE.stops (by omega)
                  obtain rfl := func_box_inj heq2
                  clear heq2
                  have hBW := HBW.out
                  have hBV := HBV.out
                  have hBV1 := HBV1.out
                  have hVS := HVS.out
                  have hzv := HZV1.out
                  have hbX1 : Below X0.heap.size X1 V1 := (hBW.trans hBV).trans (hBV1.mono (by omega))
                  have hmono1 : V.heap.size ≤ V1.heap.size := hBV1.size
                  refine wpIn_rangeFunc_ownN (l₀ := l) (r₀ := r) rfl HRV.out (by omega) (gf := 22) (lb := #[.pointer (some ⟨Bs0, 0, none⟩)]) (by rw [htn]; rfl) trivial (enters_of Try.func22 (by kernel_rfl) rfl)
                    ((hS2 _ V1 (hbX1.mono (by omega))).inRound l) midK_t (midK_b (by omega)) (Below.refl _ _) (fun _ => rfl)
                    (fun pre' W' => W'.heap[W.heap.size]? = some (.cells #[.int .i64 (pre'.length : Nat)] 3 (0, 0)) ∧ Below V.heap.size V W')
                    (fun c pre' W' => c = .ret ∧ ¬ (pre' <+: places cs.length 0))
                    ?hIn ?hIxn ?h0n
                    (fun x' a' W' => a' = { tmps := (((tn.setIfInBounds 83 (.int .i64 cs[x'.1].slot)).setIfInBounds 84 (.string cs[x'.1].value)).setIfInBounds 13 (.int .i64 cs[x'.1].slot)).setIfInBounds 14 (.string cs[x'.1].value), defers := [] })
                    ?hAxn ?assignn ?bodyn ?donen ?stopn
                  case hIn => exact OwnFrom.and (row_ownC _ _ (fun pre : List (Fin cs.length) => #[.int .i64 (pre.length : Nat)]) _) (ownFrom_below (by omega) (by omega))
                  case hIxn => intro c s X Y row hs hg hr; exact hs
                  case h0n => exact ⟨HM1.out, hBV1⟩
                  case hAxn => intro x' a' _ X Y row hs hg hr; exact hs
                  case assignn =>
                    rintro l2 pre' x' W' K ⟨k12, hB2⟩ hK
                    dsimp only [encC]
                    rw [htn]
                    gi_wp2
                    exact hK _ _ (KeepsFrom.refl _ _) (Mid.refl W') ⟨k12, hB2⟩ (by rw [htn]; rfl)
                  case bodyn =>
                    rintro l2 pre' x' a' W' hl2 _ ⟨k12, hB2⟩ rfl hlt2
                    have hq0 : w.heap.size + 2 < X0.heap.size := (Array.getElem?_eq_some_iff.1 HST.out.q2).1
                    have hbw : Below w.heap.size w W' := (HSW.out.hb.trans (hBV.mono (by omega))).trans (hB2.mono (by omega))
                    have hbx : Below X0.heap.size W W' := hBV.trans (hB2.mono (by omega))
                    obtain ⟨p', hp'⟩ : ∃ p', p' = pre'.length := ⟨_, rfl⟩
                    rw [← hp'] at k12 hlt2
                    have e0 : W'.cell? ⟨w.heap.size, 0, none⟩ = some (.slice (some ad) cs.length c) := cell_of_row _ _ 0 _ _ _ ((hbx.block _ (by omega)).trans HSW.out.q0)
                    have r2 := (hbx.block _ (by omega)).trans HSW.out.q2
                    have e2 : W'.cell? ⟨w.heap.size + 1 + 1, 0, none⟩ = some (.bool false) := cell_of_row _ _ 0 _ _ _ r2
                    have f2' : W'.frozen? ⟨w.heap.size + 1 + 1, 0, none⟩ = false := frozen_of_row _ _ _ _ _ r2
                    have e12 : W'.cell? ⟨W.heap.size, 0, none⟩ = some (.int .i64 p') := cell_of_row _ _ 0 _ _ _ k12
                    have f12 : W'.frozen? ⟨W.heap.size, 0, none⟩ = false := frozen_of_row _ _ _ _ _ k12
                    obtain ⟨ad2, hAd2, _, hca2⟩ := (HA.out.below hbw).at_ hlt2
                    cases hAd2
                    obtain ⟨c0, c1⟩ := hca2.two
                    have hpx : pre' ++ [x'] <+: places cs.length 0 → cs[p'] = cs[x'.1] := fun h => by have := prefix_last h; simp [hp', this]
                    obtain ⟨y2, hy2⟩ : ∃ y, y = cs[p'] := ⟨_, rfl⟩
                    obtain ⟨z2, hz2⟩ : ∃ z, z = cs[x'.1] := ⟨_, rfl⟩
                    rw [← hy2] at c0 c1 hpx
                    rw [← hz2] at hpx ⊢
                    have HPX2 := Lib.hid hpx
                    have i1' : (p':Int) < (cs.length:Int) := by omega
                    have i2' : (0:Int) ≤ (p':Int) := by omega
                    have kw' : IntKind.i64.wrap ((p':Int) + 1) = (p':Int) + 1 := IntWalk.i64_in _ (by omega)
                    have HK12 := Lib.hid k12
                    have HB2 := Lib.hid hB2
                    have HPP := Lib.hid hp'
                    have hBX2 : Bs0 + 1 ≤ W.heap.size := by omega
                    clear hpx hca2 hp' hy2 hz2 k12 hB2 hbw hbx r2
                    rw [htn]
                    clear HTN htn hS2
                    simp only [List.setIfInBounds_toArray, List.set_cons_succ, List.set_cons_zero]
                    have hne2 : ∀ W', (binOp .neq 29 (.agg #[.int .i64 y2.slot, .string y2.value]) (.agg #[.int .i64 z2.slot, .string z2.value])).run Try.prog W' = .ok (.bool (!decide (y2 = z2))) W' := fun W' => neq_cell y2 z2 W'
                    clear hne d0 d4 d2 f2 d9 f9 d4' d1' d9' dE
                    by_cases hq' : y2 = z2
                    · rw [decide_eq_true hq'] at hne2
                      gi_wp2_with fail
                      exact ⟨(KeepsOthers.setCell _ _ _).from _, (Mid.refl W').setCell (.inr hBX2) _, by rw [heap_setCell_same W' W.heap.size 0 _ _ _ HK12.out, List.length_append, ← HPP.out]; rfl, HB2.out.setCell (by rw [HVS.out]; exact Nat.le_refl _) _⟩
                    · rw [decide_eq_false hq'] at hne2
                      gi_wp2_with fail
                      exact ⟨(KeepsOthers.setCell _ _ _).from _, rfl, fun h => hq' (HPX2.out h)⟩
                  case stopn =>
                    rintro c pre' W' hSp h
                    exact absurd hSp h.2
                  case donen =>
                    rintro ys W' rfl ⟨k12, hB2⟩
                    have hlN : (places cs.length 0).length = cs.length := by simp [places]
                    rw [hlN] at k12
                    have hq0 : w.heap.size + 2 < X0.heap.size := (Array.getElem?_eq_some_iff.1 HST.out.q2).1
                    have hbx : Below X0.heap.size W W' := hBV.trans (hB2.mono (by omega))
                    have e0 : W'.cell? ⟨w.heap.size, 0, none⟩ = some (.slice (some ad) cs.length c) := cell_of_row _ _ 0 _ _ _ ((hbx.block _ (by omega)).trans HSW.out.q0)
                    have e12 : W'.cell? ⟨W.heap.size, 0, none⟩ = some (.int .i64 (cs.length : Nat)) := cell_of_row _ _ 0 _ _ _ k12
                    have hfin : ownPostG X1.heap.size (Mid lo (Bs0 + 1)) (fun pre W => W.heap[X0.heap.size]? = some (.cells #[.int .i64 (pre.length : Nat)] 3 (0, 0)) ∧ Below X0.heap.size X1 W) (fun c pre W => c = .ret ∧ ¬ (pre <+: places cs.length 0)) (pre ++ [x]) W .normal { tmps := tn, defers := [] } W' :=
                      ⟨HKV.out.trans (KeepsFrom.of_below hB2), Mid.of_below (hbx.mono (by omega)), ((hB2.block _ (by omega)).trans HN9.out).trans (by rw [List.length_append, ← HP.out, HP2.out]; rfl), HBW.out.trans hbx⟩
                    have HFIN := Lib.hid hfin
                    clear hfin k12 hB2 hbx hlN
                    clear hne d0 d4 d2 f2 d9 f9 d4' d1' d9' dE hS2
                    rw [htn]
                    clear HTN htn
                    gi_wp2_with fail
                    exact HFIN.out
                · obtain ⟨q, hqq⟩ : ∃ q : Int, (p:Int) + 1 = q := ⟨_, rfl⟩
                  have kw2 : IntKind.i64.wrap ((p:Int) + 1) = q := kw.trans hqq
                  have hq2 : ¬ q = 2 := by omega
                  have hq3 : decide (q = 2) = false := decide_eq_false hq2
                  rw [hqq] at d4' d1' d9'
                  have HQ := Lib.hid hqq
                  clear kw hqq h2
                  gi_wp2_with fail
                  exact ⟨(KeepsOthers.setCell _ _ _).from _, (Mid.refl W).setCell (.inr hBX) _, by rw [heap_setCell_same W X0.heap.size 0 _ _ _ HK9.out, List.length_append, ← HP.out, ← HQ.out]; rfl, HBW.out.setCell (Nat.le_refl _) _⟩
              · rw [decide_eq_false hq] at hne
                gi_wp2_with fail
                exact ⟨(KeepsOthers.setCell _ _ _).from _, rfl, fun h => hq (HPX.out h)⟩
            case done2 =>
              rintro D2 ys W hD rfl ⟨k9, hB⟩ hK
              have hst := HST.out.below (HBX.out.trans hB)
              have hlN : (places cs.length 0).length = cs.length := by simp [places]
              rw [hlN] at k9
              have d9 : W.cell? ⟨X0.heap.size, 0, none⟩ = some (.int .i64 (cs.length : Nat)) := cell_of_row _ _ 0 _ _ _ k9
              clear k9 hlN
              have hTX : T < X0.heap.size := (Array.getElem?_eq_some_iff.1 HST.out.q4).1
              have d0 : W.cell? ⟨w.heap.size, 0, none⟩ = some (.slice A cs.length c) := cell_of_row _ _ 0 _ _ _ hst.q0
              have d4 : W.cell? ⟨T, 0, none⟩ = some (.int .i64 2) := cell_of_row _ _ 0 _ _ _ hst.q4
              obtain ⟨X2, hX2⟩ : ∃ X2, X2 = W.alloc (.cells #[.int .i64 3] 3) := ⟨_, rfl⟩
              have hbX2 : Below W.heap.size W X2 := by rw [hX2]; exact (Below.refl _ _).alloc (Nat.le_refl _) _
              have hst2' := hst.below hbX2
              have hst2 : EachSt w X2 A c cs stop Bs0 lo E W.heap.size 3 := ⟨hst2'.q0, hst2'.q1, hst2'.q2, hst2'.q3, by rw [hX2]; exact heap_alloc_new _ _, hst2'.hE, hst2'.hb, hst2'.h1, hst2'.h2, by have := hst.h3; have := (Array.getElem?_eq_some_iff.1 hst.q4).1; omega⟩
              have hlt0 := (Array.getElem?_eq_some_iff.1 hK).1
              have hK2 : X2.heap[D2]? = some (.deferred (some [])) := (hbX2.block _ hlt0).trans hK
              have hbB := HBX.out.trans hB
              have hK0 : X2.heap[D0]? = some (.deferred (some [])) := (hbX2.block _ (by have := hbB.size; have := (Array.getElem?_eq_some_iff.1 HD0.out).1; omega)).trans ((hbB.block _ (Array.getElem?_eq_some_iff.1 HD0.out).1).trans HD0.out)
              have HLT0_2 : Hid (D0 < D2) := by show _ < _; have := HBX.out.size; have := (Array.getElem?_eq_some_iff.1 HD0.out).1; omega
              clear hbB HD0
              have HD0 : Hid (X2.heap[D0]? = some (.deferred (some []))) := hK0
              clear hK0
              have hbB := HBX.out.trans hB
              have hK1 : X2.heap[D1]? = some (.deferred (some [])) := (hbX2.block _ (by have := hbB.size; have := (Array.getElem?_eq_some_iff.1 HD1.out).1; omega)).trans ((hbB.block _ (Array.getElem?_eq_some_iff.1 HD1.out).1).trans HD1.out)
              have HLT1_2 : Hid (D1 < D2) := by show _ < _; have := HBX.out.size; have := (Array.getElem?_eq_some_iff.1 HD1.out).1; omega
              clear hbB HD1
              have HD1 : Hid (X2.heap[D1]? = some (.deferred (some []))) := hK1
              clear hK1
              have HGE2 : Hid (w.heap.size + 3 ≤ D2) := by show _ ≤ _; have := (Array.getElem?_eq_some_iff.1 HST.out.q2).1; omega
              have HX2 := Lib.hid hX2
              have HD2 : Hid (X2.heap[D2]? = some (.deferred (some []))) := hK2
              have HST := Lib.hid hst2
              clear hX2 hbX2 hst2 hst2' hst hK2 hK hB HS1 HX1 HBX HN1 HL1 hl1 hqs hBX hS hlt0
              rw [htm]
              clear HTM htm
              go_wp2_with fail
              rw [← HX2.out]
              clear HX2 d0 d4 d9 t0 k3 hTX
              generalize W.heap.size = T at *
              generalize X2 = X0 at *
              rw [rounds_succ]
              have t0 : X0.cell? ⟨T, 0, none⟩ = some (.int .i64 3) := cell_of_row _ _ 0 _ _ _ HST.out.q4
              go_wp2_with fail
              refine (works04 X0).mono ?_
              rintro e X5 ⟨rfl, hb5⟩
              have r2 := (hb5.block _ (Array.getElem?_eq_some_iff.1 HST.out.q2).1).trans HST.out.q2
              have d2 : X5.cell? ⟨w.heap.size + 1 + 1, 0, none⟩ = some (.bool false) := cell_of_row _ _ 0 _ _ _ r2
              have f2 : X5.frozen? ⟨w.heap.size + 1 + 1, 0, none⟩ = false := frozen_of_row _ _ _ _ _ r2
              have HB5 := Lib.hid hb5
              have HR2 := Lib.hid r2
              clear hb5 r2
              dsimp only
              go_wp2_with fail
              have hB5 := HB5.out
              have hsz0 := HST.out.hb.size
              refine leaves_marks (B := w.heap.size + 3) [D2, D1, D0] ?_ ?_ ?_
              · intro D hD
                have hlt : ∀ E : Nat, X0.heap[E]? = some (Obj.deferred (some [])) → (X5.setCell ⟨w.heap.size + 1 + 1, 0, none⟩ (.bool true)).heap[E]? = some (Obj.deferred (some [])) := fun E hE =>
                  ((KeepsOthers.setCell X5 ⟨w.heap.size + 1 + 1, 0, none⟩ (.bool true)).from 0).same _ _ (Nat.zero_le _) ((hB5.block _ (Array.getElem?_eq_some_iff.1 hE).1).trans hE) rfl
                simp only [List.mem_cons, List.not_mem_nil, or_false] at hD
                rcases hD with rfl | rfl | rfl
                · exact ⟨hlt _ HD2.out, HGE2.out⟩
                · exact ⟨hlt _ HD1.out, HGE1.out⟩
                · exact ⟨hlt _ HD0.out, HGE0.out⟩
              · have h1 := HLT0_1.out
                have h2 := HLT0_2.out
                have h3 := HLT1_2.out
                simp only [List.nodup_cons, List.mem_cons, List.not_mem_nil, or_false, not_or, not_false_iff, List.nodup_nil, and_true]
                omega
              · intro w' hw'
                refine ⟨_, results_cell1 rfl _ _ (w.heap.size + 1 + 1) (.bool true) rfl aggBool ?_, rfl, ?_⟩
                · rw [hw'.cell (p := ⟨w.heap.size + 1 + 1, 0, none⟩) (by simp)]
                  exact World.cell?_setCell_same' _ _ _ (by simp [d2])
                · exact ((HST.out.hb.trans (hB5.mono hsz0)).setCell (p := ⟨w.heap.size + 1 + 1, 0, none⟩) (by simp; omega) _).trans (hw'.mono (by omega))
            case stop2 =>
              rintro D c pre W hD hSp h
              exact absurd hSp h.2
      case stop0 =>
        rintro D c pre W hD hSp h
        exact absurd hSp h.2

theorem each04_law (W : World) (A : Option Addr) (c n : Nat) (xs : List Cell) (hn : n = xs.length) (_ : n ≤ c) (hrd : Rd Cell.cells 2 W W.heap.size A xs) (hwf : ∀ o ∈ xs, o.wf) (hsz : xs.length * 24 ≤ 140737488351232) (s : Int) (_ : I64 s) :
    Calls Try.prog 3 #[.slice A n c, .int .i64 s] W fun e w' => e = .returned (.bool true) ∧ Below W.heap.size W w' :=
  each04_calls A c n xs s hn W (by omega) (fun o ho => (hwf o ho).value) hrd
end Go.Proofs.Ytdkdddkhfonjmaa
