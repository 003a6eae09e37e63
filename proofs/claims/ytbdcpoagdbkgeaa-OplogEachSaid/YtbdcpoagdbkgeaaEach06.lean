/- OplogEach answers true. Conditions: sizes within the form's own reach. -/
import Derived.Test.YtbdcpoagdbkgeaaResCell
import Derived.Test.YtbdcpoagdbkgeaaPlain
import Derived.Test.YtbdcpoagdbkgeaaWorks06
import Derived.Test.YtbdcpoagdbkgeaaBookPlain
import Derived.Test.YtbdcpoagdbkgeaaStore
import Derived.LoopNIn
import Derived.Lib.MinMax
import Derived.Test.YtbdcpoagdbkgeaaQuietR
import Derived.Laws.EntriesVeiled
namespace Go.Proofs.Ytbdcpoagdbkgeaa
open Go.RowKit Go.Shelf
set_option linter.unusedVariables false
set_option linter.unusedSimpArgs false
attribute [local go_sem] Oper.semAt_some

theorem run_equalIn_func_nil {P : Program} (w : World) (d : Nat) (t : TypeId) {a : Array TypeId} {b : Array TypeId} {c : Bool} (fn : Fn) (first cap : Array Value) (h : P.underlying t = some (.func a b c)) : (Op.equalIn (d + 1) t (.func fn first cap) .nilFunc).run P w = .ok false w := by
  simp [Op.equalIn, run_underlying h]
theorem run_eql_func_nil {P : Program} (w : World) (t : TypeId) {a : Array TypeId} {b : Array TypeId} {c : Bool} (fn : Fn) (first cap : Array Value) (h : P.underlying t = some (.func a b c)) : (binOp .eql t (.func fn first cap) .nilFunc).run P w = .ok (.bool false) w := by
  simp only [binOp]
  simp [Op.equal, Op.maxDepth, run_equalIn_func_nil w 9999 t fn first cap h]

theorem EachE.mid {w w' : World} {base : Nat} {f : Int} {xs : List Entry} {v : Value} (h : EachE w base f xs v) (hm : Mid base w.heap.size w w') : EachE w' base f xs v := by
  obtain ⟨Bf, Bs, A, c, e, h1, h2, h3, h4, h5, h6, h7⟩ := h
  exact ⟨Bf, Bs, A, c, e, h1, h2, Nat.lt_of_lt_of_le h3 hm.size, (hm.cell (p := ⟨Bf, 0, none⟩) h1 (Nat.lt_trans h2 h3)).trans h4, (hm.cell (p := ⟨Bs, 0, none⟩) (Nat.le_trans h1 (Nat.le_of_lt h2)) h3).trans h5, h6.mid h7 ⟨hm.size, fun k a b => hm.block k a (by omega)⟩, h7⟩
theorem wp_act {F : Fence} {n : Nat} {P : Program} {c : Code} {Q : Exit → Act → World → Prop} {tmps : Array Value} {ds : List Deferred} {w : World} (h : ∀ tm, tm = tmps → c.wpIn F n P Q { tmps := tm, defers := ds } w) : c.wpIn F n P Q { tmps := tmps, defers := ds } w := h _ rfl
theorem func_box_inj2 {f : Fn} {a b c d : Nat} (h : Value.func f #[] #[.pointer (some ⟨a, 0, none⟩), .pointer (some ⟨b, 0, none⟩)] = Value.func f #[] #[.pointer (some ⟨c, 0, none⟩), .pointer (some ⟨d, 0, none⟩)]) : a = c ∧ b = d := by
  injection h with _ _ h
  simpa using h
theorem prefix_last' {N s : Nat} {pre : List (Fin N)} {x : Fin N} (h : pre ++ [x] <+: places N s) : x.1 = s + pre.length := by
  have h1 := List.prefix_iff_eq_take.1 h
  have hl := h.length_le
  simp only [List.length_append, List.length_singleton, places, List.length_drop, List.length_finRange] at hl
  rw [List.length_append, List.length_singleton, places_take' (by omega)] at h1
  obtain ⟨h2, h3⟩ := List.append_inj' h1 rfl
  simp at h3
  rw [h3]
theorem Made.addr6 {α : Type} {enc : α → List Value} {k : Nat} {e : TypeId} {base : Nat} {w : World} {A : Option Addr} {n c : Nat} {xs : List α} (h : Made enc k e base w (.slice A n c) xs) : (∀ ad, A = some ad → ∃ g, ad = ⟨g, 0, none⟩) ∧ (A = none → n = 0) := by
  rcases h.2 with ⟨hv, hn⟩ | ⟨g, cap, cur, hv, _⟩
  · injection hv with h1 h2 h3
    subst h1 h2
    exact ⟨fun ad e => (by cases e), fun _ => rfl⟩
  · injection hv with h1 h2 h3
    subst h1
    exact ⟨fun ad e => (by cases e; exact ⟨g, rfl⟩), fun e => (by cases e)⟩
/-- What stands at the head of a turn: T the turn's box, E the iterator's, G first's. -/
structure EachSt (w X : World) (A : Option Addr) (c : Nat) (xs : List Entry) (f fr stop : Int) (Bf Bs lo E G T : Nat) (turn : Int) : Prop where
  q0 : X.heap[w.heap.size]? = some (.cells #[.slice A xs.length c] 22 (0, 0))
  q1 : X.heap[w.heap.size + 1]? = some (.cells #[.int .i64 stop] 3 (0, 0))
  q2 : X.heap[w.heap.size + 2]? = some (.cells #[.bool false] 4 (0, 0))
  q3 : X.heap[E]? = some (.cells #[.func (.func 9) #[] #[.pointer (some ⟨Bf, 0, none⟩), .pointer (some ⟨Bs, 0, none⟩)]] 25 (0, 0))
  qg : X.heap[G]? = some (.cells #[.int .i64 fr] 3 (0, 0))
  q4 : X.heap[T]? = some (.cells #[.int .i64 turn] 3 (0, 0))
  hE : EachE X lo f xs (.func (.func 9) #[] #[.pointer (some ⟨Bf, 0, none⟩), .pointer (some ⟨Bs, 0, none⟩)])
  hb : Below w.heap.size w X
  h1 : w.heap.size + 2 < lo
  h2 : lo ≤ E
  hG : E < G
  h3 : G < T
theorem EachSt.below {w X Y : World} {A : Option Addr} {c : Nat} {xs : List Entry} {f fr stop : Int} {Bf Bs lo E G T : Nat} {turn : Int} (h : EachSt w X A c xs f fr stop Bf Bs lo E G T turn) (hb : Below X.heap.size X Y) : EachSt w Y A c xs f fr stop Bf Bs lo E G T turn := by
  have lt : ∀ {k : Nat} {o : Obj}, X.heap[k]? = some o → k < X.heap.size := fun e => (Array.getElem?_eq_some_iff.1 e).1
  exact ⟨(hb.block _ (lt h.q0)).trans h.q0, (hb.block _ (lt h.q1)).trans h.q1, (hb.block _ (lt h.q2)).trans h.q2, (hb.block _ (lt h.q3)).trans h.q3, (hb.block _ (lt h.qg)).trans h.qg, (hb.block _ (lt h.q4)).trans h.q4, h.hE.mid (Mid.of_below hb), h.hb.trans (hb.mono h.hb.size), h.h1, h.h2, h.hG, h.h3⟩

set_option maxRecDepth 100000 in
set_option maxHeartbeats 8000000 in
theorem each06_calls (A : Option Addr) (c n : Nat) (xs : List Entry) (f stop : Int) (hn : n = xs.length) (hf : I64 f) (w : World) (hl : xs.length * 48 ≤ 140737488355328) (ha : Rd Entry.cells 5 w w.heap.size A xs) :
    Calls Try.prog 3 #[.slice A n c, .int .i64 f, .int .i64 stop] w fun e w' => e = .returned (.bool true) ∧ Below w.heap.size w w' := by
  subst hn
  have HA := Lib.hid ha
  have HF := Lib.hid hf
  clear ha hf
  refine (callsIn_wide (n := 6)).1 ?_
  refine callsIn_of_wp_marks Try.func3 rfl trivial ?_ rfl
  simp only [Try.ntmps3, List.size_toArray, List.length_cons, List.length_nil, Nat.reduceAdd, Nat.reduceSub, Array.replicate_succ, Array.replicate_zero, List.push_toArray, List.append_toArray, List.nil_append, List.cons_append]
  refine wpIn_wide.2 ?_
  obtain ⟨W0, hW0⟩ : ∃ W0, W0 = ((w.alloc (.cells #[.slice A xs.length c] 22)).alloc (.cells #[.int .i64 stop] 3)).alloc (.cells #[.bool false] 4) := ⟨_, rfl⟩
  have hb0 : Below w.heap.size w W0 := by rw [hW0]; exact (((Below.refl _ w).alloc (Nat.le_refl _) _).alloc (by simp) _).alloc (by simp; omega) _
  have hz0 : W0.heap.size = w.heap.size + 3 := by rw [hW0]; simp
  have hr0 : Rd Entry.cells 5 W0 W0.heap.size A xs := (HA.out.below hb0).more hb0.size
  have r0 : W0.heap[w.heap.size]? = some (.cells #[.slice A xs.length c] 22 (0, 0)) := by rw [hW0, heap_alloc_old _ _ (by simp; omega), heap_alloc_old _ _ (by simp)]; exact heap_alloc_new _ _
  have r1 : W0.heap[w.heap.size + 1]? = some (.cells #[.int .i64 stop] 3 (0, 0)) := by rw [hW0, heap_alloc_old _ _ (by simp)]; exact heap_alloc2_new w _ _
  have r2 : W0.heap[w.heap.size + 2]? = some (.cells #[.bool false] 4 (0, 0)) := by rw [hW0]; have := heap_alloc_new ((w.alloc (.cells #[.slice A xs.length c] 22)).alloc (.cells #[.int .i64 stop] 3)) (.cells #[.bool false] 4); simpa using this
  have HW0 := Lib.hid hW0
  have HB0 := Lib.hid hb0
  have R0 := Lib.hid r0
  have R1 := Lib.hid r1
  have R2 := Lib.hid r2
  have HR0 := Lib.hid hr0
  have HZ0 := Lib.hid hz0
  clear hW0 hb0 r0 r1 r2 hr0 hz0
  have hl2 : xs.length ≤ maxLen := by unfold maxLen; omega
  go_wp2_with fail
  rw [← HW0.out]
  refine (copyEntries A c xs.length xs rfl W0 hl HR0.out).mono ?_
  rintro e w1 ⟨A1, c1, rfl, hm1, hb1⟩
  have k0 : w1.cell? ⟨w.heap.size, 0, none⟩ = some (.slice A xs.length c) := cell_of_row _ _ 0 _ _ _ ((hb1.block _ (by have := HZ0.out; omega)).trans R0.out)
  have HM1 := Lib.hid hm1
  have HB1 := Lib.hid hb1
  clear hm1 hb1
  dsimp only
  go_wp2_with fail
  refine (oplogEach A1 c1 xs.length f xs rfl w1 hl (Made.rd' encEntry.len HM1.out)).mono ?_
  rintro e w2 ⟨v, rfl, hE, hb2⟩
  have HE := Lib.hid hE
  obtain ⟨Bf0, Bs0, _, _, rfl, _⟩ := hE
  have HB2 := Lib.hid hb2
  have HS12 : Hid (W0.heap.size ≤ w1.heap.size) := HB1.out.size
  clear hb2
  have HMo := Lib.hid (HM1.out.below HB2.out fun j e => (HM1.out.lt j e).2)
  have hsw : w2.heap.size ≥ W0.heap.size := Nat.le_trans HS12.out HB2.out.size
  have hz0 := HZ0.out
  obtain ⟨W3, hW3⟩ : ∃ W3, W3 = w2.alloc (.cells #[.func (.func 9) #[] #[.pointer (some ⟨Bf0, 0, none⟩), .pointer (some ⟨Bs0, 0, none⟩)]] 25) := ⟨_, rfl⟩
  have hb23 : Below w2.heap.size w2 W3 := by rw [hW3]; exact (Below.refl _ _).alloc (Nat.le_refl _) _
  have hB3 : Below W0.heap.size W0 W3 := (HB1.out.trans (HB2.out.mono HS12.out)).trans (hb23.mono hsw)
  have q0 : W3.heap[w.heap.size]? = some (.cells #[.slice A xs.length c] 22 (0, 0)) := (hB3.block _ (by omega)).trans R0.out
  have q1 : W3.heap[w.heap.size + 1]? = some (.cells #[.int .i64 stop] 3 (0, 0)) := (hB3.block _ (by omega)).trans R1.out
  have q2 : W3.heap[w.heap.size + 2]? = some (.cells #[.bool false] 4 (0, 0)) := (hB3.block _ (by omega)).trans R2.out
  have q3 : W3.heap[w2.heap.size]? = some (.cells #[.func (.func 9) #[] #[.pointer (some ⟨Bf0, 0, none⟩), .pointer (some ⟨Bs0, 0, none⟩)]] 25 (0, 0)) := by rw [hW3]; exact heap_alloc_new _ _
  have hz3 : W3.heap.size = w2.heap.size + 1 := by rw [hW3]; simp
  have k0 : W3.cell? ⟨w.heap.size, 0, none⟩ = some (.slice A xs.length c) := cell_of_row _ _ 0 _ _ _ q0
  have k3 : W3.cell? ⟨w2.heap.size, 0, none⟩ = some (.func (.func 9) #[] #[.pointer (some ⟨Bf0, 0, none⟩), .pointer (some ⟨Bs0, 0, none⟩)]) := cell_of_row _ _ 0 _ _ _ q3
  have HMo3 := Lib.hid (HMo.out.below (hb23.mono (Nat.le_refl _)) fun j e => Nat.lt_of_lt_of_le (HMo.out.lt j e).2 (Nat.le_refl _))
  have HRd3 : Hid (Rd Entry.cells 5 W3 W3.heap.size A xs) := (HR0.out.below hB3).more hB3.size
  have HB03 := Lib.hid hB3
  have Q0 := Lib.hid q0
  have Q1 := Lib.hid q1
  have Q2 := Lib.hid q2
  have Q3 := Lib.hid q3
  have HW3 := Lib.hid hW3
  have HZ3 := Lib.hid hz3
  have HB23 := Lib.hid hb23
  rw [hW3] at k0 k3
  clear hb23 hB3 q0 q1 q2 q3 hz3 hW3 hz0 hsw HMo
  dsimp only
  go_wp2_with fail
  rw [← HW3.out]
  refine (sameTrue A1 A c1 c xs.length xs rfl W3 (by omega) (Made.rd' encEntry.len HMo3.out) HRd3.out).mono ?_
  rintro e W4 ⟨rfl, q4, hw4⟩
  have hb34 : Below W3.heap.size W3 W4 := by rw [hw4]; exact below_drewN (Below.refl _ _) _
  have hh4 : W4.heap = W3.heap := by rw [hw4]; rfl
  have HH4 := Lib.hid hh4
  have HB34 := Lib.hid hb34
  have k0 : W4.cell? ⟨w.heap.size, 0, none⟩ = some (.slice A xs.length c) := cell_of_row _ _ 0 _ _ _ (by rw [hh4]; exact Q0.out)
  have k3 : W4.cell? ⟨w2.heap.size, 0, none⟩ = some (.func (.func 9) #[] #[.pointer (some ⟨Bf0, 0, none⟩), .pointer (some ⟨Bs0, 0, none⟩)]) := cell_of_row _ _ 0 _ _ _ (by rw [hh4]; exact Q3.out)
  clear hw4 hb34 hh4
  have i0 : (0:Int) ≤ (xs.length:Int) := by omega
  have hnf := fun (W : World) (fn : Fn) (first cap : Array Value) => run_eql_func_nil (P := Try.prog) W 25 fn first cap Try.underlying25
  dsimp only
  go_wp2_with fail
  have HMo4 := Lib.hid (HMo3.out.below (HB34.out) fun j e => (HMo3.out.lt j e).2)
  clear HMo3
  go_loopw [9] (fun i wr => ∃ k : Nat, ∃ zs : List Entry, k ≤ xs.length ∧ i = .int .i64 k ∧ Hid (zs.length = xs.length) ∧ Hid (Made Entry.cells 5 32 W0.heap.size wr (.slice A1 xs.length c1) zs) ∧ Hid (Kept (fun j => (Value.slice A1 xs.length c1).ownBlock = some j) W4 wr)) (fun i _ => xs.length - (intOf i).toNat)
  case atStart => exact ⟨0, xs, by omega, rfl, rfl, HMo4.out, Kept.refl _ _⟩
  case round =>
    obtain ⟨k, zs, hk, rfl, hzs, hmo, hkp⟩ := hrel
    by_cases h1 : k < xs.length
    · have g1 : decide ((k:Int) < (xs.length:Int)) = true := decide_eq_true (by omega)
      have g1b : decide (k < xs.length) = true := decide_eq_true h1
      have i1 : (k:Int) < (xs.length:Int) := by omega
      have i2 : (0:Int) ≤ (k:Int) := by omega
      have k1 : IntKind.i64.wrap ((k:Int) + 1) = (k:Int) + 1 := IntWalk.i64_in _ (by omega)
      have hm0 := hmo.out
      obtain ⟨ad, hAd, hx1, hx2⟩ := (Made.rd' encEntry.len hm0).at_ (i := k) (by rw [hzs.out]; exact h1)
      clear hx1 hx2
      obtain ⟨g, rfl⟩ := (hm0.addr6).1 ad hAd
      subst hAd
      have hsp := hm0.stepped encEntry hzs.out h1 ⟨-9, 0, ⟨0, 0, ⟨#[]⟩⟩⟩
      have hmo' : Made Entry.cells 5 32 W0.heap.size wr (.slice (some ⟨g, 0, none⟩) zs.length c1) zs := by rw [hzs.out]; exact hm0
      have hput := hmo'.put encEntry.len (by omega) (show k < zs.length by rw [hzs.out]; exact h1) ⟨-9, 0, ⟨0, 0, ⟨#[]⟩⟩⟩
      rw [List.length_set, hzs.out] at hput
      have HPT := Lib.hid hput
      have HZS2 : Hid ((zs.set k ⟨-9, 0, ⟨0, 0, ⟨#[]⟩⟩⟩).length = xs.length) := by show _ = _; rw [List.length_set]; exact hzs.out
      have hkk : Kept (fun j => (Value.slice (some ⟨g, 0, none⟩) xs.length c1).ownBlock = some j) W4 (putCells wr g (k * 5) [.int .i64 (-9), .int .i64 0, .int .i64 0, .int .i64 0, .string ⟨#[]⟩]) := hkp.out.trans (putCells_kept.mono fun j _ e => by rw [e]; rfl)
      have HKK := Lib.hid hkk
      simp only [Stepped, Entry.cells, Op.cells, Nat.add_zero, Nat.zero_add, Nat.reduceAdd] at hsp
      obtain ⟨⟨_, _⟩, _, ⟨_, _⟩, _, ⟨_, _⟩, _, ⟨_, _⟩, _, ⟨_, _⟩, _, _⟩ := hsp
      clear hm0 hmo' hput hkk hmo hkp
      go_wp2_with fail
      go_roundw
      case rel => exact ⟨k + 1, _, by omega, by go_num, HZS2, HPT.out, HKK.out⟩
      case measure => simp [intOf]; omega
    · have g1 : decide ((k:Int) < (xs.length:Int)) = false := decide_eq_false (by omega)
      have g1b : decide (k < xs.length) = false := decide_eq_false h1
      obtain ⟨fr, hmx⟩ : ∃ fr : Int, max f 1 = fr := ⟨_, rfl⟩
      obtain ⟨s, hs⟩ : ∃ s : Nat, s = (max f 1 - 1).toNat := ⟨_, rfl⟩
      have hfs : fr = (s:Int) + 1 := by omega
      have HFS := Lib.hid hfs
      have HSF := Lib.hid hs
      have hfr2 : fr ≤ 9223372036854775807 := by have := HF.out.2; omega
      have HFR2 := Lib.hid hfr2
      clear hs hfs hfr2
      have hlo : ∀ j, (Value.slice A1 xs.length c1).ownBlock = some j → W0.heap.size ≤ j ∧ j < w1.heap.size := fun j e => HM1.out.lt j e
      have hz0 := HZ0.out
      have hz3 := HZ3.out
      have hs2 := HB2.out.size
      have hs12 := HS12.out
      have hs34 := HB34.out.size
      have hK := hkp.out
      have hbk : ∀ j, j < W4.heap.size → (j < W0.heap.size ∨ w1.heap.size ≤ j) → wr.heap[j]? = W4.heap[j]? := fun j a b => hK.block j a (fun e => by have := hlo j e; omega)
      have hst : EachSt w ((wr.alloc (.cells #[.int .i64 fr] 3)).alloc (.cells #[.int .i64 0] 3)) A c xs f fr stop Bf0 Bs0 w1.heap.size w2.heap.size wr.heap.size (wr.heap.size + 1) 0 := by
        have hsz := hK.size
        have hbX : Below wr.heap.size wr ((wr.alloc (.cells #[.int .i64 fr] 3)).alloc (.cells #[.int .i64 0] 3)) := ((Below.refl _ _).alloc (Nat.le_refl _) _).alloc (by simp) _
        have hq : ∀ j, j < W4.heap.size → (j < W0.heap.size ∨ w1.heap.size ≤ j) → ((wr.alloc (.cells #[.int .i64 fr] 3)).alloc (.cells #[.int .i64 0] 3)).heap[j]? = W4.heap[j]? := fun j a b => (hbX.block j (by omega)).trans (hbk j a b)
        have hh := HH4.out
        refine ⟨(hq _ (by omega) (by omega)).trans (by rw [hh]; exact Q0.out), (hq _ (by omega) (by omega)).trans (by rw [hh]; exact Q1.out), (hq _ (by omega) (by omega)).trans (by rw [hh]; exact Q2.out), (hq _ (by omega) (by omega)).trans (by rw [hh]; exact Q3.out), ?_, heap_alloc2_new _ _ _, ?_, ?_, by omega, by omega, by omega, by omega⟩
        · rw [heap_alloc_old _ _ (by simp)]; exact heap_alloc_new _ _
        · refine HE.out.mid ⟨by simp; omega, fun j a b => ?_⟩
          refine (hq j (by omega) (by omega)).trans ?_
          rw [hh]
          exact HB23.out.block j b
        · have hb4 : Below w.heap.size w W4 := HB0.out.trans (((HB03.out.trans (HB34.out.mono HB03.out.size))).mono HB0.out.size)
          exact ((Kept.below_n hb4 (Nat.le_refl _) hK (fun j e => by have := hlo j e; omega)).alloc (by have := hb4.size; omega) _).alloc (by have := hb4.size; simp; omega) _
      have HST := Lib.hid hst
      clear hst hbk hK hlo
      go_wp2_with fail
      generalize (wr.alloc (.cells #[.int .i64 fr] 3)).alloc (.cells #[.int .i64 0] 3) = X0 at *
      generalize wr.heap.size + 1 = T at *
      generalize wr.heap.size = G at *
      generalize w1.heap.size = lo at *
      generalize w2.heap.size = E at *
      clear hmx
      refine wp_loop_rounds 4 ?_
      rw [rounds_succ]
      have t0 : X0.cell? ⟨T, 0, none⟩ = some (.int .i64 0) := cell_of_row _ _ 0 _ _ _ HST.out.q4
      obtain ⟨X1, hX1⟩ : ∃ X1, X1 = X0.alloc (.cells #[.int .i64 0] 3) := ⟨_, rfl⟩
      have hbX : Below X0.heap.size X0 X1 := by rw [hX1]; exact (Below.refl _ _).alloc (Nat.le_refl _) _
      have hs1 := HST.out.below hbX
      have hn1 : X1.heap[X0.heap.size]? = some (.cells #[.int .i64 0] 3 (0, 0)) := by rw [hX1]; exact heap_alloc_new _ _
      have hl1 : X1.heap.size = X0.heap.size + 1 := by rw [hX1]; simp
      have k3 : X1.cell? ⟨E, 0, none⟩ = some (.func (.func 9) #[] #[.pointer (some ⟨Bf0, 0, none⟩), .pointer (some ⟨Bs0, 0, none⟩)]) := cell_of_row _ _ 0 _ _ _ hs1.q3
      have HX1 := Lib.hid hX1
      have HBX := Lib.hid hbX
      have HS1 := Lib.hid hs1
      have HN1 := Lib.hid hn1
      have HL1 := Lib.hid hl1
      rw [hX1] at k3
      clear hX1 hbX hs1 hn1 hl1
      go_wp2_with fail
      rw [← HX1.out]
      refine (wpIn_wide (n := 6)).1 ?_
      refine wp_act ?_
      intro tm htm
      have HTM := Lib.hid htm
      obtain ⟨Bf', Bs', heq, hBs1, hBs2, hS⟩ := HS1.out.hE.stops HF.out (by omega)
      obtain ⟨rfl, rfl⟩ := func_box_inj2 heq
      clear heq
      rw [← HSF.out] at hS
      have hl1 := HL1.out
      have hqs := HST.out.hE
      have hBX : Bs0 < X0.heap.size := by
        obtain ⟨Bf, B, _, _, hv, _, hB1, hB, _⟩ := hqs
        have := func_box_inj2 hv
        omega
      refine wpIn_rangeFunc_ownH rfl (by omega) (gf := 9) (lb := #[.pointer (some ⟨Bf0, 0, none⟩), .pointer (some ⟨Bs0, 0, none⟩)]) (by rw [htm]; rfl) trivial (enters_of Try.func9 (by kernel_rfl) rfl)
        (hS _ X1 (Below.refl _ _)) midK_t (midK_b (by omega)) (Below.refl _ _) (fun _ => rfl)
        (fun pre W => W.heap[X0.heap.size]? = some (.cells #[.int .i64 (pre.length : Nat)] 3 (0, 0)) ∧ Below X0.heap.size X1 W)
        (fun c pre W => c = .ret ∧ ¬ (pre <+: places xs.length s))
        ?hI0 ?hIx0 ?h00
        (fun x a' W => ∃ Bx, X1.heap.size ≤ Bx ∧ W.heap[Bx]? = some (.cells #[.int .i64 xs[x.1].client, .int .i64 xs[x.1].number, .int .i64 xs[x.1].op.kind, .int .i64 xs[x.1].op.slot, .string xs[x.1].op.value] 32 (0, 0)) ∧ a' = { tmps := (((tm.setIfInBounds 58 (.int .i64 ((x.1:Int) + 1))).setIfInBounds 59 (.agg #[.int .i64 xs[x.1].client, .int .i64 xs[x.1].number, .int .i64 xs[x.1].op.kind, .int .i64 xs[x.1].op.slot, .string xs[x.1].op.value])).setIfInBounds 13 (.int .i64 ((x.1:Int) + 1))).setIfInBounds 14 (.pointer (some ⟨Bx, 0, none⟩)), defers := [] })
        ?hAx0 ?assign0 ?body0 ?done0 ?stop0
      case hI0 => exact OwnFrom.and (row_ownC _ _ (fun pre : List (Fin xs.length) => #[.int .i64 (pre.length : Nat)]) _) (ownFrom_below (by omega) (by omega))
      case hIx0 => intro c s X Y row hs hg hr; exact hs
      case h00 => exact ⟨HN1.out, Below.refl _ _⟩
      case hAx0 => intro x a' u X Y row hs hg hr; obtain ⟨Bx, h1, h2, h3⟩ := hs; exact ⟨Bx, h1, row_ownC _ Bx (fun (_ : Unit) => #[.int .i64 xs[x.1].client, .int .i64 xs[x.1].number, .int .i64 xs[x.1].op.kind, .int .i64 xs[x.1].op.slot, .string xs[x.1].op.value]) _ u X Y row h2 hg hr, h3⟩
      case assign0 =>
        rintro l pre x W K ⟨k9, hB⟩ hK
        dsimp only [encE]
        rw [htm]
        gi_wp2
        have hsW := hB.size
        exact hK _ _ ((KeepsOthers.alloc _ _).from _) ((Mid.refl W).alloc (by omega) _) ⟨(heap_alloc_old _ _ (Array.getElem?_eq_some_iff.1 k9).1).trans k9, hB.alloc (by omega) _⟩ ⟨W.heap.size, hsW, heap_alloc_new _ _, by rw [htm]; rfl⟩
      case body0 =>
        rintro l pre x a' W hl ⟨r, hr⟩ ⟨k9, hB⟩ ⟨Bx, hBx, hrow, rfl⟩ hlt
        have HRL := Lib.hid hr
        have hst := HST.out.below (HBX.out.trans hB)
        have HSW := Lib.hid hst
        obtain ⟨p, hp⟩ : ∃ p, p = pre.length := ⟨_, rfl⟩
        rw [← hp] at k9 hlt
        have d0 : W.cell? ⟨w.heap.size, 0, none⟩ = some (.slice A xs.length c) := cell_of_row _ _ 0 _ _ _ hst.q0
        have d4 : W.cell? ⟨T, 0, none⟩ = some (.int .i64 0) := cell_of_row _ _ 0 _ _ _ hst.q4
        have dg : W.cell? ⟨G, 0, none⟩ = some (.int .i64 fr) := cell_of_row _ _ 0 _ _ _ hst.qg
        have d2 : W.cell? ⟨w.heap.size + 1 + 1, 0, none⟩ = some (.bool false) := cell_of_row _ _ 0 _ _ _ hst.q2
        have f2 : W.frozen? ⟨w.heap.size + 1 + 1, 0, none⟩ = false := frozen_of_row _ _ _ _ _ hst.q2
        have d9 : W.cell? ⟨X0.heap.size, 0, none⟩ = some (.int .i64 p) := cell_of_row _ _ 0 _ _ _ k9
        have f9 : W.frozen? ⟨X0.heap.size, 0, none⟩ = false := frozen_of_row _ _ _ _ _ k9
        have hTX : T < X0.heap.size := (Array.getElem?_eq_some_iff.1 HST.out.q4).1
        have hoth : ∀ (b : Nat) (v u : Value), b < X0.heap.size → W.cell? ⟨b, 0, none⟩ = some v → ∀ k, ((W.drewN k).setCell ⟨X0.heap.size, 0, none⟩ u).cell? ⟨b, 0, none⟩ = some v := fun b v u hb h k => (World.cell?_setCell_other _ _ _ _ (fun e => by injection e with e1; omega)).trans h
        have d4' := hoth T _ (.int .i64 ((p:Int) + 1)) hTX d4
        have d1' := hoth (w.heap.size + 1) _ (.int .i64 ((p:Int) + 1)) (Array.getElem?_eq_some_iff.1 HST.out.q1).1 (show W.cell? ⟨w.heap.size + 1, 0, none⟩ = some (.int .i64 stop) from cell_of_row _ _ 0 _ _ _ hst.q1)
        have d9' : ∀ k, ((W.drewN k).setCell ⟨X0.heap.size, 0, none⟩ (.int .i64 ((p:Int) + 1))).cell? ⟨X0.heap.size, 0, none⟩ = some (.int .i64 ((p:Int) + 1)) := fun k => World.cell?_setCell_same' _ _ _ (by simp [d9])
        obtain ⟨q, hq⟩ : ∃ q : Nat, q = x.1 := ⟨_, rfl⟩
        have hqN : q < xs.length := by rw [hq]; exact x.2
        obtain ⟨y, hy⟩ : ∃ y, y = xs[x.1] := ⟨_, rfl⟩
        have hyq : xs[q] = y := by subst hq; exact hy.symm
        obtain ⟨ad, hAd, _, hca⟩ := (HA.out.below hst.hb).at_ hqN
        rw [hyq] at hca
        obtain ⟨c0, c1, c2, c3, c4⟩ := hca.five
        obtain ⟨pl, hpl⟩ : ∃ pl : Int, pl = (x.1:Int) + 1 := ⟨_, rfl⟩
        rw [← hy] at hrow ⊢
        rw [← hpl]
        have b0 : W.cell? ⟨Bx, 0, none⟩ = some (.int .i64 y.client) := cell_of_row _ _ 0 _ _ _ hrow
        have b1 : W.cell? ⟨Bx, 1, none⟩ = some (.int .i64 y.number) := cell_of_row _ _ 1 _ _ _ hrow
        have b2 : W.cell? ⟨Bx, 2, none⟩ = some (.int .i64 y.op.kind) := cell_of_row _ _ 2 _ _ _ hrow
        have b3 : W.cell? ⟨Bx, 3, none⟩ = some (.int .i64 y.op.slot) := cell_of_row _ _ 3 _ _ _ hrow
        have b4 : W.cell? ⟨Bx, 4, none⟩ = some (.string y.op.value) := cell_of_row _ _ 4 _ _ _ hrow
        have hplq : pl = (q:Int) + 1 := by rw [hpl, hq]
        have hfs := HFS.out
        obtain ⟨m0, hm0⟩ : ∃ m0 : Int, m0 = (xs.length:Int) - p := ⟨_, rfl⟩
        have kS : IntKind.i64.wrap ((xs.length:Int) - p) = m0 := by rw [hm0]; exact IntWalk.i64_in _ (by omega)
        have i1 : (q:Int) < (xs.length:Int) := by omega
        have i2 : (0:Int) ≤ (q:Int) := by omega
        have kw : IntKind.i64.wrap ((p:Int) + 1) = (p:Int) + 1 := IntWalk.i64_in _ (by omega)
        have kP : IntKind.i64.wrap (pl - 1) = (q:Int) := by rw [show pl - 1 = (q:Int) by omega]; exact IntWalk.i64_in _ (by omega)
        have he := neq_entry y y
        have hge := guard_entry
        have hpx : pre ++ [x] <+: places xs.length s → q = s + p := fun h => by have := prefix_last' h; omega
        have HPX := Lib.hid hpx
        have HK9 := Lib.hid k9
        have HBW := Lib.hid hB
        have HP := Lib.hid hp
        have HPL := Lib.hid hplq
        have HM0 := Lib.hid hm0
        have HFR := HFR2.out
        subst hAd
        rw [htm]
        clear HTM htm hS
        simp only [List.setIfInBounds_toArray, List.set_cons_succ, List.set_cons_zero]
        rw [show decide (y = y) = true from decide_eq_true rfl] at he
        by_cases hc : q = s + p
        · have hgt : ¬ m0 < fr := by omega
          have hgt2 : decide (m0 < fr) = false := decide_eq_false hgt
          have kA : IntKind.i64.wrap (fr + (p:Int)) = pl := by rw [show fr + (p:Int) = pl by omega]; exact IntWalk.i64_in _ (by omega)
          have HQS : Hid (q = s + p) := hc
          clear hpx hca hst hp hy hyq k9 hB hoth hplq hm0 hfs HFR hc hpl hrow hq
          gi_wp2_with fail
          refine wpIn_region_quietR (by kernel_rfl) (by kernel_rfl) (by kernel_rfl) ?_
          repeat (gi_big_quiet_step (fail))
          refine wpQuietIn_nil ?_
          rintro _ ⟨nq, rfl⟩
          by_cases h2 : (p:Int) + 1 = 2
          all_goals
            gi_wp2_with fail
            exact ⟨((KeepsOthers.drewN W nq).trans (KeepsOthers.setCell _ _ _)).from _, (show Mid lo (Bs0 + 1) W (W.drewN nq) from ⟨Nat.le_refl _, fun _ _ _ => rfl⟩).setCell (p := ⟨X0.heap.size, 0, none⟩) (.inr hBX) _, by rw [heap_setCell_same (W.drewN nq) X0.heap.size 0 _ _ _ HK9.out, List.length_append, ← HP.out]; first | rfl | (have hp1 : p = 1 := (by omega); subst hp1; rfl), (below_drewN HBW.out nq).setCell (Nat.le_refl _) _⟩
        · by_cases hgt : m0 < fr
          · have hgt2 : decide (m0 < fr) = true := decide_eq_true hgt
            have HQS : Hid (¬ q = s + p) := hc
            clear hpx hca hst hp hy hyq k9 hB hoth hplq hm0 hfs HFR hc hpl hrow hq
            gi_wp2_with fail
            refine wpIn_region_quietR (by kernel_rfl) (by kernel_rfl) (by kernel_rfl) ?_
            repeat (gi_big_quiet_step (fail))
            refine wpQuietIn_nil ?_
            rintro _ ⟨nq, rfl⟩
            gi_wp2_with fail
            exact ⟨((KeepsOthers.drewN W nq).trans (KeepsOthers.setCell _ _ _)).from _, rfl, fun h => HQS.out (HPX.out h)⟩
          · have hgt2 : decide (m0 < fr) = false := decide_eq_false hgt
            obtain ⟨v, hv⟩ : ∃ v : Int, v = fr + p := ⟨_, rfl⟩
            have kA : IntKind.i64.wrap (fr + (p:Int)) = v := by rw [hv]; exact IntWalk.i64_in _ (by omega)
            have hv1 : ¬ pl = v := by omega
            have hv2 : (pl == v) = false := by simpa using hv1
            have hv3 : (pl != v) = true := by simpa using hv1
            have hv4 : decide (pl = v) = false := decide_eq_false hv1
            have HQS : Hid (¬ q = s + p) := hc
            clear hpx hca hst hp hy hyq k9 hB hoth hplq hm0 hfs HFR hc hpl hrow hq hv
            gi_wp2_with fail
            refine wpIn_region_quietR (by kernel_rfl) (by kernel_rfl) (by kernel_rfl) ?_
            repeat (gi_big_quiet_step (fail))
            refine wpQuietIn_nil ?_
            rintro _ ⟨nq, rfl⟩
            gi_wp2_with fail
            exact ⟨((KeepsOthers.drewN W nq).trans (KeepsOthers.setCell _ _ _)).from _, rfl, fun h => HQS.out (HPX.out h)⟩
      case done0 =>
        rintro D0 ys W hD rfl ⟨k9, hB⟩ hK
        have hst := HST.out.below (HBX.out.trans hB)
        obtain ⟨nn, hnn⟩ : ∃ nn : Nat, nn = xs.length - s := ⟨_, rfl⟩
        have hlN : (places xs.length s).length = nn := by simp [places, hnn]
        rw [hlN] at k9
        have d9 : W.cell? ⟨X0.heap.size, 0, none⟩ = some (.int .i64 (nn : Nat)) := cell_of_row _ _ 0 _ _ _ k9
        have dg : W.cell? ⟨G, 0, none⟩ = some (.int .i64 fr) := cell_of_row _ _ 0 _ _ _ hst.qg
        have hfs := HFS.out
        obtain ⟨N1, hN1⟩ : ∃ N1 : Int, N1 = (xs.length:Int) + 1 := ⟨_, rfl⟩
        have kN1 : IntKind.i64.wrap ((xs.length:Int) + 1) = N1 := by rw [hN1]; exact IntWalk.i64_in _ (by omega)
        obtain ⟨mi, hmi⟩ : ∃ mi : Int, min fr N1 = mi := ⟨_, rfl⟩
        obtain ⟨di, hdi⟩ : ∃ di : Int, (xs.length:Int) - mi = di := ⟨_, rfl⟩
        have kD : IntKind.i64.wrap ((xs.length:Int) - mi) = di := by rw [hdi]; exact IntWalk.i64_in _ (by omega)
        obtain ⟨dj, hdj⟩ : ∃ dj : Int, di + 1 = dj := ⟨_, rfl⟩
        have kJ : IntKind.i64.wrap (di + 1) = dj := by rw [hdj]; exact IntWalk.i64_in _ (by omega)
        have hmj : max 0 dj = (nn:Int) := by omega
        clear k9 hlN hnn hfs hN1 hdi hdj
        have hTX : T < X0.heap.size := (Array.getElem?_eq_some_iff.1 HST.out.q4).1
        have d0 : W.cell? ⟨w.heap.size, 0, none⟩ = some (.slice A xs.length c) := cell_of_row _ _ 0 _ _ _ hst.q0
        have d4 : W.cell? ⟨T, 0, none⟩ = some (.int .i64 0) := cell_of_row _ _ 0 _ _ _ hst.q4
        obtain ⟨X2, hX2⟩ : ∃ X2, X2 = W.alloc (.cells #[.int .i64 1] 3) := ⟨_, rfl⟩
        have hbX2 : Below W.heap.size W X2 := by rw [hX2]; exact (Below.refl _ _).alloc (Nat.le_refl _) _
        have hst2' := hst.below hbX2
        have hst2 : EachSt w X2 A c xs f fr stop Bf0 Bs0 lo E G W.heap.size 1 := ⟨hst2'.q0, hst2'.q1, hst2'.q2, hst2'.q3, hst2'.qg, by rw [hX2]; exact heap_alloc_new _ _, hst2'.hE, hst2'.hb, hst2'.h1, hst2'.h2, hst2'.hG, by have := hst.h3; have := (Array.getElem?_eq_some_iff.1 hst.q4).1; omega⟩
        have hlt0 := (Array.getElem?_eq_some_iff.1 hK).1
        have hK2 : X2.heap[D0]? = some (.deferred (some [])) := (hbX2.block _ hlt0).trans hK
        have HGE0 : Hid (w.heap.size + 3 ≤ D0) := by show _ ≤ _; have := (Array.getElem?_eq_some_iff.1 HST.out.q2).1; omega
        have HX2 := Lib.hid hX2
        have HD0 : Hid (X2.heap[D0]? = some (.deferred (some []))) := hK2
        have HST := Lib.hid hst2
        clear hX2 hbX2 hst2 hst2' hst hK2 hK hB HS1 HX1 HBX HN1 HL1 hl1 hqs hBX hS hlt0
        rw [htm]
        clear HTM htm
        go_wp2_with fail
        rw [← HX2.out]
        clear HX2 d0 d4 d9 dg kN1 hmi kD kJ hmj t0 k3 hTX
        generalize W.heap.size = T at *
        generalize X2 = X0 at *
        rw [rounds_succ]
        have t0 : X0.cell? ⟨T, 0, none⟩ = some (.int .i64 1) := cell_of_row _ _ 0 _ _ _ HST.out.q4
        obtain ⟨X1, hX1⟩ : ∃ X1, X1 = X0.alloc (.cells #[.int .i64 0] 3) := ⟨_, rfl⟩
        have hbX : Below X0.heap.size X0 X1 := by rw [hX1]; exact (Below.refl _ _).alloc (Nat.le_refl _) _
        have hs1 := HST.out.below hbX
        have hn1 : X1.heap[X0.heap.size]? = some (.cells #[.int .i64 0] 3 (0, 0)) := by rw [hX1]; exact heap_alloc_new _ _
        have hl1 : X1.heap.size = X0.heap.size + 1 := by rw [hX1]; simp
        have k3 : X1.cell? ⟨E, 0, none⟩ = some (.func (.func 9) #[] #[.pointer (some ⟨Bf0, 0, none⟩), .pointer (some ⟨Bs0, 0, none⟩)]) := cell_of_row _ _ 0 _ _ _ hs1.q3
        have HX1 := Lib.hid hX1
        have HBX := Lib.hid hbX
        have HS1 := Lib.hid hs1
        have HN1 := Lib.hid hn1
        have HL1 := Lib.hid hl1
        rw [hX1] at k3
        clear hX1 hbX hs1 hn1 hl1
        go_wp2_with fail
        rw [← HX1.out]
        refine (wpIn_wide (n := 6)).1 ?_
        refine wp_act ?_
        intro tm htm
        have HTM := Lib.hid htm
        obtain ⟨Bf', Bs', heq, hBs1, hBs2, hS⟩ := HS1.out.hE.stops HF.out (by omega)
        obtain ⟨rfl, rfl⟩ := func_box_inj2 heq
        clear heq
        rw [← HSF.out] at hS
        have hl1 := HL1.out
        have hqs := HST.out.hE
        have hBX : Bs0 < X0.heap.size := by
          obtain ⟨Bf, B, _, _, hv, _, hB1, hB, _⟩ := hqs
          have := func_box_inj2 hv
          omega
        refine wpIn_rangeFunc_ownH rfl (by omega) (gf := 9) (lb := #[.pointer (some ⟨Bf0, 0, none⟩), .pointer (some ⟨Bs0, 0, none⟩)]) (by rw [htm]; rfl) trivial (enters_of Try.func9 (by kernel_rfl) rfl)
          (hS _ X1 (Below.refl _ _)) midK_t (midK_b (by omega)) (Below.refl _ _) (fun _ => rfl)
          (fun pre W => W.heap[X0.heap.size]? = some (.cells #[.int .i64 (pre.length : Nat)] 3 (0, 0)) ∧ Below X0.heap.size X1 W)
          (fun c pre W => (c = .ret ∧ ¬ (pre <+: places xs.length s)) ∨ (c = .exit 4 ∧ Below X0.heap.size X1 W))
          ?hI1 ?hIx1 ?h01
          (fun x a' W => ∃ Bx, X1.heap.size ≤ Bx ∧ W.heap[Bx]? = some (.cells #[.int .i64 xs[x.1].client, .int .i64 xs[x.1].number, .int .i64 xs[x.1].op.kind, .int .i64 xs[x.1].op.slot, .string xs[x.1].op.value] 32 (0, 0)) ∧ a' = { tmps := (((tm.setIfInBounds 58 (.int .i64 ((x.1:Int) + 1))).setIfInBounds 59 (.agg #[.int .i64 xs[x.1].client, .int .i64 xs[x.1].number, .int .i64 xs[x.1].op.kind, .int .i64 xs[x.1].op.slot, .string xs[x.1].op.value])).setIfInBounds 13 (.int .i64 ((x.1:Int) + 1))).setIfInBounds 14 (.pointer (some ⟨Bx, 0, none⟩)), defers := [] })
          ?hAx1 ?assign1 ?body1 ?done1 ?stop1
        case hI1 => exact OwnFrom.and (row_ownC _ _ (fun pre : List (Fin xs.length) => #[.int .i64 (pre.length : Nat)]) _) (ownFrom_below (by omega) (by omega))
        case hIx1 => intro c s X Y row hs hg hr; rcases hs with hs | ⟨h1, h2⟩; exact .inl hs; exact .inr ⟨h1, ownFrom_below (β := Unit) (by omega) (by omega) () X Y row h2 hg hr⟩
        case h01 => exact ⟨HN1.out, Below.refl _ _⟩
        case hAx1 => intro x a' u X Y row hs hg hr; obtain ⟨Bx, h1, h2, h3⟩ := hs; exact ⟨Bx, h1, row_ownC _ Bx (fun (_ : Unit) => #[.int .i64 xs[x.1].client, .int .i64 xs[x.1].number, .int .i64 xs[x.1].op.kind, .int .i64 xs[x.1].op.slot, .string xs[x.1].op.value]) _ u X Y row h2 hg hr, h3⟩
        case assign1 =>
          rintro l pre x W K ⟨k9, hB⟩ hK
          dsimp only [encE]
          rw [htm]
          gi_wp2
          have hsW := hB.size
          exact hK _ _ ((KeepsOthers.alloc _ _).from _) ((Mid.refl W).alloc (by omega) _) ⟨(heap_alloc_old _ _ (Array.getElem?_eq_some_iff.1 k9).1).trans k9, hB.alloc (by omega) _⟩ ⟨W.heap.size, hsW, heap_alloc_new _ _, by rw [htm]; rfl⟩
        case body1 =>
          rintro l pre x a' W hl ⟨r, hr⟩ ⟨k9, hB⟩ ⟨Bx, hBx, hrow, rfl⟩ hlt
          have HRL := Lib.hid hr
          have hst := HST.out.below (HBX.out.trans hB)
          have HSW := Lib.hid hst
          obtain ⟨p, hp⟩ : ∃ p, p = pre.length := ⟨_, rfl⟩
          rw [← hp] at k9 hlt
          have d0 : W.cell? ⟨w.heap.size, 0, none⟩ = some (.slice A xs.length c) := cell_of_row _ _ 0 _ _ _ hst.q0
          have d4 : W.cell? ⟨T, 0, none⟩ = some (.int .i64 1) := cell_of_row _ _ 0 _ _ _ hst.q4
          have dg : W.cell? ⟨G, 0, none⟩ = some (.int .i64 fr) := cell_of_row _ _ 0 _ _ _ hst.qg
          have d2 : W.cell? ⟨w.heap.size + 1 + 1, 0, none⟩ = some (.bool false) := cell_of_row _ _ 0 _ _ _ hst.q2
          have f2 : W.frozen? ⟨w.heap.size + 1 + 1, 0, none⟩ = false := frozen_of_row _ _ _ _ _ hst.q2
          have d9 : W.cell? ⟨X0.heap.size, 0, none⟩ = some (.int .i64 p) := cell_of_row _ _ 0 _ _ _ k9
          have f9 : W.frozen? ⟨X0.heap.size, 0, none⟩ = false := frozen_of_row _ _ _ _ _ k9
          have hTX : T < X0.heap.size := (Array.getElem?_eq_some_iff.1 HST.out.q4).1
          have hoth : ∀ (b : Nat) (v u : Value), b < X0.heap.size → W.cell? ⟨b, 0, none⟩ = some v → ∀ k, ((W.drewN k).setCell ⟨X0.heap.size, 0, none⟩ u).cell? ⟨b, 0, none⟩ = some v := fun b v u hb h k => (World.cell?_setCell_other _ _ _ _ (fun e => by injection e with e1; omega)).trans h
          have d4' := hoth T _ (.int .i64 ((p:Int) + 1)) hTX d4
          have d1' := hoth (w.heap.size + 1) _ (.int .i64 ((p:Int) + 1)) (Array.getElem?_eq_some_iff.1 HST.out.q1).1 (show W.cell? ⟨w.heap.size + 1, 0, none⟩ = some (.int .i64 stop) from cell_of_row _ _ 0 _ _ _ hst.q1)
          have d9' : ∀ k, ((W.drewN k).setCell ⟨X0.heap.size, 0, none⟩ (.int .i64 ((p:Int) + 1))).cell? ⟨X0.heap.size, 0, none⟩ = some (.int .i64 ((p:Int) + 1)) := fun k => World.cell?_setCell_same' _ _ _ (by simp [d9])
          obtain ⟨q, hq⟩ : ∃ q : Nat, q = x.1 := ⟨_, rfl⟩
          have hqN : q < xs.length := by rw [hq]; exact x.2
          obtain ⟨y, hy⟩ : ∃ y, y = xs[x.1] := ⟨_, rfl⟩
          have hyq : xs[q] = y := by subst hq; exact hy.symm
          obtain ⟨ad, hAd, _, hca⟩ := (HA.out.below hst.hb).at_ hqN
          rw [hyq] at hca
          obtain ⟨c0, c1, c2, c3, c4⟩ := hca.five
          obtain ⟨pl, hpl⟩ : ∃ pl : Int, pl = (x.1:Int) + 1 := ⟨_, rfl⟩
          rw [← hy] at hrow ⊢
          rw [← hpl]
          have b0 : W.cell? ⟨Bx, 0, none⟩ = some (.int .i64 y.client) := cell_of_row _ _ 0 _ _ _ hrow
          have b1 : W.cell? ⟨Bx, 1, none⟩ = some (.int .i64 y.number) := cell_of_row _ _ 1 _ _ _ hrow
          have b2 : W.cell? ⟨Bx, 2, none⟩ = some (.int .i64 y.op.kind) := cell_of_row _ _ 2 _ _ _ hrow
          have b3 : W.cell? ⟨Bx, 3, none⟩ = some (.int .i64 y.op.slot) := cell_of_row _ _ 3 _ _ _ hrow
          have b4 : W.cell? ⟨Bx, 4, none⟩ = some (.string y.op.value) := cell_of_row _ _ 4 _ _ _ hrow
          have hplq : pl = (q:Int) + 1 := by rw [hpl, hq]
          have hfs := HFS.out
          obtain ⟨m0, hm0⟩ : ∃ m0 : Int, m0 = (xs.length:Int) - p := ⟨_, rfl⟩
          have kS : IntKind.i64.wrap ((xs.length:Int) - p) = m0 := by rw [hm0]; exact IntWalk.i64_in _ (by omega)
          have i1 : (q:Int) < (xs.length:Int) := by omega
          have i2 : (0:Int) ≤ (q:Int) := by omega
          have kw : IntKind.i64.wrap ((p:Int) + 1) = (p:Int) + 1 := IntWalk.i64_in _ (by omega)
          have kP : IntKind.i64.wrap (pl - 1) = (q:Int) := by rw [show pl - 1 = (q:Int) by omega]; exact IntWalk.i64_in _ (by omega)
          have he := neq_entry y y
          have hge := guard_entry
          have hpx : pre ++ [x] <+: places xs.length s → q = s + p := fun h => by have := prefix_last' h; omega
          have HPX := Lib.hid hpx
          have HK9 := Lib.hid k9
          have HBW := Lib.hid hB
          have HP := Lib.hid hp
          have HPL := Lib.hid hplq
          have HM0 := Lib.hid hm0
          have HFR := HFR2.out
          subst hAd
          rw [htm]
          clear HTM htm hS
          simp only [List.setIfInBounds_toArray, List.set_cons_succ, List.set_cons_zero]
          rw [show decide (y = y) = true from decide_eq_true rfl] at he
          by_cases hc : q = s + p
          · have hgt : ¬ m0 < fr := by omega
            have hgt2 : decide (m0 < fr) = false := decide_eq_false hgt
            have kA : IntKind.i64.wrap (fr + (p:Int)) = pl := by rw [show fr + (p:Int) = pl by omega]; exact IntWalk.i64_in _ (by omega)
            have HQS : Hid (q = s + p) := hc
            clear hpx hca hst hp hy hyq k9 hB hoth hplq hm0 hfs HFR hc hpl hrow hq
            gi_wp2_with fail
            refine wpIn_region_quietR (by kernel_rfl) (by kernel_rfl) (by kernel_rfl) ?_
            repeat (gi_big_quiet_step (fail))
            refine wpQuietIn_nil ?_
            rintro _ ⟨nq, rfl⟩
            by_cases hs : stop ≤ (p:Int) + 1
            · gi_wp2_with fail
              exact ⟨((KeepsOthers.drewN W nq).trans (KeepsOthers.setCell _ _ _)).from _, .inr ⟨rfl, (below_drewN HBW.out nq).setCell (Nat.le_refl _) _⟩⟩
            · rcases Bool.eq_false_or_eq_true (decide ((p:Int) + 1 = 2)) with h2 | h2
              all_goals
                gi_wp2_with fail
              all_goals
                exact ⟨((KeepsOthers.drewN W nq).trans (KeepsOthers.setCell _ _ _)).from _, (show Mid lo (Bs0 + 1) W (W.drewN nq) from ⟨Nat.le_refl _, fun _ _ _ => rfl⟩).setCell (p := ⟨X0.heap.size, 0, none⟩) (.inr hBX) _, by rw [heap_setCell_same (W.drewN nq) X0.heap.size 0 _ _ _ HK9.out, List.length_append, ← HP.out]; first | rfl | (have hp1 : p = 1 := (by omega); subst hp1; rfl), (below_drewN HBW.out nq).setCell (Nat.le_refl _) _⟩
          · by_cases hgt : m0 < fr
            · have hgt2 : decide (m0 < fr) = true := decide_eq_true hgt
              have HQS : Hid (¬ q = s + p) := hc
              clear hpx hca hst hp hy hyq k9 hB hoth hplq hm0 hfs HFR hc hpl hrow hq
              gi_wp2_with fail
              refine wpIn_region_quietR (by kernel_rfl) (by kernel_rfl) (by kernel_rfl) ?_
              repeat (gi_big_quiet_step (fail))
              refine wpQuietIn_nil ?_
              rintro _ ⟨nq, rfl⟩
              gi_wp2_with fail
              exact ⟨((KeepsOthers.drewN W nq).trans (KeepsOthers.setCell _ _ _)).from _, .inl ⟨rfl, fun h => HQS.out (HPX.out h)⟩⟩
            · have hgt2 : decide (m0 < fr) = false := decide_eq_false hgt
              obtain ⟨v, hv⟩ : ∃ v : Int, v = fr + p := ⟨_, rfl⟩
              have kA : IntKind.i64.wrap (fr + (p:Int)) = v := by rw [hv]; exact IntWalk.i64_in _ (by omega)
              have hv1 : ¬ pl = v := by omega
              have hv2 : (pl == v) = false := by simpa using hv1
              have hv3 : (pl != v) = true := by simpa using hv1
              have hv4 : decide (pl = v) = false := decide_eq_false hv1
              have HQS : Hid (¬ q = s + p) := hc
              clear hpx hca hst hp hy hyq k9 hB hoth hplq hm0 hfs HFR hc hpl hrow hq hv
              gi_wp2_with fail
              refine wpIn_region_quietR (by kernel_rfl) (by kernel_rfl) (by kernel_rfl) ?_
              repeat (gi_big_quiet_step (fail))
              refine wpQuietIn_nil ?_
              rintro _ ⟨nq, rfl⟩
              gi_wp2_with fail
              exact ⟨((KeepsOthers.drewN W nq).trans (KeepsOthers.setCell _ _ _)).from _, .inl ⟨rfl, fun h => HQS.out (HPX.out h)⟩⟩
        case done1 =>
          rintro D1 ys W hD rfl ⟨k9, hB⟩ hK
          have hst := HST.out.below (HBX.out.trans hB)
          obtain ⟨nn, hnn⟩ : ∃ nn : Nat, nn = xs.length - s := ⟨_, rfl⟩
          have hlN : (places xs.length s).length = nn := by simp [places, hnn]
          rw [hlN] at k9
          have d9 : W.cell? ⟨X0.heap.size, 0, none⟩ = some (.int .i64 (nn : Nat)) := cell_of_row _ _ 0 _ _ _ k9
          have dg : W.cell? ⟨G, 0, none⟩ = some (.int .i64 fr) := cell_of_row _ _ 0 _ _ _ hst.qg
          have hfs := HFS.out
          obtain ⟨N1, hN1⟩ : ∃ N1 : Int, N1 = (xs.length:Int) + 1 := ⟨_, rfl⟩
          have kN1 : IntKind.i64.wrap ((xs.length:Int) + 1) = N1 := by rw [hN1]; exact IntWalk.i64_in _ (by omega)
          obtain ⟨mi, hmi⟩ : ∃ mi : Int, min fr N1 = mi := ⟨_, rfl⟩
          obtain ⟨di, hdi⟩ : ∃ di : Int, (xs.length:Int) - mi = di := ⟨_, rfl⟩
          have kD : IntKind.i64.wrap ((xs.length:Int) - mi) = di := by rw [hdi]; exact IntWalk.i64_in _ (by omega)
          obtain ⟨dj, hdj⟩ : ∃ dj : Int, di + 1 = dj := ⟨_, rfl⟩
          have kJ : IntKind.i64.wrap (di + 1) = dj := by rw [hdj]; exact IntWalk.i64_in _ (by omega)
          have hmj : max 0 dj = (nn:Int) := by omega
          clear k9 hlN hnn hfs hN1 hdi hdj
          have hTX : T < X0.heap.size := (Array.getElem?_eq_some_iff.1 HST.out.q4).1
          have d0 : W.cell? ⟨w.heap.size, 0, none⟩ = some (.slice A xs.length c) := cell_of_row _ _ 0 _ _ _ hst.q0
          have d4 : W.cell? ⟨T, 0, none⟩ = some (.int .i64 1) := cell_of_row _ _ 0 _ _ _ hst.q4
          obtain ⟨X2, hX2⟩ : ∃ X2, X2 = W.alloc (.cells #[.int .i64 2] 3) := ⟨_, rfl⟩
          have hbX2 : Below W.heap.size W X2 := by rw [hX2]; exact (Below.refl _ _).alloc (Nat.le_refl _) _
          have hst2' := hst.below hbX2
          have hst2 : EachSt w X2 A c xs f fr stop Bf0 Bs0 lo E G W.heap.size 2 := ⟨hst2'.q0, hst2'.q1, hst2'.q2, hst2'.q3, hst2'.qg, by rw [hX2]; exact heap_alloc_new _ _, hst2'.hE, hst2'.hb, hst2'.h1, hst2'.h2, hst2'.hG, by have := hst.h3; have := (Array.getElem?_eq_some_iff.1 hst.q4).1; omega⟩
          have hlt0 := (Array.getElem?_eq_some_iff.1 hK).1
          have hK2 : X2.heap[D1]? = some (.deferred (some [])) := (hbX2.block _ hlt0).trans hK
          have hbB := HBX.out.trans hB
          have hK0 : X2.heap[D0]? = some (.deferred (some [])) := (hbX2.block _ (by have := hbB.size; have := (Array.getElem?_eq_some_iff.1 HD0.out).1; omega)).trans ((hbB.block _ (Array.getElem?_eq_some_iff.1 HD0.out).1).trans HD0.out)
          have HLT0_1 : Hid (D0 < D1) := by show _ < _; have := HBX.out.size; have := (Array.getElem?_eq_some_iff.1 HD0.out).1; omega
          clear hbB HD0
          have HD0 : Hid (X2.heap[D0]? = some (.deferred (some []))) := hK0
          clear hK0
          have HGE1 : Hid (w.heap.size + 3 ≤ D1) := by show _ ≤ _; have := (Array.getElem?_eq_some_iff.1 HST.out.q2).1; omega
          have HX2 := Lib.hid hX2
          have HD1 : Hid (X2.heap[D1]? = some (.deferred (some []))) := hK2
          have HST := Lib.hid hst2
          clear hX2 hbX2 hst2 hst2' hst hK2 hK hB HS1 HX1 HBX HN1 HL1 hl1 hqs hBX hS hlt0
          rw [htm]
          clear HTM htm
          go_wp2_with fail
          rw [← HX2.out]
          clear HX2 d0 d4 d9 dg kN1 hmi kD kJ hmj t0 k3 hTX
          generalize W.heap.size = T at *
          generalize X2 = X0 at *
          rw [rounds_succ]
          have t0 : X0.cell? ⟨T, 0, none⟩ = some (.int .i64 2) := cell_of_row _ _ 0 _ _ _ HST.out.q4
          obtain ⟨X1, hX1⟩ : ∃ X1, X1 = X0.alloc (.cells #[.int .i64 0] 3) := ⟨_, rfl⟩
          have hbX : Below X0.heap.size X0 X1 := by rw [hX1]; exact (Below.refl _ _).alloc (Nat.le_refl _) _
          have hs1 := HST.out.below hbX
          have hn1 : X1.heap[X0.heap.size]? = some (.cells #[.int .i64 0] 3 (0, 0)) := by rw [hX1]; exact heap_alloc_new _ _
          have hl1 : X1.heap.size = X0.heap.size + 1 := by rw [hX1]; simp
          have k3 : X1.cell? ⟨E, 0, none⟩ = some (.func (.func 9) #[] #[.pointer (some ⟨Bf0, 0, none⟩), .pointer (some ⟨Bs0, 0, none⟩)]) := cell_of_row _ _ 0 _ _ _ hs1.q3
          have HX1 := Lib.hid hX1
          have HBX := Lib.hid hbX
          have HS1 := Lib.hid hs1
          have HN1 := Lib.hid hn1
          have HL1 := Lib.hid hl1
          rw [hX1] at k3
          clear hX1 hbX hs1 hn1 hl1
          go_wp2_with fail
          rw [← HX1.out]
          refine (wpIn_wide (n := 6)).1 ?_
          refine wp_act ?_
          intro tm htm
          have HTM := Lib.hid htm
          obtain ⟨Bf', Bs', heq, hBs1, hBs2, hS⟩ := HS1.out.hE.stops HF.out (by omega)
          obtain ⟨rfl, rfl⟩ := func_box_inj2 heq
          clear heq
          rw [← HSF.out] at hS
          have hl1 := HL1.out
          have hqs := HST.out.hE
          have hBX : Bs0 < X0.heap.size := by
            obtain ⟨Bf, B, _, _, hv, _, hB1, hB, _⟩ := hqs
            have := func_box_inj2 hv
            omega
          refine wpIn_rangeFunc_ownH rfl (by omega) (gf := 9) (lb := #[.pointer (some ⟨Bf0, 0, none⟩), .pointer (some ⟨Bs0, 0, none⟩)]) (by rw [htm]; rfl) trivial (enters_of Try.func9 (by kernel_rfl) rfl)
            (hS _ X1 (Below.refl _ _)) midK_t (midK_b (by omega)) (Below.refl _ _) (fun _ => rfl)
            (fun pre W => W.heap[X0.heap.size]? = some (.cells #[.int .i64 (pre.length : Nat)] 3 (0, 0)) ∧ Below X0.heap.size X1 W)
            (fun c pre W => c = .ret ∧ ¬ (pre <+: places xs.length s))
            ?hI2 ?hIx2 ?h02
            (fun x a' W => ∃ Bx, X1.heap.size ≤ Bx ∧ W.heap[Bx]? = some (.cells #[.int .i64 xs[x.1].client, .int .i64 xs[x.1].number, .int .i64 xs[x.1].op.kind, .int .i64 xs[x.1].op.slot, .string xs[x.1].op.value] 32 (0, 0)) ∧ a' = { tmps := (((tm.setIfInBounds 58 (.int .i64 ((x.1:Int) + 1))).setIfInBounds 59 (.agg #[.int .i64 xs[x.1].client, .int .i64 xs[x.1].number, .int .i64 xs[x.1].op.kind, .int .i64 xs[x.1].op.slot, .string xs[x.1].op.value])).setIfInBounds 13 (.int .i64 ((x.1:Int) + 1))).setIfInBounds 14 (.pointer (some ⟨Bx, 0, none⟩)), defers := [] })
            ?hAx2 ?assign2 ?body2 ?done2 ?stop2
          case hI2 => exact OwnFrom.and (row_ownC _ _ (fun pre : List (Fin xs.length) => #[.int .i64 (pre.length : Nat)]) _) (ownFrom_below (by omega) (by omega))
          case hIx2 => intro c s X Y row hs hg hr; exact hs
          case h02 => exact ⟨HN1.out, Below.refl _ _⟩
          case hAx2 => intro x a' u X Y row hs hg hr; obtain ⟨Bx, h1, h2, h3⟩ := hs; exact ⟨Bx, h1, row_ownC _ Bx (fun (_ : Unit) => #[.int .i64 xs[x.1].client, .int .i64 xs[x.1].number, .int .i64 xs[x.1].op.kind, .int .i64 xs[x.1].op.slot, .string xs[x.1].op.value]) _ u X Y row h2 hg hr, h3⟩
          case assign2 =>
            rintro l pre x W K ⟨k9, hB⟩ hK
            dsimp only [encE]
            rw [htm]
            gi_wp2
            have hsW := hB.size
            exact hK _ _ ((KeepsOthers.alloc _ _).from _) ((Mid.refl W).alloc (by omega) _) ⟨(heap_alloc_old _ _ (Array.getElem?_eq_some_iff.1 k9).1).trans k9, hB.alloc (by omega) _⟩ ⟨W.heap.size, hsW, heap_alloc_new _ _, by rw [htm]; rfl⟩
          case body2 =>
            rintro l pre x a' W hl ⟨r, hr⟩ ⟨k9, hB⟩ ⟨Bx, hBx, hrow, rfl⟩ hlt
            have HRL := Lib.hid hr
            have hst := HST.out.below (HBX.out.trans hB)
            have HSW := Lib.hid hst
            obtain ⟨p, hp⟩ : ∃ p, p = pre.length := ⟨_, rfl⟩
            rw [← hp] at k9 hlt
            have d0 : W.cell? ⟨w.heap.size, 0, none⟩ = some (.slice A xs.length c) := cell_of_row _ _ 0 _ _ _ hst.q0
            have d4 : W.cell? ⟨T, 0, none⟩ = some (.int .i64 2) := cell_of_row _ _ 0 _ _ _ hst.q4
            have dg : W.cell? ⟨G, 0, none⟩ = some (.int .i64 fr) := cell_of_row _ _ 0 _ _ _ hst.qg
            have d2 : W.cell? ⟨w.heap.size + 1 + 1, 0, none⟩ = some (.bool false) := cell_of_row _ _ 0 _ _ _ hst.q2
            have f2 : W.frozen? ⟨w.heap.size + 1 + 1, 0, none⟩ = false := frozen_of_row _ _ _ _ _ hst.q2
            have d9 : W.cell? ⟨X0.heap.size, 0, none⟩ = some (.int .i64 p) := cell_of_row _ _ 0 _ _ _ k9
            have f9 : W.frozen? ⟨X0.heap.size, 0, none⟩ = false := frozen_of_row _ _ _ _ _ k9
            have hTX : T < X0.heap.size := (Array.getElem?_eq_some_iff.1 HST.out.q4).1
            have hoth : ∀ (b : Nat) (v u : Value), b < X0.heap.size → W.cell? ⟨b, 0, none⟩ = some v → ∀ k, ((W.drewN k).setCell ⟨X0.heap.size, 0, none⟩ u).cell? ⟨b, 0, none⟩ = some v := fun b v u hb h k => (World.cell?_setCell_other _ _ _ _ (fun e => by injection e with e1; omega)).trans h
            have d4' := hoth T _ (.int .i64 ((p:Int) + 1)) hTX d4
            have d1' := hoth (w.heap.size + 1) _ (.int .i64 ((p:Int) + 1)) (Array.getElem?_eq_some_iff.1 HST.out.q1).1 (show W.cell? ⟨w.heap.size + 1, 0, none⟩ = some (.int .i64 stop) from cell_of_row _ _ 0 _ _ _ hst.q1)
            have d9' : ∀ k, ((W.drewN k).setCell ⟨X0.heap.size, 0, none⟩ (.int .i64 ((p:Int) + 1))).cell? ⟨X0.heap.size, 0, none⟩ = some (.int .i64 ((p:Int) + 1)) := fun k => World.cell?_setCell_same' _ _ _ (by simp [d9])
            obtain ⟨q, hq⟩ : ∃ q : Nat, q = x.1 := ⟨_, rfl⟩
            have hqN : q < xs.length := by rw [hq]; exact x.2
            obtain ⟨y, hy⟩ : ∃ y, y = xs[x.1] := ⟨_, rfl⟩
            have hyq : xs[q] = y := by subst hq; exact hy.symm
            obtain ⟨ad, hAd, _, hca⟩ := (HA.out.below hst.hb).at_ hqN
            rw [hyq] at hca
            obtain ⟨c0, c1, c2, c3, c4⟩ := hca.five
            obtain ⟨pl, hpl⟩ : ∃ pl : Int, pl = (x.1:Int) + 1 := ⟨_, rfl⟩
            rw [← hy] at hrow ⊢
            rw [← hpl]
            have b0 : W.cell? ⟨Bx, 0, none⟩ = some (.int .i64 y.client) := cell_of_row _ _ 0 _ _ _ hrow
            have b1 : W.cell? ⟨Bx, 1, none⟩ = some (.int .i64 y.number) := cell_of_row _ _ 1 _ _ _ hrow
            have b2 : W.cell? ⟨Bx, 2, none⟩ = some (.int .i64 y.op.kind) := cell_of_row _ _ 2 _ _ _ hrow
            have b3 : W.cell? ⟨Bx, 3, none⟩ = some (.int .i64 y.op.slot) := cell_of_row _ _ 3 _ _ _ hrow
            have b4 : W.cell? ⟨Bx, 4, none⟩ = some (.string y.op.value) := cell_of_row _ _ 4 _ _ _ hrow
            have hplq : pl = (q:Int) + 1 := by rw [hpl, hq]
            have hfs := HFS.out
            obtain ⟨m0, hm0⟩ : ∃ m0 : Int, m0 = (xs.length:Int) - p := ⟨_, rfl⟩
            have kS : IntKind.i64.wrap ((xs.length:Int) - p) = m0 := by rw [hm0]; exact IntWalk.i64_in _ (by omega)
            have i1 : (q:Int) < (xs.length:Int) := by omega
            have i2 : (0:Int) ≤ (q:Int) := by omega
            have kw : IntKind.i64.wrap ((p:Int) + 1) = (p:Int) + 1 := IntWalk.i64_in _ (by omega)
            have kP : IntKind.i64.wrap (pl - 1) = (q:Int) := by rw [show pl - 1 = (q:Int) by omega]; exact IntWalk.i64_in _ (by omega)
            have he := neq_entry y y
            have hge := guard_entry
            have hpx : pre ++ [x] <+: places xs.length s → q = s + p := fun h => by have := prefix_last' h; omega
            have HPX := Lib.hid hpx
            have HK9 := Lib.hid k9
            have HBW := Lib.hid hB
            have HP := Lib.hid hp
            have HPL := Lib.hid hplq
            have HM0 := Lib.hid hm0
            have HFR := HFR2.out
            subst hAd
            rw [htm]
            clear HTM htm hS
            simp only [List.setIfInBounds_toArray, List.set_cons_succ, List.set_cons_zero]
            rw [show decide (y = y) = true from decide_eq_true rfl] at he
            by_cases hc : q = s + p
            · have hgt : ¬ m0 < fr := by omega
              have hgt2 : decide (m0 < fr) = false := decide_eq_false hgt
              have kA : IntKind.i64.wrap (fr + (p:Int)) = pl := by rw [show fr + (p:Int) = pl by omega]; exact IntWalk.i64_in _ (by omega)
              have HQS : Hid (q = s + p) := hc
              clear hpx hca hst hp hy hyq k9 hB hoth hplq hm0 hfs HFR hc hpl hrow hq
              have HFRN : Hid (p = 1 → fr ≤ (xs.length:Int)) := by show _ → _; intro hp1; have := HQS.out; have := HFS.out; omega
              gi_wp2_with fail
              refine wpIn_region_quietR (by kernel_rfl) (by kernel_rfl) (by kernel_rfl) ?_
              repeat (gi_big_quiet_step (fail))
              refine wpQuietIn_nil ?_
              rintro _ ⟨nq, rfl⟩
              by_cases h2 : p = 1
              · have HFRN : Hid (fr ≤ (xs.length:Int)) := HFRN.out h2
                have kw2 : IntKind.i64.wrap ((p:Int) + 1) = 2 := by rw [kw]; omega
                have e2 : (p:Int) + 1 = 2 := by omega
                have HP2 : Hid (p = 1) := h2
                rw [e2] at d4' d1' d9'
                clear kw e2 h2
                obtain ⟨V, hV⟩ : ∃ V, V = (W.drewN nq).setCell ⟨X0.heap.size, 0, none⟩ (.int .i64 2) := ⟨_, rfl⟩
                obtain ⟨V1, hV1⟩ : ∃ V1, V1 = V.alloc (.cells #[.int .i64 0] 3) := ⟨_, rfl⟩
                have hVs : V.heap.size = W.heap.size := by rw [hV]; simp [World.setCell]
                have hbV : Below X0.heap.size W V := by rw [hV]; exact Below.setCell (p := ⟨X0.heap.size, 0, none⟩) (below_drewN (Below.refl X0.heap.size W) nq) (Nat.le_refl _) _
                have hbV1 : Below V.heap.size V V1 := by rw [hV1]; exact (Below.refl _ _).alloc (Nat.le_refl _) _
                have hEX : E < X0.heap.size := (Array.getElem?_eq_some_iff.1 HST.out.q3).1
                have hXW : X0.heap.size < W.heap.size := (Array.getElem?_eq_some_iff.1 HK9.out).1
                have dE : V1.cell? ⟨E, 0, none⟩ = some (.func (.func 9) #[] #[.pointer (some ⟨Bf0, 0, none⟩), .pointer (some ⟨Bs0, 0, none⟩)]) := cell_of_row _ _ 0 _ _ _ ((hbV1.block _ (by omega)).trans ((hbV.block _ hEX).trans HSW.out.q3))
                have hrV : V1.heap[l]? = some (.loop r) := by
                  have hlW : l < W.heap.size := (Array.getElem?_eq_some_iff.1 HRL.out).1
                  rw [hbV1.block _ (by omega), hV]
                  exact (((KeepsOthers.drewN W nq).trans (KeepsOthers.setCell _ ⟨X0.heap.size, 0, none⟩ (.int .i64 2))).from X1.heap.size).same _ _ hl HRL.out rfl
                have hm1 : V1.heap[W.heap.size]? = some (.cells #[.int .i64 0] 3 (0, 0)) := by rw [hV1, ← hVs]; exact heap_alloc_new _ _
                have hkV : KeepsFrom X1.heap.size W V := by rw [hV]; exact ((KeepsOthers.drewN W nq).trans (KeepsOthers.setCell _ _ _)).from _
                have hn9 : V.heap[X0.heap.size]? = some (.cells #[.int .i64 2] 3 (0, 0)) := by rw [hV]; exact heap_setCell_same (W.drewN nq) X0.heap.size 0 _ _ _ HK9.out
                have hzV1 : V1.heap.size = W.heap.size + 1 := by rw [hV1]; simp [hVs]
                have HV := Lib.hid hV
                have HV1 := Lib.hid hV1
                have HVS := Lib.hid hVs
                have HBV := Lib.hid hbV
                have HBV1 := Lib.hid hbV1
                have HRV := Lib.hid hrV
                have HM1' := Lib.hid hm1
                have HKV := Lib.hid hkV
                have HN9 := Lib.hid hn9
                have HZV1 := Lib.hid hzV1
                rw [hV1, hV] at dE
                clear hV hV1 hVs hbV hbV1 hrV hm1 hkV hn9 hzV1
                gi_wp2_with fail
                rw [← HV.out, ← HV1.out]
                refine wp_act ?_
                intro tn htn
                have HTN := Lib.hid htn
                obtain ⟨Bf2, Bs2, heq2, hB21, hB22, hS2⟩ := HS1.out.hE.stops HF.out (by omega)
                obtain ⟨rfl, rfl⟩ := func_box_inj2 heq2
                clear heq2
                rw [← HSF.out] at hS2
                have hBW := HBW.out
                have hBV := HBV.out
                have hBV1 := HBV1.out
                have hVS := HVS.out
                have hzv := HZV1.out
                have hbX1 : Below X0.heap.size X1 V1 := (hBW.trans hBV).trans (hBV1.mono (by omega))
                have hmono1 : V.heap.size ≤ V1.heap.size := hBV1.size
                refine wpIn_rangeFunc_ownN (l₀ := l) (r₀ := r) rfl HRV.out (by omega) (gf := 9) (lb := #[.pointer (some ⟨Bf0, 0, none⟩), .pointer (some ⟨Bs0, 0, none⟩)]) (by rw [htn]; rfl) trivial (enters_of Try.func9 (by kernel_rfl) rfl)
                  ((hS2 _ V1 (hbX1.mono (by omega))).inRound l) midK_t (midK_b (by omega)) (Below.refl _ _) (fun _ => rfl)
                  (fun pre' W' => W'.heap[W.heap.size]? = some (.cells #[.int .i64 (pre'.length : Nat)] 3 (0, 0)) ∧ Below V.heap.size V W')
                  (fun c pre' W' => c = .ret ∧ ¬ (pre' <+: places xs.length s))
                  ?hIn ?hIxn ?h0n
                  (fun x' a' W' => ∃ Bx', V1.heap.size ≤ Bx' ∧ W'.heap[Bx']? = some (.cells #[.int .i64 xs[x'.1].client, .int .i64 xs[x'.1].number, .int .i64 xs[x'.1].op.kind, .int .i64 xs[x'.1].op.slot, .string xs[x'.1].op.value] 32 (0, 0)) ∧ a' = { tmps := (((tn.setIfInBounds 98 (.int .i64 ((x'.1:Int) + 1))).setIfInBounds 99 (.agg #[.int .i64 xs[x'.1].client, .int .i64 xs[x'.1].number, .int .i64 xs[x'.1].op.kind, .int .i64 xs[x'.1].op.slot, .string xs[x'.1].op.value])).setIfInBounds 16 (.int .i64 ((x'.1:Int) + 1))).setIfInBounds 17 (.pointer (some ⟨Bx', 0, none⟩)), defers := [] })
                  ?hAxn ?assignn ?bodyn ?donen ?stopn
                case hIn => exact OwnFrom.and (row_ownC _ _ (fun pre : List (Fin xs.length) => #[.int .i64 (pre.length : Nat)]) _) (ownFrom_below (by omega) (by omega))
                case hIxn => intro c s X Y row hs hg hr; exact hs
                case h0n => exact ⟨HM1'.out, hBV1⟩
                case hAxn => intro x' a' u X Y row hs hg hr; obtain ⟨Bx', h1, h2, h3⟩ := hs; exact ⟨Bx', h1, row_ownC _ Bx' (fun (_ : Unit) => #[.int .i64 xs[x'.1].client, .int .i64 xs[x'.1].number, .int .i64 xs[x'.1].op.kind, .int .i64 xs[x'.1].op.slot, .string xs[x'.1].op.value]) _ u X Y row h2 hg hr, h3⟩
                case assignn =>
                  rintro l2 pre' x' W' K ⟨k12, hB2⟩ hK
                  dsimp only [encE]
                  rw [htn]
                  gi_wp2
                  have hsW' := hB2.size
                  have hk12 := (Array.getElem?_eq_some_iff.1 k12).1
                  exact hK _ _ ((KeepsOthers.alloc _ _).from _) ((Mid.refl W').alloc (by omega) _) ⟨(heap_alloc_old _ _ hk12).trans k12, hB2.alloc (by omega) _⟩ ⟨W'.heap.size, by omega, heap_alloc_new _ _, by rw [htn]; rfl⟩
                case bodyn =>
                  rintro l2 pre' x' a' W' hl2 _ ⟨k12, hB2⟩ ⟨Bx', hBx', hrow', rfl⟩ hlt2
                  have hq0 : w.heap.size + 2 < X0.heap.size := (Array.getElem?_eq_some_iff.1 HST.out.q2).1
                  have hbw : Below w.heap.size w W' := (HSW.out.hb.trans (hBV.mono (by omega))).trans (hB2.mono (by omega))
                  have hbx : Below X0.heap.size W W' := hBV.trans (hB2.mono (by omega))
                  obtain ⟨p', hp'⟩ : ∃ p', p' = pre'.length := ⟨_, rfl⟩
                  rw [← hp'] at k12 hlt2
                  have e0 : W'.cell? ⟨w.heap.size, 0, none⟩ = some (.slice (some ad) xs.length c) := cell_of_row _ _ 0 _ _ _ ((hbx.block _ (by omega)).trans HSW.out.q0)
                  have eg : W'.cell? ⟨G, 0, none⟩ = some (.int .i64 fr) := cell_of_row _ _ 0 _ _ _ ((hbx.block _ (Array.getElem?_eq_some_iff.1 HST.out.qg).1).trans HSW.out.qg)
                  have r2 := (hbx.block _ (by omega)).trans HSW.out.q2
                  have e2 : W'.cell? ⟨w.heap.size + 1 + 1, 0, none⟩ = some (.bool false) := cell_of_row _ _ 0 _ _ _ r2
                  have f2' : W'.frozen? ⟨w.heap.size + 1 + 1, 0, none⟩ = false := frozen_of_row _ _ _ _ _ r2
                  have e12 : W'.cell? ⟨W.heap.size, 0, none⟩ = some (.int .i64 p') := cell_of_row _ _ 0 _ _ _ k12
                  have f12 : W'.frozen? ⟨W.heap.size, 0, none⟩ = false := frozen_of_row _ _ _ _ _ k12
                  obtain ⟨q', hq'⟩ : ∃ q' : Nat, q' = x'.1 := ⟨_, rfl⟩
                  have hqN' : q' < xs.length := by rw [hq']; exact x'.2
                  obtain ⟨y', hy'⟩ : ∃ y, y = xs[x'.1] := ⟨_, rfl⟩
                  have hyq' : xs[q'] = y' := by subst hq'; exact hy'.symm
                  obtain ⟨ad2, hAd2, _, hca2⟩ := (HA.out.below hbw).at_ hqN'
                  cases hAd2
                  rw [hyq'] at hca2
                  obtain ⟨c0, c1, c2, c3, c4⟩ := hca2.five
                  obtain ⟨pl', hpl'⟩ : ∃ pl' : Int, pl' = (x'.1:Int) + 1 := ⟨_, rfl⟩
                  rw [← hy'] at hrow' ⊢
                  rw [← hpl']
                  have b0 : W'.cell? ⟨Bx', 0, none⟩ = some (.int .i64 y'.client) := cell_of_row _ _ 0 _ _ _ hrow'
                  have b1 : W'.cell? ⟨Bx', 1, none⟩ = some (.int .i64 y'.number) := cell_of_row _ _ 1 _ _ _ hrow'
                  have b2 : W'.cell? ⟨Bx', 2, none⟩ = some (.int .i64 y'.op.kind) := cell_of_row _ _ 2 _ _ _ hrow'
                  have b3 : W'.cell? ⟨Bx', 3, none⟩ = some (.int .i64 y'.op.slot) := cell_of_row _ _ 3 _ _ _ hrow'
                  have b4 : W'.cell? ⟨Bx', 4, none⟩ = some (.string y'.op.value) := cell_of_row _ _ 4 _ _ _ hrow'
                  have hfs := HFS.out
                  have hfrN := HFRN.out
                  have i1' : (q':Int) < (xs.length:Int) := by omega
                  have i2' : (0:Int) ≤ (q':Int) := by omega
                  have kw' : IntKind.i64.wrap ((p':Int) + 1) = (p':Int) + 1 := IntWalk.i64_in _ (by omega)
                  have kP' : IntKind.i64.wrap (pl' - 1) = (q':Int) := by rw [show pl' - 1 = (q':Int) by omega]; exact IntWalk.i64_in _ (by omega)
                  have hgN : ¬ ((xs.length:Int) < pl') := by omega
                  have hgN2 : decide ((xs.length:Int) < pl') = false := decide_eq_false hgN
                  obtain ⟨v, hv⟩ : ∃ v : Int, v = fr + p' := ⟨_, rfl⟩
                  have kA' : IntKind.i64.wrap (fr + (p':Int)) = v := by rw [hv]; exact IntWalk.i64_in _ (by omega)
                  have he' := neq_entry y' y'
                  have hpx : pre' ++ [x'] <+: places xs.length s → q' = s + p' := fun h => by have := prefix_last' h; omega
                  have HPX2 := Lib.hid hpx
                  have HK12 := Lib.hid k12
                  have HB2 := Lib.hid hB2
                  have HPP := Lib.hid hp'
                  have hBX2 : Bs0 + 1 ≤ W.heap.size := by omega
                  have HV' := Lib.hid hv
                  have HPL' := Lib.hid hpl'
                  rw [htn]
                  clear HTN htn hS2
                  simp only [List.setIfInBounds_toArray, List.set_cons_succ, List.set_cons_zero]
                  rw [show decide (y' = y') = true from decide_eq_true rfl] at he'
                  clear he d0 d4 d2 f2 d9 f9 d4' d1' d9' dE dg kA kP kS kw2 hgt hgt2
                  by_cases hc' : q' = s + p'
                  · have hpv : pl' = v := by omega
                    subst hpv
                    clear hpx hca2 hp' hy' hyq' hB2 hbw hbx r2 k12 hrow' hfs hfrN hc' hpl' hq' hv
                    gi_wp2_with fail
                    refine wpIn_region_quietR (by kernel_rfl) (by kernel_rfl) (by kernel_rfl) ?_
                    repeat (gi_big_quiet_step (fail))
                    refine wpQuietIn_nil ?_
                    rintro _ ⟨nr, rfl⟩
                    gi_wp2_with fail
                    exact ⟨((KeepsOthers.drewN W' nr).trans (KeepsOthers.setCell _ _ _)).from _, (show Mid lo (Bs0 + 1) W' (W'.drewN nr) from ⟨Nat.le_refl _, fun _ _ _ => rfl⟩).setCell (p := ⟨W.heap.size, 0, none⟩) (.inr hBX2) _, by rw [heap_setCell_same (W'.drewN nr) W.heap.size 0 _ _ _ HK12.out, List.length_append, ← HPP.out]; rfl, (below_drewN HB2.out nr).setCell (by rw [HVS.out]; exact Nat.le_refl _) _⟩
                  · have hv1 : ¬ pl' = v := by omega
                    have hv2 : (pl' == v) = false := by simpa using hv1
                    have hv3 : (pl' != v) = true := by simpa using hv1
                    have hv4 : decide (pl' = v) = false := decide_eq_false hv1
                    have HQS2 : Hid (¬ q' = s + p') := hc'
                    clear hpx hca2 hp' hy' hyq' hB2 hbw hbx r2 k12 hrow' hfs hfrN hc' hpl' hq' hv
                    gi_wp2_with fail
                    refine wpIn_region_quietR (by kernel_rfl) (by kernel_rfl) (by kernel_rfl) ?_
                    repeat (gi_big_quiet_step (fail))
                    refine wpQuietIn_nil ?_
                    rintro _ ⟨nr, rfl⟩
                    gi_wp2_with fail
                    exact ⟨((KeepsOthers.drewN W' nr).trans (KeepsOthers.setCell _ _ _)).from _, rfl, fun h => HQS2.out (HPX2.out h)⟩
                case stopn =>
                  rintro c pre' W' hSp h
                  exact absurd hSp h.2
                case donen =>
                  rintro ys W' rfl ⟨k12, hB2⟩
                  obtain ⟨nn, hnn⟩ : ∃ nn : Nat, nn = xs.length - s := ⟨_, rfl⟩
                  have hlN : (places xs.length s).length = nn := by simp [places, hnn]
                  rw [hlN] at k12
                  have hq0 : w.heap.size + 2 < X0.heap.size := (Array.getElem?_eq_some_iff.1 HST.out.q2).1
                  have hbx : Below X0.heap.size W W' := hBV.trans (hB2.mono (by omega))
                  have e0 : W'.cell? ⟨w.heap.size, 0, none⟩ = some (.slice (some ad) xs.length c) := cell_of_row _ _ 0 _ _ _ ((hbx.block _ (by omega)).trans HSW.out.q0)
                  have eg : W'.cell? ⟨G, 0, none⟩ = some (.int .i64 fr) := cell_of_row _ _ 0 _ _ _ ((hbx.block _ (Array.getElem?_eq_some_iff.1 HST.out.qg).1).trans HSW.out.qg)
                  have e12 : W'.cell? ⟨W.heap.size, 0, none⟩ = some (.int .i64 (nn : Nat)) := cell_of_row _ _ 0 _ _ _ k12
                  have hfs := HFS.out
                  have hfrN := HFRN.out
                  obtain ⟨di, hdi⟩ : ∃ di : Int, (xs.length:Int) - fr = di := ⟨_, rfl⟩
                  have kD : IntKind.i64.wrap ((xs.length:Int) - fr) = di := by rw [hdi]; exact IntWalk.i64_in _ (by omega)
                  have kJ : IntKind.i64.wrap (di + 1) = (nn:Int) := by rw [show di + 1 = (nn:Int) by omega]; exact IntWalk.i64_in _ (by omega)
                  have hfin : ownPostG X1.heap.size (Mid lo (Bs0 + 1)) (fun pre W => W.heap[X0.heap.size]? = some (.cells #[.int .i64 (pre.length : Nat)] 3 (0, 0)) ∧ Below X0.heap.size X1 W) (fun c pre W => c = .ret ∧ ¬ (pre <+: places xs.length s)) (pre ++ [x]) W .normal { tmps := tn, defers := [] } W' :=
                    ⟨HKV.out.trans (KeepsFrom.of_below hB2), Mid.of_below (hbx.mono (by omega)), ((hB2.block _ (by omega)).trans HN9.out).trans (by rw [List.length_append, ← HP.out, HP2.out]; rfl), HBW.out.trans hbx⟩
                  have HFIN := Lib.hid hfin
                  clear hfin k12 hB2 hbx hlN hnn hdi hfs hfrN
                  clear he d0 d4 d2 f2 d9 f9 d4' d1' d9' dE hS2 dg kA kP kS kw2 hgt hgt2
                  rw [htn]
                  clear HTN htn
                  gi_wp2_with fail
                  exact HFIN.out
              · obtain ⟨qq, hqq⟩ : ∃ qq : Int, (p:Int) + 1 = qq := ⟨_, rfl⟩
                have kw2 : IntKind.i64.wrap ((p:Int) + 1) = qq := kw.trans hqq
                have hq2 : ¬ qq = 2 := by omega
                have hq3 : decide (qq = 2) = false := decide_eq_false hq2
                rw [hqq] at d4' d1' d9'
                have HQ := Lib.hid hqq
                clear kw hqq h2
                gi_wp2_with fail
                exact ⟨((KeepsOthers.drewN W nq).trans (KeepsOthers.setCell _ _ _)).from _, (show Mid lo (Bs0 + 1) W (W.drewN nq) from ⟨Nat.le_refl _, fun _ _ _ => rfl⟩).setCell (p := ⟨X0.heap.size, 0, none⟩) (.inr hBX) _, by rw [heap_setCell_same (W.drewN nq) X0.heap.size 0 _ _ _ HK9.out, List.length_append, ← HP.out, ← HQ.out]; rfl, (below_drewN HBW.out nq).setCell (Nat.le_refl _) _⟩
            · by_cases hgt : m0 < fr
              · have hgt2 : decide (m0 < fr) = true := decide_eq_true hgt
                have HQS : Hid (¬ q = s + p) := hc
                clear hpx hca hst hp hy hyq k9 hB hoth hplq hm0 hfs HFR hc hpl hrow hq
                gi_wp2_with fail
                refine wpIn_region_quietR (by kernel_rfl) (by kernel_rfl) (by kernel_rfl) ?_
                repeat (gi_big_quiet_step (fail))
                refine wpQuietIn_nil ?_
                rintro _ ⟨nq, rfl⟩
                gi_wp2_with fail
                exact ⟨((KeepsOthers.drewN W nq).trans (KeepsOthers.setCell _ _ _)).from _, rfl, fun h => HQS.out (HPX.out h)⟩
              · have hgt2 : decide (m0 < fr) = false := decide_eq_false hgt
                obtain ⟨v, hv⟩ : ∃ v : Int, v = fr + p := ⟨_, rfl⟩
                have kA : IntKind.i64.wrap (fr + (p:Int)) = v := by rw [hv]; exact IntWalk.i64_in _ (by omega)
                have hv1 : ¬ pl = v := by omega
                have hv2 : (pl == v) = false := by simpa using hv1
                have hv3 : (pl != v) = true := by simpa using hv1
                have hv4 : decide (pl = v) = false := decide_eq_false hv1
                have HQS : Hid (¬ q = s + p) := hc
                clear hpx hca hst hp hy hyq k9 hB hoth hplq hm0 hfs HFR hc hpl hrow hq hv
                gi_wp2_with fail
                refine wpIn_region_quietR (by kernel_rfl) (by kernel_rfl) (by kernel_rfl) ?_
                repeat (gi_big_quiet_step (fail))
                refine wpQuietIn_nil ?_
                rintro _ ⟨nq, rfl⟩
                gi_wp2_with fail
                exact ⟨((KeepsOthers.drewN W nq).trans (KeepsOthers.setCell _ _ _)).from _, rfl, fun h => HQS.out (HPX.out h)⟩
          case done2 =>
            rintro D2 ys W hD rfl ⟨k9, hB⟩ hK
            have hst := HST.out.below (HBX.out.trans hB)
            obtain ⟨nn, hnn⟩ : ∃ nn : Nat, nn = xs.length - s := ⟨_, rfl⟩
            have hlN : (places xs.length s).length = nn := by simp [places, hnn]
            rw [hlN] at k9
            have d9 : W.cell? ⟨X0.heap.size, 0, none⟩ = some (.int .i64 (nn : Nat)) := cell_of_row _ _ 0 _ _ _ k9
            have dg : W.cell? ⟨G, 0, none⟩ = some (.int .i64 fr) := cell_of_row _ _ 0 _ _ _ hst.qg
            have hfs := HFS.out
            obtain ⟨N1, hN1⟩ : ∃ N1 : Int, N1 = (xs.length:Int) + 1 := ⟨_, rfl⟩
            have kN1 : IntKind.i64.wrap ((xs.length:Int) + 1) = N1 := by rw [hN1]; exact IntWalk.i64_in _ (by omega)
            obtain ⟨mi, hmi⟩ : ∃ mi : Int, min fr N1 = mi := ⟨_, rfl⟩
            obtain ⟨di, hdi⟩ : ∃ di : Int, (xs.length:Int) - mi = di := ⟨_, rfl⟩
            have kD : IntKind.i64.wrap ((xs.length:Int) - mi) = di := by rw [hdi]; exact IntWalk.i64_in _ (by omega)
            obtain ⟨dj, hdj⟩ : ∃ dj : Int, di + 1 = dj := ⟨_, rfl⟩
            have kJ : IntKind.i64.wrap (di + 1) = dj := by rw [hdj]; exact IntWalk.i64_in _ (by omega)
            have hmj : max 0 dj = (nn:Int) := by omega
            clear k9 hlN hnn hfs hN1 hdi hdj
            have hTX : T < X0.heap.size := (Array.getElem?_eq_some_iff.1 HST.out.q4).1
            have d0 : W.cell? ⟨w.heap.size, 0, none⟩ = some (.slice A xs.length c) := cell_of_row _ _ 0 _ _ _ hst.q0
            have d4 : W.cell? ⟨T, 0, none⟩ = some (.int .i64 2) := cell_of_row _ _ 0 _ _ _ hst.q4
            obtain ⟨X2, hX2⟩ : ∃ X2, X2 = W.alloc (.cells #[.int .i64 3] 3) := ⟨_, rfl⟩
            have hbX2 : Below W.heap.size W X2 := by rw [hX2]; exact (Below.refl _ _).alloc (Nat.le_refl _) _
            have hst2' := hst.below hbX2
            have hst2 : EachSt w X2 A c xs f fr stop Bf0 Bs0 lo E G W.heap.size 3 := ⟨hst2'.q0, hst2'.q1, hst2'.q2, hst2'.q3, hst2'.qg, by rw [hX2]; exact heap_alloc_new _ _, hst2'.hE, hst2'.hb, hst2'.h1, hst2'.h2, hst2'.hG, by have := hst.h3; have := (Array.getElem?_eq_some_iff.1 hst.q4).1; omega⟩
            have hlt0 := (Array.getElem?_eq_some_iff.1 hK).1
            have hK2 : X2.heap[D2]? = some (.deferred (some [])) := (hbX2.block _ hlt0).trans hK
            have hbB := HBX.out.trans hB
            have hK0 : X2.heap[D0]? = some (.deferred (some [])) := (hbX2.block _ (by have := hbB.size; have := (Array.getElem?_eq_some_iff.1 HD0.out).1; omega)).trans ((hbB.block _ (Array.getElem?_eq_some_iff.1 HD0.out).1).trans HD0.out)
            have HLT0_2 : Hid (D0 < D2) := by show _ < _; have := HBX.out.size; have := (Array.getElem?_eq_some_iff.1 HD0.out).1; omega
            clear hbB HD0
            have HD0 : Hid (X2.heap[D0]? = some (.deferred (some []))) := hK0
            clear hK0
            have hbB := HBX.out.trans hB
            have hK1 : X2.heap[D1]? = some (.deferred (some [])) := (hbX2.block _ (by have := hbB.size; have := (Array.getElem?_eq_some_iff.1 HD1.out).1; omega)).trans ((hbB.block _ (Array.getElem?_eq_some_iff.1 HD1.out).1).trans HD1.out)
            have HLT1_2 : Hid (D1 < D2) := by show _ < _; have := HBX.out.size; have := (Array.getElem?_eq_some_iff.1 HD1.out).1; omega
            clear hbB HD1
            have HD1 : Hid (X2.heap[D1]? = some (.deferred (some []))) := hK1
            clear hK1
            have HGE2 : Hid (w.heap.size + 3 ≤ D2) := by show _ ≤ _; have := (Array.getElem?_eq_some_iff.1 HST.out.q2).1; omega
            have HX2 := Lib.hid hX2
            have HD2 : Hid (X2.heap[D2]? = some (.deferred (some []))) := hK2
            have HST := Lib.hid hst2
            clear hX2 hbX2 hst2 hst2' hst hK2 hK hB HS1 HX1 HBX HN1 HL1 hl1 hqs hBX hS hlt0
            rw [htm]
            clear HTM htm
            go_wp2_with fail
            rw [← HX2.out]
            clear HX2 d0 d4 d9 dg kN1 hmi kD kJ hmj t0 k3 hTX
            generalize W.heap.size = T at *
            generalize X2 = X0 at *
            rw [rounds_succ]
            have t0 : X0.cell? ⟨T, 0, none⟩ = some (.int .i64 3) := cell_of_row _ _ 0 _ _ _ HST.out.q4
            go_wp2_with fail
            refine (works06 X0).mono ?_
            rintro e X5 ⟨rfl, hb5⟩
            have r2 := (hb5.block _ (Array.getElem?_eq_some_iff.1 HST.out.q2).1).trans HST.out.q2
            have d2 : X5.cell? ⟨w.heap.size + 1 + 1, 0, none⟩ = some (.bool false) := cell_of_row _ _ 0 _ _ _ r2
            have f2 : X5.frozen? ⟨w.heap.size + 1 + 1, 0, none⟩ = false := frozen_of_row _ _ _ _ _ r2
            have HB5 := Lib.hid hb5
            have HR2 := Lib.hid r2
            clear hb5 r2
            dsimp only
            go_wp2_with fail
            have hB5 := HB5.out
            have hsz0 := HST.out.hb.size
            refine leaves_marks (B := w.heap.size + 3) [D2, D1, D0] ?_ ?_ ?_
            · intro D hD
              have hlt : ∀ E : Nat, X0.heap[E]? = some (Obj.deferred (some [])) → (X5.setCell ⟨w.heap.size + 1 + 1, 0, none⟩ (.bool true)).heap[E]? = some (Obj.deferred (some [])) := fun E hE =>
                ((KeepsOthers.setCell X5 ⟨w.heap.size + 1 + 1, 0, none⟩ (.bool true)).from 0).same _ _ (Nat.zero_le _) ((hB5.block _ (Array.getElem?_eq_some_iff.1 hE).1).trans hE) rfl
              simp only [List.mem_cons, List.not_mem_nil, or_false] at hD
              rcases hD with rfl | rfl | rfl
              · exact ⟨hlt _ HD2.out, HGE2.out⟩
              · exact ⟨hlt _ HD1.out, HGE1.out⟩
              · exact ⟨hlt _ HD0.out, HGE0.out⟩
            · have h1 := HLT0_1.out
              have h2 := HLT0_2.out
              have h3 := HLT1_2.out
              simp only [List.nodup_cons, List.mem_cons, List.not_mem_nil, or_false, not_or, not_false_iff, List.nodup_nil, and_true]
              omega
            · intro w' hw'
              refine ⟨_, results_cell1 rfl _ _ (w.heap.size + 1 + 1) (.bool true) rfl aggBool ?_, rfl, ?_⟩
              · rw [hw'.cell (p := ⟨w.heap.size + 1 + 1, 0, none⟩) (by simp)]
                exact World.cell?_setCell_same' _ _ _ (by simp [d2])
              · exact ((HST.out.hb.trans (hB5.mono hsz0)).setCell (p := ⟨w.heap.size + 1 + 1, 0, none⟩) (by simp; omega) _).trans (hw'.mono (by omega))
          case stop2 =>
            rintro D c pre W hD hSp h
            exact absurd hSp h.2
        case stop1 =>
          rintro D1 c' pre W hD hSp h hK
          rcases h with h | ⟨rfl, hB⟩
          · exact absurd hSp h.2
          · refine wpIn_wide.2 ?_
            have hst := HST.out.below (HBX.out.trans hB)
            have hTX : T < X0.heap.size := (Array.getElem?_eq_some_iff.1 HST.out.q4).1
            have d0 : W.cell? ⟨w.heap.size, 0, none⟩ = some (.slice A xs.length c) := cell_of_row _ _ 0 _ _ _ hst.q0
            have d4 : W.cell? ⟨T, 0, none⟩ = some (.int .i64 1) := cell_of_row _ _ 0 _ _ _ hst.q4
            obtain ⟨X2, hX2⟩ : ∃ X2, X2 = W.alloc (.cells #[.int .i64 2] 3) := ⟨_, rfl⟩
            have hbX2 : Below W.heap.size W X2 := by rw [hX2]; exact (Below.refl _ _).alloc (Nat.le_refl _) _
            have hst2' := hst.below hbX2
            have hst2 : EachSt w X2 A c xs f fr stop Bf0 Bs0 lo E G W.heap.size 2 := ⟨hst2'.q0, hst2'.q1, hst2'.q2, hst2'.q3, hst2'.qg, by rw [hX2]; exact heap_alloc_new _ _, hst2'.hE, hst2'.hb, hst2'.h1, hst2'.h2, hst2'.hG, by have := hst.h3; have := (Array.getElem?_eq_some_iff.1 hst.q4).1; omega⟩
            have hlt0 := (Array.getElem?_eq_some_iff.1 hK).1
            have hK2 : X2.heap[D1]? = some (.deferred (some [])) := (hbX2.block _ hlt0).trans hK
            have hbB := HBX.out.trans hB
            have hK0 : X2.heap[D0]? = some (.deferred (some [])) := (hbX2.block _ (by have := hbB.size; have := (Array.getElem?_eq_some_iff.1 HD0.out).1; omega)).trans ((hbB.block _ (Array.getElem?_eq_some_iff.1 HD0.out).1).trans HD0.out)
            have HLT0_1 : Hid (D0 < D1) := by show _ < _; have := HBX.out.size; have := (Array.getElem?_eq_some_iff.1 HD0.out).1; omega
            clear hbB HD0
            have HD0 : Hid (X2.heap[D0]? = some (.deferred (some []))) := hK0
            clear hK0
            have HGE1 : Hid (w.heap.size + 3 ≤ D1) := by show _ ≤ _; have := (Array.getElem?_eq_some_iff.1 HST.out.q2).1; omega
            have HX2 := Lib.hid hX2
            have HD1 : Hid (X2.heap[D1]? = some (.deferred (some []))) := hK2
            have HST := Lib.hid hst2
            clear hX2 hbX2 hst2 hst2' hst hK2 hK hB HS1 HX1 HBX HN1 HL1 hl1 hqs hBX hS hlt0
            rw [htm]
            clear HTM htm
            go_wp2_with fail
            rw [← HX2.out]
            clear HX2 d0 d4 t0 k3 hTX
            generalize W.heap.size = T at *
            generalize X2 = X0 at *
            rw [rounds_succ]
            have t0 : X0.cell? ⟨T, 0, none⟩ = some (.int .i64 2) := cell_of_row _ _ 0 _ _ _ HST.out.q4
            obtain ⟨X1, hX1⟩ : ∃ X1, X1 = X0.alloc (.cells #[.int .i64 0] 3) := ⟨_, rfl⟩
            have hbX : Below X0.heap.size X0 X1 := by rw [hX1]; exact (Below.refl _ _).alloc (Nat.le_refl _) _
            have hs1 := HST.out.below hbX
            have hn1 : X1.heap[X0.heap.size]? = some (.cells #[.int .i64 0] 3 (0, 0)) := by rw [hX1]; exact heap_alloc_new _ _
            have hl1 : X1.heap.size = X0.heap.size + 1 := by rw [hX1]; simp
            have k3 : X1.cell? ⟨E, 0, none⟩ = some (.func (.func 9) #[] #[.pointer (some ⟨Bf0, 0, none⟩), .pointer (some ⟨Bs0, 0, none⟩)]) := cell_of_row _ _ 0 _ _ _ hs1.q3
            have HX1 := Lib.hid hX1
            have HBX := Lib.hid hbX
            have HS1 := Lib.hid hs1
            have HN1 := Lib.hid hn1
            have HL1 := Lib.hid hl1
            rw [hX1] at k3
            clear hX1 hbX hs1 hn1 hl1
            go_wp2_with fail
            rw [← HX1.out]
            refine (wpIn_wide (n := 6)).1 ?_
            refine wp_act ?_
            intro tm htm
            have HTM := Lib.hid htm
            obtain ⟨Bf', Bs', heq, hBs1, hBs2, hS⟩ := HS1.out.hE.stops HF.out (by omega)
            obtain ⟨rfl, rfl⟩ := func_box_inj2 heq
            clear heq
            rw [← HSF.out] at hS
            have hl1 := HL1.out
            have hqs := HST.out.hE
            have hBX : Bs0 < X0.heap.size := by
              obtain ⟨Bf, B, _, _, hv, _, hB1, hB, _⟩ := hqs
              have := func_box_inj2 hv
              omega
            refine wpIn_rangeFunc_ownH rfl (by omega) (gf := 9) (lb := #[.pointer (some ⟨Bf0, 0, none⟩), .pointer (some ⟨Bs0, 0, none⟩)]) (by rw [htm]; rfl) trivial (enters_of Try.func9 (by kernel_rfl) rfl)
              (hS _ X1 (Below.refl _ _)) midK_t (midK_b (by omega)) (Below.refl _ _) (fun _ => rfl)
              (fun pre W => W.heap[X0.heap.size]? = some (.cells #[.int .i64 (pre.length : Nat)] 3 (0, 0)) ∧ Below X0.heap.size X1 W)
              (fun c pre W => c = .ret ∧ ¬ (pre <+: places xs.length s))
              ?hI2 ?hIx2 ?h02
              (fun x a' W => ∃ Bx, X1.heap.size ≤ Bx ∧ W.heap[Bx]? = some (.cells #[.int .i64 xs[x.1].client, .int .i64 xs[x.1].number, .int .i64 xs[x.1].op.kind, .int .i64 xs[x.1].op.slot, .string xs[x.1].op.value] 32 (0, 0)) ∧ a' = { tmps := (((tm.setIfInBounds 58 (.int .i64 ((x.1:Int) + 1))).setIfInBounds 59 (.agg #[.int .i64 xs[x.1].client, .int .i64 xs[x.1].number, .int .i64 xs[x.1].op.kind, .int .i64 xs[x.1].op.slot, .string xs[x.1].op.value])).setIfInBounds 13 (.int .i64 ((x.1:Int) + 1))).setIfInBounds 14 (.pointer (some ⟨Bx, 0, none⟩)), defers := [] })
              ?hAx2 ?assign2 ?body2 ?done2 ?stop2
            case hI2 => exact OwnFrom.and (row_ownC _ _ (fun pre : List (Fin xs.length) => #[.int .i64 (pre.length : Nat)]) _) (ownFrom_below (by omega) (by omega))
            case hIx2 => intro c s X Y row hs hg hr; exact hs
            case h02 => exact ⟨HN1.out, Below.refl _ _⟩
            case hAx2 => intro x a' u X Y row hs hg hr; obtain ⟨Bx, h1, h2, h3⟩ := hs; exact ⟨Bx, h1, row_ownC _ Bx (fun (_ : Unit) => #[.int .i64 xs[x.1].client, .int .i64 xs[x.1].number, .int .i64 xs[x.1].op.kind, .int .i64 xs[x.1].op.slot, .string xs[x.1].op.value]) _ u X Y row h2 hg hr, h3⟩
            case assign2 =>
              rintro l pre x W K ⟨k9, hB⟩ hK
              dsimp only [encE]
              rw [htm]
              gi_wp2
              have hsW := hB.size
              exact hK _ _ ((KeepsOthers.alloc _ _).from _) ((Mid.refl W).alloc (by omega) _) ⟨(heap_alloc_old _ _ (Array.getElem?_eq_some_iff.1 k9).1).trans k9, hB.alloc (by omega) _⟩ ⟨W.heap.size, hsW, heap_alloc_new _ _, by rw [htm]; rfl⟩
            case body2 =>
              rintro l pre x a' W hl ⟨r, hr⟩ ⟨k9, hB⟩ ⟨Bx, hBx, hrow, rfl⟩ hlt
              have HRL := Lib.hid hr
              have hst := HST.out.below (HBX.out.trans hB)
              have HSW := Lib.hid hst
              obtain ⟨p, hp⟩ : ∃ p, p = pre.length := ⟨_, rfl⟩
              rw [← hp] at k9 hlt
              have d0 : W.cell? ⟨w.heap.size, 0, none⟩ = some (.slice A xs.length c) := cell_of_row _ _ 0 _ _ _ hst.q0
              have d4 : W.cell? ⟨T, 0, none⟩ = some (.int .i64 2) := cell_of_row _ _ 0 _ _ _ hst.q4
              have dg : W.cell? ⟨G, 0, none⟩ = some (.int .i64 fr) := cell_of_row _ _ 0 _ _ _ hst.qg
              have d2 : W.cell? ⟨w.heap.size + 1 + 1, 0, none⟩ = some (.bool false) := cell_of_row _ _ 0 _ _ _ hst.q2
              have f2 : W.frozen? ⟨w.heap.size + 1 + 1, 0, none⟩ = false := frozen_of_row _ _ _ _ _ hst.q2
              have d9 : W.cell? ⟨X0.heap.size, 0, none⟩ = some (.int .i64 p) := cell_of_row _ _ 0 _ _ _ k9
              have f9 : W.frozen? ⟨X0.heap.size, 0, none⟩ = false := frozen_of_row _ _ _ _ _ k9
              have hTX : T < X0.heap.size := (Array.getElem?_eq_some_iff.1 HST.out.q4).1
              have hoth : ∀ (b : Nat) (v u : Value), b < X0.heap.size → W.cell? ⟨b, 0, none⟩ = some v → ∀ k, ((W.drewN k).setCell ⟨X0.heap.size, 0, none⟩ u).cell? ⟨b, 0, none⟩ = some v := fun b v u hb h k => (World.cell?_setCell_other _ _ _ _ (fun e => by injection e with e1; omega)).trans h
              have d4' := hoth T _ (.int .i64 ((p:Int) + 1)) hTX d4
              have d1' := hoth (w.heap.size + 1) _ (.int .i64 ((p:Int) + 1)) (Array.getElem?_eq_some_iff.1 HST.out.q1).1 (show W.cell? ⟨w.heap.size + 1, 0, none⟩ = some (.int .i64 stop) from cell_of_row _ _ 0 _ _ _ hst.q1)
              have d9' : ∀ k, ((W.drewN k).setCell ⟨X0.heap.size, 0, none⟩ (.int .i64 ((p:Int) + 1))).cell? ⟨X0.heap.size, 0, none⟩ = some (.int .i64 ((p:Int) + 1)) := fun k => World.cell?_setCell_same' _ _ _ (by simp [d9])
              obtain ⟨q, hq⟩ : ∃ q : Nat, q = x.1 := ⟨_, rfl⟩
              have hqN : q < xs.length := by rw [hq]; exact x.2
              obtain ⟨y, hy⟩ : ∃ y, y = xs[x.1] := ⟨_, rfl⟩
              have hyq : xs[q] = y := by subst hq; exact hy.symm
              obtain ⟨ad, hAd, _, hca⟩ := (HA.out.below hst.hb).at_ hqN
              rw [hyq] at hca
              obtain ⟨c0, c1, c2, c3, c4⟩ := hca.five
              obtain ⟨pl, hpl⟩ : ∃ pl : Int, pl = (x.1:Int) + 1 := ⟨_, rfl⟩
              rw [← hy] at hrow ⊢
              rw [← hpl]
              have b0 : W.cell? ⟨Bx, 0, none⟩ = some (.int .i64 y.client) := cell_of_row _ _ 0 _ _ _ hrow
              have b1 : W.cell? ⟨Bx, 1, none⟩ = some (.int .i64 y.number) := cell_of_row _ _ 1 _ _ _ hrow
              have b2 : W.cell? ⟨Bx, 2, none⟩ = some (.int .i64 y.op.kind) := cell_of_row _ _ 2 _ _ _ hrow
              have b3 : W.cell? ⟨Bx, 3, none⟩ = some (.int .i64 y.op.slot) := cell_of_row _ _ 3 _ _ _ hrow
              have b4 : W.cell? ⟨Bx, 4, none⟩ = some (.string y.op.value) := cell_of_row _ _ 4 _ _ _ hrow
              have hplq : pl = (q:Int) + 1 := by rw [hpl, hq]
              have hfs := HFS.out
              obtain ⟨m0, hm0⟩ : ∃ m0 : Int, m0 = (xs.length:Int) - p := ⟨_, rfl⟩
              have kS : IntKind.i64.wrap ((xs.length:Int) - p) = m0 := by rw [hm0]; exact IntWalk.i64_in _ (by omega)
              have i1 : (q:Int) < (xs.length:Int) := by omega
              have i2 : (0:Int) ≤ (q:Int) := by omega
              have kw : IntKind.i64.wrap ((p:Int) + 1) = (p:Int) + 1 := IntWalk.i64_in _ (by omega)
              have kP : IntKind.i64.wrap (pl - 1) = (q:Int) := by rw [show pl - 1 = (q:Int) by omega]; exact IntWalk.i64_in _ (by omega)
              have he := neq_entry y y
              have hge := guard_entry
              have hpx : pre ++ [x] <+: places xs.length s → q = s + p := fun h => by have := prefix_last' h; omega
              have HPX := Lib.hid hpx
              have HK9 := Lib.hid k9
              have HBW := Lib.hid hB
              have HP := Lib.hid hp
              have HPL := Lib.hid hplq
              have HM0 := Lib.hid hm0
              have HFR := HFR2.out
              subst hAd
              rw [htm]
              clear HTM htm hS
              simp only [List.setIfInBounds_toArray, List.set_cons_succ, List.set_cons_zero]
              rw [show decide (y = y) = true from decide_eq_true rfl] at he
              by_cases hc : q = s + p
              · have hgt : ¬ m0 < fr := by omega
                have hgt2 : decide (m0 < fr) = false := decide_eq_false hgt
                have kA : IntKind.i64.wrap (fr + (p:Int)) = pl := by rw [show fr + (p:Int) = pl by omega]; exact IntWalk.i64_in _ (by omega)
                have HQS : Hid (q = s + p) := hc
                clear hpx hca hst hp hy hyq k9 hB hoth hplq hm0 hfs HFR hc hpl hrow hq
                have HFRN : Hid (p = 1 → fr ≤ (xs.length:Int)) := by show _ → _; intro hp1; have := HQS.out; have := HFS.out; omega
                gi_wp2_with fail
                refine wpIn_region_quietR (by kernel_rfl) (by kernel_rfl) (by kernel_rfl) ?_
                repeat (gi_big_quiet_step (fail))
                refine wpQuietIn_nil ?_
                rintro _ ⟨nq, rfl⟩
                by_cases h2 : p = 1
                · have HFRN : Hid (fr ≤ (xs.length:Int)) := HFRN.out h2
                  have kw2 : IntKind.i64.wrap ((p:Int) + 1) = 2 := by rw [kw]; omega
                  have e2 : (p:Int) + 1 = 2 := by omega
                  have HP2 : Hid (p = 1) := h2
                  rw [e2] at d4' d1' d9'
                  clear kw e2 h2
                  obtain ⟨V, hV⟩ : ∃ V, V = (W.drewN nq).setCell ⟨X0.heap.size, 0, none⟩ (.int .i64 2) := ⟨_, rfl⟩
                  obtain ⟨V1, hV1⟩ : ∃ V1, V1 = V.alloc (.cells #[.int .i64 0] 3) := ⟨_, rfl⟩
                  have hVs : V.heap.size = W.heap.size := by rw [hV]; simp [World.setCell]
                  have hbV : Below X0.heap.size W V := by rw [hV]; exact Below.setCell (p := ⟨X0.heap.size, 0, none⟩) (below_drewN (Below.refl X0.heap.size W) nq) (Nat.le_refl _) _
                  have hbV1 : Below V.heap.size V V1 := by rw [hV1]; exact (Below.refl _ _).alloc (Nat.le_refl _) _
                  have hEX : E < X0.heap.size := (Array.getElem?_eq_some_iff.1 HST.out.q3).1
                  have hXW : X0.heap.size < W.heap.size := (Array.getElem?_eq_some_iff.1 HK9.out).1
                  have dE : V1.cell? ⟨E, 0, none⟩ = some (.func (.func 9) #[] #[.pointer (some ⟨Bf0, 0, none⟩), .pointer (some ⟨Bs0, 0, none⟩)]) := cell_of_row _ _ 0 _ _ _ ((hbV1.block _ (by omega)).trans ((hbV.block _ hEX).trans HSW.out.q3))
                  have hrV : V1.heap[l]? = some (.loop r) := by
                    have hlW : l < W.heap.size := (Array.getElem?_eq_some_iff.1 HRL.out).1
                    rw [hbV1.block _ (by omega), hV]
                    exact (((KeepsOthers.drewN W nq).trans (KeepsOthers.setCell _ ⟨X0.heap.size, 0, none⟩ (.int .i64 2))).from X1.heap.size).same _ _ hl HRL.out rfl
                  have hm1 : V1.heap[W.heap.size]? = some (.cells #[.int .i64 0] 3 (0, 0)) := by rw [hV1, ← hVs]; exact heap_alloc_new _ _
                  have hkV : KeepsFrom X1.heap.size W V := by rw [hV]; exact ((KeepsOthers.drewN W nq).trans (KeepsOthers.setCell _ _ _)).from _
                  have hn9 : V.heap[X0.heap.size]? = some (.cells #[.int .i64 2] 3 (0, 0)) := by rw [hV]; exact heap_setCell_same (W.drewN nq) X0.heap.size 0 _ _ _ HK9.out
                  have hzV1 : V1.heap.size = W.heap.size + 1 := by rw [hV1]; simp [hVs]
                  have HV := Lib.hid hV
                  have HV1 := Lib.hid hV1
                  have HVS := Lib.hid hVs
                  have HBV := Lib.hid hbV
                  have HBV1 := Lib.hid hbV1
                  have HRV := Lib.hid hrV
                  have HM1' := Lib.hid hm1
                  have HKV := Lib.hid hkV
                  have HN9 := Lib.hid hn9
                  have HZV1 := Lib.hid hzV1
                  rw [hV1, hV] at dE
                  clear hV hV1 hVs hbV hbV1 hrV hm1 hkV hn9 hzV1
                  gi_wp2_with fail
                  rw [← HV.out, ← HV1.out]
                  refine wp_act ?_
                  intro tn htn
                  have HTN := Lib.hid htn
                  obtain ⟨Bf2, Bs2, heq2, hB21, hB22, hS2⟩ := HS1.out.hE.stops HF.out (by omega)
                  obtain ⟨rfl, rfl⟩ := func_box_inj2 heq2
                  clear heq2
                  rw [← HSF.out] at hS2
                  have hBW := HBW.out
                  have hBV := HBV.out
                  have hBV1 := HBV1.out
                  have hVS := HVS.out
                  have hzv := HZV1.out
                  have hbX1 : Below X0.heap.size X1 V1 := (hBW.trans hBV).trans (hBV1.mono (by omega))
                  have hmono1 : V.heap.size ≤ V1.heap.size := hBV1.size
                  refine wpIn_rangeFunc_ownN (l₀ := l) (r₀ := r) rfl HRV.out (by omega) (gf := 9) (lb := #[.pointer (some ⟨Bf0, 0, none⟩), .pointer (some ⟨Bs0, 0, none⟩)]) (by rw [htn]; rfl) trivial (enters_of Try.func9 (by kernel_rfl) rfl)
                    ((hS2 _ V1 (hbX1.mono (by omega))).inRound l) midK_t (midK_b (by omega)) (Below.refl _ _) (fun _ => rfl)
                    (fun pre' W' => W'.heap[W.heap.size]? = some (.cells #[.int .i64 (pre'.length : Nat)] 3 (0, 0)) ∧ Below V.heap.size V W')
                    (fun c pre' W' => c = .ret ∧ ¬ (pre' <+: places xs.length s))
                    ?hIn ?hIxn ?h0n
                    (fun x' a' W' => ∃ Bx', V1.heap.size ≤ Bx' ∧ W'.heap[Bx']? = some (.cells #[.int .i64 xs[x'.1].client, .int .i64 xs[x'.1].number, .int .i64 xs[x'.1].op.kind, .int .i64 xs[x'.1].op.slot, .string xs[x'.1].op.value] 32 (0, 0)) ∧ a' = { tmps := (((tn.setIfInBounds 98 (.int .i64 ((x'.1:Int) + 1))).setIfInBounds 99 (.agg #[.int .i64 xs[x'.1].client, .int .i64 xs[x'.1].number, .int .i64 xs[x'.1].op.kind, .int .i64 xs[x'.1].op.slot, .string xs[x'.1].op.value])).setIfInBounds 16 (.int .i64 ((x'.1:Int) + 1))).setIfInBounds 17 (.pointer (some ⟨Bx', 0, none⟩)), defers := [] })
                    ?hAxn ?assignn ?bodyn ?donen ?stopn
                  case hIn => exact OwnFrom.and (row_ownC _ _ (fun pre : List (Fin xs.length) => #[.int .i64 (pre.length : Nat)]) _) (ownFrom_below (by omega) (by omega))
                  case hIxn => intro c s X Y row hs hg hr; exact hs
                  case h0n => exact ⟨HM1'.out, hBV1⟩
                  case hAxn => intro x' a' u X Y row hs hg hr; obtain ⟨Bx', h1, h2, h3⟩ := hs; exact ⟨Bx', h1, row_ownC _ Bx' (fun (_ : Unit) => #[.int .i64 xs[x'.1].client, .int .i64 xs[x'.1].number, .int .i64 xs[x'.1].op.kind, .int .i64 xs[x'.1].op.slot, .string xs[x'.1].op.value]) _ u X Y row h2 hg hr, h3⟩
                  case assignn =>
                    rintro l2 pre' x' W' K ⟨k12, hB2⟩ hK
                    dsimp only [encE]
                    rw [htn]
                    gi_wp2
                    have hsW' := hB2.size
                    have hk12 := (Array.getElem?_eq_some_iff.1 k12).1
                    exact hK _ _ ((KeepsOthers.alloc _ _).from _) ((Mid.refl W').alloc (by omega) _) ⟨(heap_alloc_old _ _ hk12).trans k12, hB2.alloc (by omega) _⟩ ⟨W'.heap.size, by omega, heap_alloc_new _ _, by rw [htn]; rfl⟩
                  case bodyn =>
                    rintro l2 pre' x' a' W' hl2 _ ⟨k12, hB2⟩ ⟨Bx', hBx', hrow', rfl⟩ hlt2
                    have hq0 : w.heap.size + 2 < X0.heap.size := (Array.getElem?_eq_some_iff.1 HST.out.q2).1
                    have hbw : Below w.heap.size w W' := (HSW.out.hb.trans (hBV.mono (by omega))).trans (hB2.mono (by omega))
                    have hbx : Below X0.heap.size W W' := hBV.trans (hB2.mono (by omega))
                    obtain ⟨p', hp'⟩ : ∃ p', p' = pre'.length := ⟨_, rfl⟩
                    rw [← hp'] at k12 hlt2
                    have e0 : W'.cell? ⟨w.heap.size, 0, none⟩ = some (.slice (some ad) xs.length c) := cell_of_row _ _ 0 _ _ _ ((hbx.block _ (by omega)).trans HSW.out.q0)
                    have eg : W'.cell? ⟨G, 0, none⟩ = some (.int .i64 fr) := cell_of_row _ _ 0 _ _ _ ((hbx.block _ (Array.getElem?_eq_some_iff.1 HST.out.qg).1).trans HSW.out.qg)
                    have r2 := (hbx.block _ (by omega)).trans HSW.out.q2
                    have e2 : W'.cell? ⟨w.heap.size + 1 + 1, 0, none⟩ = some (.bool false) := cell_of_row _ _ 0 _ _ _ r2
                    have f2' : W'.frozen? ⟨w.heap.size + 1 + 1, 0, none⟩ = false := frozen_of_row _ _ _ _ _ r2
                    have e12 : W'.cell? ⟨W.heap.size, 0, none⟩ = some (.int .i64 p') := cell_of_row _ _ 0 _ _ _ k12
                    have f12 : W'.frozen? ⟨W.heap.size, 0, none⟩ = false := frozen_of_row _ _ _ _ _ k12
                    obtain ⟨q', hq'⟩ : ∃ q' : Nat, q' = x'.1 := ⟨_, rfl⟩
                    have hqN' : q' < xs.length := by rw [hq']; exact x'.2
                    obtain ⟨y', hy'⟩ : ∃ y, y = xs[x'.1] := ⟨_, rfl⟩
                    have hyq' : xs[q'] = y' := by subst hq'; exact hy'.symm
                    obtain ⟨ad2, hAd2, _, hca2⟩ := (HA.out.below hbw).at_ hqN'
                    cases hAd2
                    rw [hyq'] at hca2
                    obtain ⟨c0, c1, c2, c3, c4⟩ := hca2.five
                    obtain ⟨pl', hpl'⟩ : ∃ pl' : Int, pl' = (x'.1:Int) + 1 := ⟨_, rfl⟩
                    rw [← hy'] at hrow' ⊢
                    rw [← hpl']
                    have b0 : W'.cell? ⟨Bx', 0, none⟩ = some (.int .i64 y'.client) := cell_of_row _ _ 0 _ _ _ hrow'
                    have b1 : W'.cell? ⟨Bx', 1, none⟩ = some (.int .i64 y'.number) := cell_of_row _ _ 1 _ _ _ hrow'
                    have b2 : W'.cell? ⟨Bx', 2, none⟩ = some (.int .i64 y'.op.kind) := cell_of_row _ _ 2 _ _ _ hrow'
                    have b3 : W'.cell? ⟨Bx', 3, none⟩ = some (.int .i64 y'.op.slot) := cell_of_row _ _ 3 _ _ _ hrow'
                    have b4 : W'.cell? ⟨Bx', 4, none⟩ = some (.string y'.op.value) := cell_of_row _ _ 4 _ _ _ hrow'
                    have hfs := HFS.out
                    have hfrN := HFRN.out
                    have i1' : (q':Int) < (xs.length:Int) := by omega
                    have i2' : (0:Int) ≤ (q':Int) := by omega
                    have kw' : IntKind.i64.wrap ((p':Int) + 1) = (p':Int) + 1 := IntWalk.i64_in _ (by omega)
                    have kP' : IntKind.i64.wrap (pl' - 1) = (q':Int) := by rw [show pl' - 1 = (q':Int) by omega]; exact IntWalk.i64_in _ (by omega)
                    have hgN : ¬ ((xs.length:Int) < pl') := by omega
                    have hgN2 : decide ((xs.length:Int) < pl') = false := decide_eq_false hgN
                    obtain ⟨v, hv⟩ : ∃ v : Int, v = fr + p' := ⟨_, rfl⟩
                    have kA' : IntKind.i64.wrap (fr + (p':Int)) = v := by rw [hv]; exact IntWalk.i64_in _ (by omega)
                    have he' := neq_entry y' y'
                    have hpx : pre' ++ [x'] <+: places xs.length s → q' = s + p' := fun h => by have := prefix_last' h; omega
                    have HPX2 := Lib.hid hpx
                    have HK12 := Lib.hid k12
                    have HB2 := Lib.hid hB2
                    have HPP := Lib.hid hp'
                    have hBX2 : Bs0 + 1 ≤ W.heap.size := by omega
                    have HV' := Lib.hid hv
                    have HPL' := Lib.hid hpl'
                    rw [htn]
                    clear HTN htn hS2
                    simp only [List.setIfInBounds_toArray, List.set_cons_succ, List.set_cons_zero]
                    rw [show decide (y' = y') = true from decide_eq_true rfl] at he'
                    clear he d0 d4 d2 f2 d9 f9 d4' d1' d9' dE dg kA kP kS kw2 hgt hgt2
                    by_cases hc' : q' = s + p'
                    · have hpv : pl' = v := by omega
                      subst hpv
                      clear hpx hca2 hp' hy' hyq' hB2 hbw hbx r2 k12 hrow' hfs hfrN hc' hpl' hq' hv
                      gi_wp2_with fail
                      refine wpIn_region_quietR (by kernel_rfl) (by kernel_rfl) (by kernel_rfl) ?_
                      repeat (gi_big_quiet_step (fail))
                      refine wpQuietIn_nil ?_
                      rintro _ ⟨nr, rfl⟩
                      gi_wp2_with fail
                      exact ⟨((KeepsOthers.drewN W' nr).trans (KeepsOthers.setCell _ _ _)).from _, (show Mid lo (Bs0 + 1) W' (W'.drewN nr) from ⟨Nat.le_refl _, fun _ _ _ => rfl⟩).setCell (p := ⟨W.heap.size, 0, none⟩) (.inr hBX2) _, by rw [heap_setCell_same (W'.drewN nr) W.heap.size 0 _ _ _ HK12.out, List.length_append, ← HPP.out]; rfl, (below_drewN HB2.out nr).setCell (by rw [HVS.out]; exact Nat.le_refl _) _⟩
                    · have hv1 : ¬ pl' = v := by omega
                      have hv2 : (pl' == v) = false := by simpa using hv1
                      have hv3 : (pl' != v) = true := by simpa using hv1
                      have hv4 : decide (pl' = v) = false := decide_eq_false hv1
                      have HQS2 : Hid (¬ q' = s + p') := hc'
                      clear hpx hca2 hp' hy' hyq' hB2 hbw hbx r2 k12 hrow' hfs hfrN hc' hpl' hq' hv
                      gi_wp2_with fail
                      refine wpIn_region_quietR (by kernel_rfl) (by kernel_rfl) (by kernel_rfl) ?_
                      repeat (gi_big_quiet_step (fail))
                      refine wpQuietIn_nil ?_
                      rintro _ ⟨nr, rfl⟩
                      gi_wp2_with fail
                      exact ⟨((KeepsOthers.drewN W' nr).trans (KeepsOthers.setCell _ _ _)).from _, rfl, fun h => HQS2.out (HPX2.out h)⟩
                  case stopn =>
                    rintro c pre' W' hSp h
                    exact absurd hSp h.2
                  case donen =>
                    rintro ys W' rfl ⟨k12, hB2⟩
                    obtain ⟨nn, hnn⟩ : ∃ nn : Nat, nn = xs.length - s := ⟨_, rfl⟩
                    have hlN : (places xs.length s).length = nn := by simp [places, hnn]
                    rw [hlN] at k12
                    have hq0 : w.heap.size + 2 < X0.heap.size := (Array.getElem?_eq_some_iff.1 HST.out.q2).1
                    have hbx : Below X0.heap.size W W' := hBV.trans (hB2.mono (by omega))
                    have e0 : W'.cell? ⟨w.heap.size, 0, none⟩ = some (.slice (some ad) xs.length c) := cell_of_row _ _ 0 _ _ _ ((hbx.block _ (by omega)).trans HSW.out.q0)
                    have eg : W'.cell? ⟨G, 0, none⟩ = some (.int .i64 fr) := cell_of_row _ _ 0 _ _ _ ((hbx.block _ (Array.getElem?_eq_some_iff.1 HST.out.qg).1).trans HSW.out.qg)
                    have e12 : W'.cell? ⟨W.heap.size, 0, none⟩ = some (.int .i64 (nn : Nat)) := cell_of_row _ _ 0 _ _ _ k12
                    have hfs := HFS.out
                    have hfrN := HFRN.out
                    obtain ⟨di, hdi⟩ : ∃ di : Int, (xs.length:Int) - fr = di := ⟨_, rfl⟩
                    have kD : IntKind.i64.wrap ((xs.length:Int) - fr) = di := by rw [hdi]; exact IntWalk.i64_in _ (by omega)
                    have kJ : IntKind.i64.wrap (di + 1) = (nn:Int) := by rw [show di + 1 = (nn:Int) by omega]; exact IntWalk.i64_in _ (by omega)
                    have hfin : ownPostG X1.heap.size (Mid lo (Bs0 + 1)) (fun pre W => W.heap[X0.heap.size]? = some (.cells #[.int .i64 (pre.length : Nat)] 3 (0, 0)) ∧ Below X0.heap.size X1 W) (fun c pre W => c = .ret ∧ ¬ (pre <+: places xs.length s)) (pre ++ [x]) W .normal { tmps := tn, defers := [] } W' :=
                      ⟨HKV.out.trans (KeepsFrom.of_below hB2), Mid.of_below (hbx.mono (by omega)), ((hB2.block _ (by omega)).trans HN9.out).trans (by rw [List.length_append, ← HP.out, HP2.out]; rfl), HBW.out.trans hbx⟩
                    have HFIN := Lib.hid hfin
                    clear hfin k12 hB2 hbx hlN hnn hdi hfs hfrN
                    clear he d0 d4 d2 f2 d9 f9 d4' d1' d9' dE hS2 dg kA kP kS kw2 hgt hgt2
                    rw [htn]
                    clear HTN htn
                    gi_wp2_with fail
                    exact HFIN.out
                · obtain ⟨qq, hqq⟩ : ∃ qq : Int, (p:Int) + 1 = qq := ⟨_, rfl⟩
                  have kw2 : IntKind.i64.wrap ((p:Int) + 1) = qq := kw.trans hqq
                  have hq2 : ¬ qq = 2 := by omega
                  have hq3 : decide (qq = 2) = false := decide_eq_false hq2
                  rw [hqq] at d4' d1' d9'
                  have HQ := Lib.hid hqq
                  clear kw hqq h2
                  gi_wp2_with fail
                  exact ⟨((KeepsOthers.drewN W nq).trans (KeepsOthers.setCell _ _ _)).from _, (show Mid lo (Bs0 + 1) W (W.drewN nq) from ⟨Nat.le_refl _, fun _ _ _ => rfl⟩).setCell (p := ⟨X0.heap.size, 0, none⟩) (.inr hBX) _, by rw [heap_setCell_same (W.drewN nq) X0.heap.size 0 _ _ _ HK9.out, List.length_append, ← HP.out, ← HQ.out]; rfl, (below_drewN HBW.out nq).setCell (Nat.le_refl _) _⟩
              · by_cases hgt : m0 < fr
                · have hgt2 : decide (m0 < fr) = true := decide_eq_true hgt
                  have HQS : Hid (¬ q = s + p) := hc
                  clear hpx hca hst hp hy hyq k9 hB hoth hplq hm0 hfs HFR hc hpl hrow hq
                  gi_wp2_with fail
                  refine wpIn_region_quietR (by kernel_rfl) (by kernel_rfl) (by kernel_rfl) ?_
                  repeat (gi_big_quiet_step (fail))
                  refine wpQuietIn_nil ?_
                  rintro _ ⟨nq, rfl⟩
                  gi_wp2_with fail
                  exact ⟨((KeepsOthers.drewN W nq).trans (KeepsOthers.setCell _ _ _)).from _, rfl, fun h => HQS.out (HPX.out h)⟩
                · have hgt2 : decide (m0 < fr) = false := decide_eq_false hgt
                  obtain ⟨v, hv⟩ : ∃ v : Int, v = fr + p := ⟨_, rfl⟩
                  have kA : IntKind.i64.wrap (fr + (p:Int)) = v := by rw [hv]; exact IntWalk.i64_in _ (by omega)
                  have hv1 : ¬ pl = v := by omega
                  have hv2 : (pl == v) = false := by simpa using hv1
                  have hv3 : (pl != v) = true := by simpa using hv1
                  have hv4 : decide (pl = v) = false := decide_eq_false hv1
                  have HQS : Hid (¬ q = s + p) := hc
                  clear hpx hca hst hp hy hyq k9 hB hoth hplq hm0 hfs HFR hc hpl hrow hq hv
                  gi_wp2_with fail
                  refine wpIn_region_quietR (by kernel_rfl) (by kernel_rfl) (by kernel_rfl) ?_
                  repeat (gi_big_quiet_step (fail))
                  refine wpQuietIn_nil ?_
                  rintro _ ⟨nq, rfl⟩
                  gi_wp2_with fail
                  exact ⟨((KeepsOthers.drewN W nq).trans (KeepsOthers.setCell _ _ _)).from _, rfl, fun h => HQS.out (HPX.out h)⟩
            case done2 =>
              rintro D2 ys W hD rfl ⟨k9, hB⟩ hK
              have hst := HST.out.below (HBX.out.trans hB)
              obtain ⟨nn, hnn⟩ : ∃ nn : Nat, nn = xs.length - s := ⟨_, rfl⟩
              have hlN : (places xs.length s).length = nn := by simp [places, hnn]
              rw [hlN] at k9
              have d9 : W.cell? ⟨X0.heap.size, 0, none⟩ = some (.int .i64 (nn : Nat)) := cell_of_row _ _ 0 _ _ _ k9
              have dg : W.cell? ⟨G, 0, none⟩ = some (.int .i64 fr) := cell_of_row _ _ 0 _ _ _ hst.qg
              have hfs := HFS.out
              obtain ⟨N1, hN1⟩ : ∃ N1 : Int, N1 = (xs.length:Int) + 1 := ⟨_, rfl⟩
              have kN1 : IntKind.i64.wrap ((xs.length:Int) + 1) = N1 := by rw [hN1]; exact IntWalk.i64_in _ (by omega)
              obtain ⟨mi, hmi⟩ : ∃ mi : Int, min fr N1 = mi := ⟨_, rfl⟩
              obtain ⟨di, hdi⟩ : ∃ di : Int, (xs.length:Int) - mi = di := ⟨_, rfl⟩
              have kD : IntKind.i64.wrap ((xs.length:Int) - mi) = di := by rw [hdi]; exact IntWalk.i64_in _ (by omega)
              obtain ⟨dj, hdj⟩ : ∃ dj : Int, di + 1 = dj := ⟨_, rfl⟩
              have kJ : IntKind.i64.wrap (di + 1) = dj := by rw [hdj]; exact IntWalk.i64_in _ (by omega)
              have hmj : max 0 dj = (nn:Int) := by omega
              clear k9 hlN hnn hfs hN1 hdi hdj
              have hTX : T < X0.heap.size := (Array.getElem?_eq_some_iff.1 HST.out.q4).1
              have d0 : W.cell? ⟨w.heap.size, 0, none⟩ = some (.slice A xs.length c) := cell_of_row _ _ 0 _ _ _ hst.q0
              have d4 : W.cell? ⟨T, 0, none⟩ = some (.int .i64 2) := cell_of_row _ _ 0 _ _ _ hst.q4
              obtain ⟨X2, hX2⟩ : ∃ X2, X2 = W.alloc (.cells #[.int .i64 3] 3) := ⟨_, rfl⟩
              have hbX2 : Below W.heap.size W X2 := by rw [hX2]; exact (Below.refl _ _).alloc (Nat.le_refl _) _
              have hst2' := hst.below hbX2
              have hst2 : EachSt w X2 A c xs f fr stop Bf0 Bs0 lo E G W.heap.size 3 := ⟨hst2'.q0, hst2'.q1, hst2'.q2, hst2'.q3, hst2'.qg, by rw [hX2]; exact heap_alloc_new _ _, hst2'.hE, hst2'.hb, hst2'.h1, hst2'.h2, hst2'.hG, by have := hst.h3; have := (Array.getElem?_eq_some_iff.1 hst.q4).1; omega⟩
              have hlt0 := (Array.getElem?_eq_some_iff.1 hK).1
              have hK2 : X2.heap[D2]? = some (.deferred (some [])) := (hbX2.block _ hlt0).trans hK
              have hbB := HBX.out.trans hB
              have hK0 : X2.heap[D0]? = some (.deferred (some [])) := (hbX2.block _ (by have := hbB.size; have := (Array.getElem?_eq_some_iff.1 HD0.out).1; omega)).trans ((hbB.block _ (Array.getElem?_eq_some_iff.1 HD0.out).1).trans HD0.out)
              have HLT0_2 : Hid (D0 < D2) := by show _ < _; have := HBX.out.size; have := (Array.getElem?_eq_some_iff.1 HD0.out).1; omega
              clear hbB HD0
              have HD0 : Hid (X2.heap[D0]? = some (.deferred (some []))) := hK0
              clear hK0
              have hbB := HBX.out.trans hB
              have hK1 : X2.heap[D1]? = some (.deferred (some [])) := (hbX2.block _ (by have := hbB.size; have := (Array.getElem?_eq_some_iff.1 HD1.out).1; omega)).trans ((hbB.block _ (Array.getElem?_eq_some_iff.1 HD1.out).1).trans HD1.out)
              have HLT1_2 : Hid (D1 < D2) := by show _ < _; have := HBX.out.size; have := (Array.getElem?_eq_some_iff.1 HD1.out).1; omega
              clear hbB HD1
              have HD1 : Hid (X2.heap[D1]? = some (.deferred (some []))) := hK1
              clear hK1
              have HGE2 : Hid (w.heap.size + 3 ≤ D2) := by show _ ≤ _; have := (Array.getElem?_eq_some_iff.1 HST.out.q2).1; omega
              have HX2 := Lib.hid hX2
              have HD2 : Hid (X2.heap[D2]? = some (.deferred (some []))) := hK2
              have HST := Lib.hid hst2
              clear hX2 hbX2 hst2 hst2' hst hK2 hK hB HS1 HX1 HBX HN1 HL1 hl1 hqs hBX hS hlt0
              rw [htm]
              clear HTM htm
              go_wp2_with fail
              rw [← HX2.out]
              clear HX2 d0 d4 d9 dg kN1 hmi kD kJ hmj t0 k3 hTX
              generalize W.heap.size = T at *
              generalize X2 = X0 at *
              rw [rounds_succ]
              have t0 : X0.cell? ⟨T, 0, none⟩ = some (.int .i64 3) := cell_of_row _ _ 0 _ _ _ HST.out.q4
              go_wp2_with fail
              refine (works06 X0).mono ?_
              rintro e X5 ⟨rfl, hb5⟩
              have r2 := (hb5.block _ (Array.getElem?_eq_some_iff.1 HST.out.q2).1).trans HST.out.q2
              have d2 : X5.cell? ⟨w.heap.size + 1 + 1, 0, none⟩ = some (.bool false) := cell_of_row _ _ 0 _ _ _ r2
              have f2 : X5.frozen? ⟨w.heap.size + 1 + 1, 0, none⟩ = false := frozen_of_row _ _ _ _ _ r2
              have HB5 := Lib.hid hb5
              have HR2 := Lib.hid r2
              clear hb5 r2
              dsimp only
              go_wp2_with fail
              have hB5 := HB5.out
              have hsz0 := HST.out.hb.size
              refine leaves_marks (B := w.heap.size + 3) [D2, D1, D0] ?_ ?_ ?_
              · intro D hD
                have hlt : ∀ E : Nat, X0.heap[E]? = some (Obj.deferred (some [])) → (X5.setCell ⟨w.heap.size + 1 + 1, 0, none⟩ (.bool true)).heap[E]? = some (Obj.deferred (some [])) := fun E hE =>
                  ((KeepsOthers.setCell X5 ⟨w.heap.size + 1 + 1, 0, none⟩ (.bool true)).from 0).same _ _ (Nat.zero_le _) ((hB5.block _ (Array.getElem?_eq_some_iff.1 hE).1).trans hE) rfl
                simp only [List.mem_cons, List.not_mem_nil, or_false] at hD
                rcases hD with rfl | rfl | rfl
                · exact ⟨hlt _ HD2.out, HGE2.out⟩
                · exact ⟨hlt _ HD1.out, HGE1.out⟩
                · exact ⟨hlt _ HD0.out, HGE0.out⟩
              · have h1 := HLT0_1.out
                have h2 := HLT0_2.out
                have h3 := HLT1_2.out
                simp only [List.nodup_cons, List.mem_cons, List.not_mem_nil, or_false, not_or, not_false_iff, List.nodup_nil, and_true]
                omega
              · intro w' hw'
                refine ⟨_, results_cell1 rfl _ _ (w.heap.size + 1 + 1) (.bool true) rfl aggBool ?_, rfl, ?_⟩
                · rw [hw'.cell (p := ⟨w.heap.size + 1 + 1, 0, none⟩) (by simp)]
                  exact World.cell?_setCell_same' _ _ _ (by simp [d2])
                · exact ((HST.out.hb.trans (hB5.mono hsz0)).setCell (p := ⟨w.heap.size + 1 + 1, 0, none⟩) (by simp; omega) _).trans (hw'.mono (by omega))
            case stop2 =>
              rintro D c pre W hD hSp h
              exact absurd hSp h.2
      case stop0 =>
        rintro D c pre W hD hSp h
        exact absurd hSp h.2

theorem each06_law (W : World) (A : Option Addr) (c n : Nat) (xs : List Entry) (hn : n = xs.length) (_ : n ≤ c) (hrd : Rd Entry.cells 5 W W.heap.size A xs) (_ : ∀ o ∈ xs, o.wf) (hsz : xs.length * 48 ≤ 140737488351232) (f : Int) (hf : I64 f) (s : Int) (_ : I64 s) :
    Calls Try.prog 3 #[.slice A n c, .int .i64 f, .int .i64 s] W fun e w' => e = .returned (.bool true) ∧ Below W.heap.size W w' :=
  each06_calls A c n xs f s hn hf W (by omega) hrd
end Go.Proofs.Ytbdcpoagdbkgeaa
