/- ClientOnce in plain lists: no two entries have one client and number; what 'last' holds; where a client's row lies in the table. Conditions: a good list.
ClientOnce at a list that is not good. Conditions: sizes within the form's own reach.
ClientOnce at a good list. Conditions: sizes within the form's own reach.
ClientOnce answers true, whatever the list. Conditions: sizes within the form's own reach. -/
import Derived.Test.YtnfilklgogaheaaClientM5
import Derived.Test.YtnfilklgogaheaaWorks04
namespace Go.Proofs.Ytnfilklgogaheaa
open Go.RowKit
set_option linter.unusedVariables false
set_option linter.unusedSimpArgs false

theorem once_ne {xs : List Entry} (h : GoodE xs) {k i : Nat} (hki : k < i) (hi : i < xs.length) : ¬ (xs[k].client = xs[i].client ∧ xs[k].number = xs[i].number) := by
  rintro ⟨h1, h2⟩
  have := good_rise h hki hi h1
  omega
/-- The sixteen places as 'last' holds them. -/
def lastL (xs : List Entry) : List Int := (List.range 16).map fun (c : Nat) => (lastP xs (c : Int) : Int)
theorem lastL_length (xs : List Entry) : (lastL xs).length = 16 := by simp [lastL]
theorem lastL_get (xs : List Entry) {c : Nat} (h : c < 16) : (lastL xs)[c]? = some (lastP xs (c : Int) : Int) := by simp [lastL, h]
theorem lastL_snoc (xs : List Entry) (x : Entry) {c : Nat} (hc : x.client = (c : Int)) (h : c < 16) : lastL (xs ++ [x]) = (lastL xs).set c ((xs.length : Int) + 1) := by
  refine List.ext_getElem? fun k => ?_
  rw [List.getElem?_set]
  by_cases hk : k < 16
  · rw [lastL_get _ hk, lastL_get _ hk, lastP_snoc, lastL_length]
    by_cases e : c = k
    · subst e; simp [hc, h]
    · have : ¬ x.client = (k : Int) := by omega
      rw [if_neg this, if_neg e]
  · have h1 : (lastL (xs ++ [x]))[k]? = none := by rw [List.getElem?_eq_none]; rw [lastL_length]; omega
    have h2 : (lastL xs)[k]? = none := by rw [List.getElem?_eq_none]; rw [lastL_length]; omega
    have e : c ≠ k := by omega
    rw [h1, h2, if_neg e]
theorem tabK_mono (xs : List Entry) (m : Nat) {k j : Nat} (h : k ≤ j) : ∃ r, tabK xs m j = tabK xs m k ++ r := by
  unfold tabK
  obtain ⟨d, rfl⟩ := Nat.le.dest h
  rw [List.range_add, List.filterMap_append]
  exact ⟨_, rfl⟩
/-- The row of client k lies behind the rows of the clients below. -/
theorem tabK_get {xs : List Entry} {m k p : Nat} (hm : m ≤ xs.length) (hk : k < 16) (h : lastP xs k = p + 1) (hp : p < xs.length) : (tableE xs m)[(tabK xs m k).length]? = some (rowOf xs m p hp) := by
  rw [← tabK_16]
  obtain ⟨r, e⟩ := tabK_mono xs m (show k + 1 ≤ 16 by omega)
  rw [e, tabK_some hm h hp, List.append_assoc, List.getElem?_append_right (Nat.le_refl _), Nat.sub_self]
  rfl
theorem rowOf_whole {xs : List Entry} {p : Nat} (hp : p < xs.length) : (rowsD 0 [] xs)[p]? = some (rowOf xs xs.length p hp) := by
  have h := rowsD_get xs 0 [] p hp
  rw [h]
  unfold rowOf
  simp [hp]
end Go.Proofs.Ytnfilklgogaheaa

namespace Go.Proofs.Ytnfilklgogaheaa
open Go.RowKit
set_option linter.unusedVariables false
set_option linter.unusedSimpArgs false

theorem bet_err {xs : List Entry} (f t : Int) (h : logE xs 256 ≠ 0) : betQ xs f t = logE xs 256 ∧ betRs xs f t = [] := by
  constructor
  · unfold betQ; rw [if_neg (fun q => h q.1)]
  · unfold betRs; rw [if_neg (fun q => h q.1)]
theorem tab_err {xs : List Entry} (m : Int) (h : logE xs 256 ≠ 0) : withinE xs m = logE xs 256 ∧ tabRs xs m = [] := by
  have e : withinE xs m = logE xs 256 := by unfold withinE; rw [if_neg (fun q => h q.1)]
  constructor
  · exact e
  · unfold tabRs; rw [e, if_neg h]
set_option maxRecDepth 100000 in
set_option maxHeartbeats 2000000 in
theorem once_err (A : Option Addr) (cc n : Nat) (xs : List Entry) (hn : n = xs.length) (hc : n ≤ cc) (w : World) (hb : (xs.length + 1) * 48 ≤ 140737488355328) (hv : ∀ x ∈ xs, x.op.value.size ≤ 9223372036854775807) (ha : Rd Entry.cells 5 w w.heap.size A xs) (he : logE xs 256 ≠ 0) :
    Calls Try.prog 9 #[.slice A n cc] w fun e w' => e = .returned (.bool true) ∧ Below w.heap.size w w' := by
  subst hn
  have HLOG := Lib.hid (fun W (hW : Below w.heap.size w W) => log_ref5 A cc xs.length xs rfl W (by omega) hv ((ha.below hW).more hW.size))
  have HBT := Lib.hid (fun W (hW : Below w.heap.size w W) => between_all A cc xs.length xs 0 (xs.length : Int) rfl hc W (by omega) hv ((ha.below hW).more hW.size))
  have HTB := Lib.hid (fun W (hW : Below w.heap.size w W) => table_all A cc xs.length xs (xs.length : Int) rfl hc W (by omega) hv ((ha.below hW).more hW.size))
  obtain ⟨e1, e2⟩ := bet_err 0 (xs.length : Int) he
  obtain ⟨e3, e4⟩ := tab_err (xs.length : Int) he
  rw [e1, e2] at HBT
  rw [e3, e4] at HTB
  clear e1 e2 e3 e4 ha hv
  generalize logE xs 256 = q at *
  have h1 : (q != 0) = true := by simpa using he
  clear he
  go_enter Try.func9, Try.ntmps9
  go_wp2_with fail
  with_reducible refine (alive05 _).mono ?_
  rintro e w0 ⟨rfl, hb0⟩
  have HB0 := Lib.hid hb0
  clear hb0
  dsimp only
  go_wp2_with fail
  with_reducible refine (HBT.out w0 HB0.out).mono ?_
  rintro e w1 ⟨A1, c1, rfl, hm1, hb1⟩
  have HB1 := Lib.hid (HB0.out.trans (hb1.mono HB0.out.size))
  clear hm1 hb1 HB0
  dsimp only [List.length_nil]
  go_wp2_with fail
  with_reducible refine (HTB.out w1 HB1.out).mono ?_
  rintro e w2 ⟨A2, c2, rfl, hm2, hb2⟩
  have HB2 := Lib.hid (HB1.out.trans (hb2.mono HB1.out.size))
  clear hm2 hb2 HB1
  dsimp only [List.length_nil]
  go_wp2_with fail
  (
    with_reducible refine (num05 _ _).mono ?_
    rintro e w' ⟨rfl, hw4⟩
    rw [← hw4]
    clear hw4 w'
    dsimp only)
  go_wp2_with fail
  (
    with_reducible refine (num05 _ _).mono ?_
    rintro e w' ⟨rfl, hw4⟩
    rw [← hw4]
    clear hw4 w'
    dsimp only)
  go_wp2_with fail
  (
    with_reducible refine (num05 _ _).mono ?_
    rintro e w' ⟨rfl, hw4⟩
    rw [← hw4]
    clear hw4 w'
    dsimp only)
  go_wp2_with fail
  with_reducible refine (HLOG.out w2 HB2.out).mono ?_
  rintro e w3 ⟨rfl, hb3⟩
  have HB3 := Lib.hid (HB2.out.trans (hb3.mono HB2.out.size))
  clear hb3
  dsimp only
  go_wp2_with fail
  (
    with_reducible refine (num05 _ _).mono ?_
    rintro e w' ⟨rfl, hw4⟩
    rw [← hw4]
    clear hw4 w'
    dsimp only)
  go_wp2_with fail
  go_ret
  exact ⟨rfl, HB3.out⟩
end Go.Proofs.Ytnfilklgogaheaa

namespace Go.Proofs.Ytnfilklgogaheaa
open Go.RowKit
set_option linter.unusedVariables false
set_option linter.unusedSimpArgs false

theorem bet_whole {xs : List Entry} (h : logE xs 256 = 0) : betQ xs 0 (xs.length : Int) = 0 ∧ betRs xs 0 (xs.length : Int) = rowsD 0 [] xs := by
  have hr : inRange xs 0 (xs.length : Int) := by unfold inRange; omega
  constructor
  · unfold betQ; rw [if_neg (fun q => q.2 hr)]; exact h
  · unfold betRs; rw [if_pos ⟨h, hr⟩]; unfold betweenE; simp
theorem tab_whole {xs : List Entry} (h : logE xs 256 = 0) : withinE xs (xs.length : Int) = 0 ∧ tabRs xs (xs.length : Int) = tableE xs xs.length := by
  have e := within_ok h (Nat.le_refl xs.length)
  constructor
  · exact e
  · unfold tabRs; rw [if_pos e]; rfl
set_option maxRecDepth 100000 in
set_option maxHeartbeats 4000000 in
theorem once_ok (A : Option Addr) (cc n : Nat) (xs : List Entry) (hn : n = xs.length) (hc : n ≤ cc) (w : World) (hb : (xs.length + 1) * 48 ≤ 140737488355328) (hv : ∀ x ∈ xs, x.op.value.size ≤ 9223372036854775807) (ha : Rd Entry.cells 5 w w.heap.size A xs) (he : logE xs 256 = 0) :
    Calls Try.prog 9 #[.slice A n cc] w fun e w' => e = .returned (.bool true) ∧ Below w.heap.size w w' := by
  subst hn
  have HLOG := Lib.hid (fun W (hW : Below w.heap.size w W) => log_ref5 A cc xs.length xs rfl W (by omega) hv ((ha.below hW).more hW.size))
  have HBT := Lib.hid (fun W (hW : Below w.heap.size w W) => between_all A cc xs.length xs 0 (xs.length : Int) rfl hc W (by omega) hv ((ha.below hW).more hW.size))
  have HTB := Lib.hid (fun W (hW : Below w.heap.size w W) => table_all A cc xs.length xs (xs.length : Int) rfl hc W (by omega) hv ((ha.below hW).more hW.size))
  obtain ⟨e1, e2⟩ := bet_whole he
  obtain ⟨e3, e4⟩ := tab_whole he
  rw [e1, e2] at HBT
  rw [e3, e4] at HTB
  rw [he] at HLOG
  obtain ⟨hgd, hlen⟩ := good_logE he
  have HGD := Lib.hid hgd
  have HA := Lib.hid ha
  have HV := Lib.hid hv
  have HRL : Hid ((rowsD 0 [] xs).length = xs.length) := rowsD_length xs 0 []
  have htl := tableE_length xs xs.length
  clear e1 e2 e3 e4 ha hv he hgd
  go_enter Try.func9, Try.ntmps9
  go_wp2_with fail
  with_reducible refine (alive05 _).mono ?_
  rintro e w0 ⟨rfl, hb0⟩
  have HB0 := Lib.hid hb0
  clear hb0
  dsimp only
  go_wp2_with fail
  with_reducible refine (HBT.out w0 HB0.out).mono ?_
  rintro e w1 ⟨A1, c1, rfl, hm1, hb1⟩
  have HB1 := Lib.hid (HB0.out.trans (hb1.mono HB0.out.size))
  have HR1 := Lib.hid (hm1.rd' encRow.len)
  rw [HRL.out]
  clear hm1 hb1 HB0 HBT
  dsimp only
  go_wp2_with fail
  with_reducible refine (HTB.out w1 HB1.out).mono ?_
  rintro e w2 ⟨A2, c2, rfl, hm2, hb2⟩
  have HB2 := Lib.hid (HB1.out.trans (hb2.mono HB1.out.size))
  have HR2 := Lib.hid ((HR1.out.below hb2).more hb2.size)
  have HT2 := Lib.hid (hm2.rd' encRow.len)
  have HTL : Hid (∃ tl, tl = (tableE xs xs.length).length ∧ tl ≤ 16) := ⟨_, rfl, htl⟩
  clear hm2 hb2 HB1 HR1 HTB
  obtain ⟨tl, htl2⟩ : ∃ tl, tl = (tableE xs xs.length).length := ⟨_, rfl⟩
  rw [← htl2] at htl ⊢
  have HTQ : Hid (tl = (tableE xs xs.length).length) := htl2
  clear htl2 HTL
  dsimp only
  go_wp2_with fail
  (
    with_reducible refine (num05 _ _).mono ?_
    rintro e w' ⟨rfl, hw4⟩
    rw [← hw4]
    clear hw4 w'
    dsimp only)
  go_wp2_with fail
  (
    with_reducible refine (num05 _ _).mono ?_
    rintro e w' ⟨rfl, hw4⟩
    rw [← hw4]
    clear hw4 w'
    dsimp only)
  go_wp2_with fail
  (
    with_reducible refine (num05 _ _).mono ?_
    rintro e w' ⟨rfl, hw4⟩
    rw [← hw4]
    clear hw4 w'
    dsimp only)
  go_wp2_with fail
  with_reducible refine (HLOG.out w2 HB2.out).mono ?_
  rintro e w3 ⟨rfl, hb3⟩
  have HB3 := Lib.hid (HB2.out.trans (hb3.mono HB2.out.size))
  have HR3 := Lib.hid ((HR2.out.below hb3).more hb3.size)
  have HT3 := Lib.hid ((HT2.out.below hb3).more hb3.size)
  clear hb3 HLOG HB2 HR2 HT2
  dsimp only
  go_wp2_with fail
  (
    with_reducible refine (num05 _ _).mono ?_
    rintro e w' ⟨rfl, hw4⟩
    rw [← hw4]
    clear hw4 w'
    dsimp only)
  go_wp2_with fail
  refine (newLedger w3).mono ?_
  rintro e w4 ⟨b, mb, rfl, hl4, hbb, hmb, hb4⟩
  have HL4 := Lib.hid hl4
  have HBM := Lib.hid (And.intro hbb hmb)
  have HB4 := Lib.hid (HB3.out.trans (hb4.mono HB3.out.size))
  have HR4 := Lib.hid (HR3.out.below hb4)
  have HT4 := Lib.hid (HT3.out.below hb4)
  have HS3 : Hid (w.heap.size ≤ w3.heap.size ∧ w3.heap.size ≤ w4.heap.size) := ⟨HB3.out.size, hb4.size⟩
  have hpn := fun W => ptr_nil W b
  clear hl4 hbb hmb hb4 HB3 HR3 HT3
  dsimp only
  go_wp2_with fail
  go_loopw [9, 10, 11] (fun i _ _ wr => ∃ k : Nat, k ≤ xs.length ∧ i = .int .i64 k ∧ Hid (Ledger wr b mb (playC [] (opsOf (xs.take k)))) ∧ Hid (wr.heap[w4.heap.size]? = some (.cells ((lastL (xs.take k)).map (Value.int .i64)).toArray 88 (0, 0))) ∧ Hid (Kept (fun j => j = b ∨ j = mb ∨ j = w4.heap.size) w4 wr)) (fun i _ _ _ => xs.length - (intOf i).toNat)
  case atStart =>
    refine ⟨0, by omega, rfl, HL4.out.below ((Below.refl _ _).alloc (Nat.le_refl _) _), ?_, (Kept.refl _ _).alloc _⟩
    exact heap_alloc_new _ _
  case round =>
    obtain ⟨i, hi, rfl, hlr, har, hkr⟩ := hrel
    by_cases h1 : i < xs.length
    · have hir : i < (rowsD 0 [] xs).length := by rw [HRL.out]; exact h1
      have hrow : (rowsD 0 [] xs)[i] = ⟨xs[i].client, xs[i].number, (i : Int) + 1, true, would (playC [] (opsOf (xs.take i))) xs[i].op⟩ := by
        have h := rowsD_get xs 0 [] i h1
        obtain ⟨_, e⟩ := List.getElem?_eq_some_iff.1 h
        simpa using e
      have HAr : Hid (Rd Entry.cells 5 wr w.heap.size A xs) := (HA.out.below HB4.out).keepAt (Nat.le_refl _) (fun ad e hb => hkr.out.block _ (by have := HS3.out; omega) (fun q => by have := HS3.out; have := HBM.out; rcases q with q | q | q <;> omega))
      have HRr : Hid (Rd Row.cells 7 wr w3.heap.size A1 (rowsD 0 [] xs)) := HR4.out.keepAt (Nat.le_refl _) (fun ad e hb => hkr.out.block _ (by have := HS3.out; omega) (fun q => by have := HS3.out; have := HBM.out; rcases q with q | q | q <;> omega))
      obtain ⟨ad, hAd, hq0, hca⟩ := HAr.out.at_ h1
      obtain ⟨ae, hAe, hq1, hce⟩ := HRr.out.at_ hir
      subst hAd hAe
      rw [hrow] at hce
      have hvk := HV.out _ (List.getElem_mem h1)
      have HLT : Hid (b < wr.heap.size ∧ mb < wr.heap.size) := hlr.out.lt
      obtain ⟨cl, hcl, hcl16⟩ : ∃ cl : Nat, xs[i].client = (cl : Int) ∧ cl < 16 := by
        have hb := (fitE_zero.1 (HGD.out i h1)).1
        unfold baseE at hb
        by_cases hc : xs[i].client < 0 ∨ 16 ≤ xs[i].client
        · rw [if_pos hc] at hb; omega
        · exact ⟨xs[i].client.toNat, by omega, by omega⟩
      have g1 : decide ((i:Int) < (xs.length:Int)) = true := decide_eq_true (by omega)
      have g1b : decide (i < xs.length) = true := decide_eq_true h1
      have k1 : IntKind.i64.wrap ((i:Int) + 1) = (i:Int) + 1 := IntWalk.i64_in _ (by omega)
      have hst := Lib.hid (playC_opsOf_take h1)
      obtain ⟨y, hy⟩ : ∃ y, y = xs[i] := ⟨_, rfl⟩
      have HY : Hid (y = xs[i]) := hy
      rw [← hy] at hca hce hvk hcl hst
      have HNE : Hid (∀ k (hk : k < xs.length), k < i → ¬ (xs[k].client = y.client ∧ xs[k].number = y.number)) := fun k hk hki => by rw [hy]; exact once_ne HGD.out hki h1
      clear hy hrow
      generalize playC [] (opsOf (xs.take i)) = ds at *
      obtain ⟨r, hr⟩ : ∃ r, r = would ds y.op := ⟨_, rfl⟩
      rw [← hr] at hce
      have hdo := doLedger b mb ds y.op hvk
      rw [← hr] at hdo
      have HDO := Lib.hid (fun W (hW : Ledger W b mb ds) => hdo W hW)
      obtain ⟨c0, c1, c2, c3, c4⟩ := hca.five
      obtain ⟨d0, d1, d2, d3, d4, d5, d6⟩ := hce.row
      clear hr hdo hq0 hq1 hca hce
      have HLS : Hid (((lastL (xs.take (i + 1))).map (Value.int .i64)).toArray = ((lastL (xs.take i)).map (Value.int .i64)).toArray.setIfInBounds cl (.int .i64 ((i : Int) + 1))) := by
        show _ = _
        rw [List.take_succ_eq_append_getElem h1, ← HY.out, lastL_snoc _ _ hcl hcl16, List.map_set, List.length_take, Nat.min_eq_left (by omega)]
        simp
      obtain ⟨yc, yn, yo⟩ := y
      have hcl' : yc = (cl : Int) := hcl
      subst hcl'
      clear hcl
      simp only at d0 d1 d2 d3 d4 d5 d6 c0 c1 c2 c3 c4 HNE
      obtain ⟨W2, hW2⟩ : ∃ W, W = wr.alloc (.cells #[.int .i64 (cl : Int), .int .i64 yn, .int .i64 ((i : Int) + 1), .bool true, .int .i64 r.code, .int .i64 r.slot, .string r.value] 90) := ⟨_, rfl⟩
      have hba : Below wr.heap.size wr W2 := by rw [hW2]; exact (Below.refl _ _).alloc (Nat.le_refl _) _
      have HL2 := Lib.hid (hlr.out.below hba)
      have HW2 := Lib.hid hW2
      have HS2 : Hid (W2.heap.size = wr.heap.size + 1) := by show _ = _; rw [hW2]; simp
      have hk2 : W2.heap[wr.heap.size]? = some (.cells #[.int .i64 (cl : Int), .int .i64 yn, .int .i64 ((i : Int) + 1), .bool true, .int .i64 r.code, .int .i64 r.slot, .string r.value] 90 (0, 0)) := by rw [hW2]; exact heap_alloc_new _ _
      have HK2 := Lib.hid hk2
      have HA2 := Lib.hid (HAr.out.below (hba.mono (by have := HS3.out; have := hkr.out.size; omega)))
      have HR2 := Lib.hid (HRr.out.below (hba.mono (by have := HS3.out; have := hkr.out.size; omega)))
      have HKW : Hid (Kept (fun j => j = b ∨ j = mb ∨ j = w4.heap.size) w4 W2) := by rw [hW2]; exact hkr.out.alloc _
      have HAR2 : Hid (W2.heap[w4.heap.size]? = some (.cells ((lastL (xs.take i)).map (Value.int .i64)).toArray 88 (0, 0))) := (hba.block _ (Array.getElem?_eq_some_iff.1 har.out).1).trans har.out
      have HLA : Hid (w4.heap.size < wr.heap.size) := (Array.getElem?_eq_some_iff.1 har.out).1
      have geq : ∀ W, (binOp .neq 58 (.agg #[.int .i64 r.code, .int .i64 r.slot, .string r.value]) (.agg #[.int .i64 r.code, .int .i64 r.slot, .string r.value])).run Try.prog W = .ok (.bool false) W := fun W => by have h := neq_res r r W; simpa using h
      have hgr := guard_res
      have KEY : Hid (∀ W : World, W.heap[wr.heap.size]? = some (.cells #[.int .i64 (cl : Int), .int .i64 yn, .int .i64 ((i : Int) + 1), .bool true, .int .i64 r.code, .int .i64 r.slot, .string r.value] 90 (0, 0)) → Rd Entry.cells 5 W w.heap.size (some ad) xs → (W.cell? ⟨wr.heap.size, 0, none⟩ = some (.int .i64 (cl : Int)) ∧ W.cell? ⟨wr.heap.size, 1, none⟩ = some (.int .i64 yn) ∧ W.cell? ⟨wr.heap.size, 2, none⟩ = some (.int .i64 ((i : Int) + 1)) ∧ W.cell? ⟨wr.heap.size, 3, none⟩ = some (.bool true) ∧ W.cell? ⟨wr.heap.size, 4, none⟩ = some (.int .i64 r.code) ∧ W.cell? ⟨wr.heap.size, 5, none⟩ = some (.int .i64 r.slot) ∧ W.cell? ⟨wr.heap.size, 6, none⟩ = some (.string r.value) ∧ W.cell? (ad.add (i * 5)) = some (.int .i64 (cl : Int)) ∧ W.cell? ⟨(ad.add (i * 5)).block, (ad.add (i * 5)).off + 1, none⟩ = some (.int .i64 yn) ∧ W.cell? ⟨(ad.add (i * 5)).block, (ad.add (i * 5)).off + 2, none⟩ = some (.int .i64 yo.kind) ∧ W.cell? ⟨(ad.add (i * 5)).block, (ad.add (i * 5)).off + 3, none⟩ = some (.int .i64 yo.slot) ∧ W.cell? ⟨(ad.add (i * 5)).block, (ad.add (i * 5)).off + 4, none⟩ = some (.string yo.value))) := fun W h hr => by
        obtain ⟨ad2, e2, _, hca2⟩ := hr.at_ h1
        cases e2
        rw [← HY.out] at hca2
        obtain ⟨c0, c1, c2, c3, c4⟩ := hca2.five
        exact ⟨cell_of_row W _ 0 _ _ _ h, cell_of_row W _ 1 _ _ _ h, cell_of_row W _ 2 _ _ _ h, cell_of_row W _ 3 _ _ _ h, cell_of_row W _ 4 _ _ _ h, cell_of_row W _ 5 _ _ _ h, cell_of_row W _ 6 _ _ _ h, c0, c1, c2, c3, c4⟩
      clear hW2 hba hk2
      go_wp2_with fail
      rw [← HW2.out]
      clear d0 d1 d2 d3 d4 d5 d6 c0 c1 c2 c3 c4
      obtain ⟨d0, d1, d2, d3, d4, d5, d6, c0, c1, c2, c3, c4⟩ := KEY.out W2 HK2.out HA2.out
      go_region_held3 (fun W => (W.cell? ⟨wr.heap.size, 0, none⟩ = some (.int .i64 (cl : Int)) ∧ W.cell? ⟨wr.heap.size, 1, none⟩ = some (.int .i64 yn) ∧ W.cell? ⟨wr.heap.size, 2, none⟩ = some (.int .i64 ((i : Int) + 1)) ∧ W.cell? ⟨wr.heap.size, 3, none⟩ = some (.bool true) ∧ W.cell? ⟨wr.heap.size, 4, none⟩ = some (.int .i64 r.code) ∧ W.cell? ⟨wr.heap.size, 5, none⟩ = some (.int .i64 r.slot) ∧ W.cell? ⟨wr.heap.size, 6, none⟩ = some (.string r.value) ∧ W.cell? (ad.add (i * 5)) = some (.int .i64 (cl : Int)) ∧ W.cell? ⟨(ad.add (i * 5)).block, (ad.add (i * 5)).off + 1, none⟩ = some (.int .i64 yn) ∧ W.cell? ⟨(ad.add (i * 5)).block, (ad.add (i * 5)).off + 2, none⟩ = some (.int .i64 yo.kind) ∧ W.cell? ⟨(ad.add (i * 5)).block, (ad.add (i * 5)).off + 3, none⟩ = some (.int .i64 yo.slot) ∧ W.cell? ⟨(ad.add (i * 5)).block, (ad.add (i * 5)).off + 4, none⟩ = some (.string yo.value)))
        (first
          | exact KEY.out _ HK5.out HA5.out
          | go_keep)
        (first
          | (go_at_call 42
             refine (HDO.out _ (by exact HL2.out)).mono ?_
             rintro e w5 ⟨rfl, hl5, hk5⟩
             have hk5' : Kept (LedS b mb) W2 w5 := ⟨hk5.os, hk5.tape, hk5.output, hk5.size, hk5.block⟩
             have HK5 := Lib.hid ((hk5'.block wr.heap.size (by have := HS2.out; omega) (fun q => by have := HLT.out; rcases q with q | q <;> omega)).trans HK2.out)
             have HA5 := Lib.hid (HA2.out.keepAt (Nat.le_refl _) (fun ad e hb => hk5'.block _ (by have := HS2.out; have := HS3.out; have := hkr.out.size; omega) (fun q => by have := HS3.out; have := HBM.out; rcases q with q | q <;> omega)))
             have HR5 := Lib.hid (HR2.out.keepAt (Nat.le_refl _) (fun ad e hb => hk5'.block _ (by have := HS2.out; have := HS3.out; have := hkr.out.size; omega) (fun q => by have := HS3.out; have := HBM.out; rcases q with q | q <;> omega)))
             have HAR5 := Lib.hid ((hk5'.block w4.heap.size (by have := HS2.out; have := HLA.out; omega) (fun q => by have := HL4.out.lt; rcases q with q | q <;> omega)).trans HAR2.out)
             have HKW5 := Lib.hid (HKW.out.trans ((hk5').mono (S' := fun j => j = b ∨ j = mb ∨ j = w4.heap.size) (fun j _ q => by rcases q with q | q; exact .inl q; exact .inr (.inl q))))
             have HL5 := Lib.hid hl5
             clear hl5 hk5 hk5'))
      clear d0 d1 d2 d3 d4 d5 d6 c0 c1 c2 c3 c4 geq hgr
      all_goals
        go_wp2_with fail
        go_loopw [11] (fun k wq => ∃ q : Nat, q ≤ i ∧ k = .int .i64 q ∧ Hid (∃ n, wq = w5.drewN n)) (fun k _ => i - (intOf k).toNat)
        case atStart => exact ⟨0, by omega, rfl, by first | exact ⟨0, rfl⟩ | exact ⟨_, rfl⟩⟩
        case round =>
          obtain ⟨q, hq, rfl, hdr⟩ := hrel
          obtain ⟨nd, hwd⟩ := hdr.out
          subst hwd
          by_cases h2 : q < i
          · have hqx : q < xs.length := by omega
            have hqr : q < (rowsD 0 [] xs).length := by rw [HRL.out]; exact hqx
            have hrow2 : (rowsD 0 [] xs)[q] = ⟨xs[q].client, xs[q].number, (q : Int) + 1, true, would (playC [] (opsOf (xs.take q))) xs[q].op⟩ := by
              have h := rowsD_get xs 0 [] q hqx
              obtain ⟨_, e⟩ := List.getElem?_eq_some_iff.1 h
              simpa using e
            obtain ⟨af, hAf, _, hcf⟩ := HR5.out.at_ hqr
            cases hAf
            rw [hrow2] at hcf
            have hne := HNE.out q hqx h2
            obtain ⟨e0, e1, e2, e3, e4, e5, e6⟩ := hcf.row
            simp only at e0 e1
            clear e2 e3 e4 e5 e6 hcf hrow2 hqr
            generalize xs[q].client = zc at *
            generalize xs[q].number = zn at *
            have g2 : decide ((q:Int) < (i:Int)) = true := decide_eq_true (by omega)
            have g2b : decide (q < i) = true := decide_eq_true h2
            have k2 : IntKind.i64.wrap ((q:Int) + 1) = (q:Int) + 1 := IntWalk.i64_in _ (by omega)
            have i0 : (0:Int) ≤ (q:Int) := by omega
            have i2 : (q:Int) < (xs.length:Int) := by omega
            by_cases hzc : zc = (cl : Int)
            · have b1 : (zc == (cl : Int)) = true := by simpa using hzc
              have b2 : (zn == yn) = false := by simpa using (fun e => hne ⟨hzc, e⟩)
              clear hne hzc
              go_wp2_with fail
              go_quiet (fail)
              go_wp2_with fail
              go_roundw
              case rel => exact ⟨q + 1, by omega, by go_num, by first | exact ⟨_, rfl⟩ | exact drawn2 _ _ _⟩
              case measure => simp [intOf]; omega
            · have b1 : (zc == (cl : Int)) = false := by simpa using hzc
              clear hne hzc
              go_wp2_with fail
              go_quiet (fail)
              go_wp2_with fail
              go_roundw
              case rel => exact ⟨q + 1, by omega, by go_num, by first | exact ⟨_, rfl⟩ | exact drawn2 _ _ _⟩
              case measure => simp [intOf]; omega
          · have g2 : decide ((q:Int) < (i:Int)) = false := decide_eq_false (by omega)
            have g2b : decide (q < i) = false := decide_eq_false h2
            obtain ⟨x0, hx0⟩ : ∃ x, w5.cell? ⟨w4.heap.size, cl, none⟩ = some x := by
              have h := cell_of_row w5 _ cl _ _ _ HAR5.out
              rw [h]
              simp [lastL_get _ hcl16]
            have hf0 : w5.frozen? ⟨w4.heap.size, cl, none⟩ = false := frozen_of_row w5 _ cl _ _ HAR5.out
            have i0 : (0:Int) ≤ (cl:Int) := by omega
            have i1 : (cl:Int) < 16 := by omega
            go_wp2_with fail
            go_roundw
            case rel =>
              refine ⟨i + 1, by omega, by go_num, ?_, ?_, ?_⟩
              · show Ledger _ b mb _
                rw [hst.out]
                exact HL5.out.same (Below.heap_setCell _ _ _ _ (by have := HL4.out.lt; show b ≠ w4.heap.size; omega)) (Below.heap_setCell _ _ _ _ (by have := HL4.out.lt; show mb ≠ w4.heap.size; omega))
              · show _ = _
                have h := heap_setCell_same (w5.drewN nd) w4.heap.size cl _ _ (.int .i64 ((i : Int) + 1)) HAR5.out
                rw [HLS.out]
                exact h
              · exact (HKW5.out.drewN nd).setCell (p := ⟨w4.heap.size, cl, none⟩) (fun _ => .inr (.inr rfl)) _
            case measure => simp [intOf]; omega
    · have g1 : decide ((i:Int) < (xs.length:Int)) = false := decide_eq_false (by omega)
      have g1b : decide (i < xs.length) = false := decide_eq_false h1
      obtain rfl : i = xs.length := by omega
      rw [List.take_length] at har
      have HRr : Hid (Rd Row.cells 7 wr w3.heap.size A1 (rowsD 0 [] xs)) := HR4.out.keepAt (Nat.le_refl _) (fun ad e hb => hkr.out.block _ (by have := HS3.out; omega) (fun q => by have := HS3.out; have := HBM.out; rcases q with q | q | q <;> omega))
      have HTr : Hid (Rd Row.cells 7 wr w3.heap.size A2 (tableE xs xs.length)) := HT4.out.keepAt (Nat.le_refl _) (fun ad e hb => hkr.out.block _ (by have := HS3.out; omega) (fun q => by have := HS3.out; have := HBM.out; rcases q with q | q | q <;> omega))
      have HBr : Hid (Below w.heap.size w wr) := Kept.ledger_below5 HB4.out hkr.out (fun k q => by have := HS3.out; have := HBM.out; rcases q with q | q | q <;> omega)
      have hgr := guard_row
      have heq : ∀ (r : Row) (W : World), (binOp .neq 90 (.agg #[.int .i64 r.client, .int .i64 r.number, .int .i64 r.place, .bool r.done, .int .i64 r.res.code, .int .i64 r.res.slot, .string r.res.value]) (.agg #[.int .i64 r.client, .int .i64 r.number, .int .i64 r.place, .bool r.done, .int .i64 r.res.code, .int .i64 r.res.slot, .string r.res.value])).run Try.prog W = .ok (.bool false) W := fun r W => by have h := neq_row r r W; simpa using h
      have HEQ := Lib.hid heq
      clear hlr g1 g1b h1 hi heq
      go_wp2_with fail
      generalize wr = w6 at *
      go_loopw [12, 13] (fun k c wq => ∃ (cn kk : Nat), cn ≤ 16 ∧ c = .int .i64 cn ∧ k = .int .i64 kk ∧ Hid (kk = (tabK xs xs.length cn).length) ∧ Hid (∃ n, wq = w6.drewN n)) (fun _ c _ => 16 - (intOf c).toNat)
      case atStart => exact ⟨0, 0, by omega, rfl, rfl, rfl, ⟨0, rfl⟩⟩
      case round =>
        obtain ⟨cn, kk, hcn, rfl, rfl, hkk, hdr⟩ := hrel
        obtain ⟨nd, hwd⟩ := hdr.out
        subst hwd
        by_cases h2 : cn < 16
        · have g2 : decide ((cn:Int) < 16) = true := decide_eq_true (by omega)
          have k2 : IntKind.i64.wrap ((cn:Int) + 1) = (cn:Int) + 1 := IntWalk.i64_in _ (by omega)
          have i0 : (0:Int) ≤ (cn:Int) := by omega
          have i1 : (cn:Int) < 16 := by omega
          have hcl0 : w6.cell? ⟨w4.heap.size, cn, none⟩ = some (.int .i64 (lastP xs (cn : Int) : Int)) := by
            rw [cell_of_row w6 _ cn _ _ _ har.out]
            simp [lastL_get _ h2]
          by_cases h3 : lastP xs (cn : Int) = 0
          · have HKN : Hid (kk = (tabK xs xs.length (cn + 1)).length) := by show _ = _; rw [hkk.out, tabK_none (Nat.le_refl _) h3]
            rw [h3] at hcl0
            clear h3
            go_wp2_with fail
            go_roundw
            case rel => exact ⟨cn + 1, kk, by omega, by go_num, rfl, HKN.out, by first | exact ⟨_, rfl⟩ | exact drawn2 _ _ _⟩
            case measure => simp [intOf]; omega
          · obtain ⟨p, hp⟩ : ∃ p, lastP xs (cn : Int) = p + 1 := ⟨lastP xs (cn : Int) - 1, by omega⟩
            have hpl : p < xs.length := by have := lastP_le xs (cn : Int); omega
            have ht := tabK_get (Nat.le_refl xs.length) h2 hp hpl
            have ha := rowOf_whole hpl
            have hks := tabK_some (Nat.le_refl xs.length) hp hpl
            have HKN : Hid (kk + 1 = (tabK xs xs.length (cn + 1)).length) := by show _ = _; rw [hks, List.length_append, ← hkk.out]; rfl
            rw [← hkk.out] at ht
            have hkt : kk < tl := by rw [HTQ.out]; exact (List.getElem?_eq_some_iff.1 ht).1
            obtain ⟨at_, hAt, _, hct⟩ := HTr.out kk _ ht
            obtain ⟨ae, hAe, _, hce⟩ := HRr.out p _ ha
            subst hAt hAe
            rw [hp] at hcl0
            generalize rowOf xs xs.length p hpl = r at *
            obtain ⟨d0, d1, d2, d3, d4, d5, d6⟩ := hct.row
            obtain ⟨e0, e1, e2, e3, e4, e5, e6⟩ := hce.row
            have geq := HEQ.out r
            obtain ⟨pl, hpl2⟩ : ∃ pl : Int, pl = ((p + 1 : Nat) : Int) := ⟨_, rfl⟩
            rw [← hpl2] at hcl0
            have j0 : (pl == 0) = false := by rw [hpl2]; simp; omega
            have j1 : IntKind.i64.wrap (pl - 1) = (p : Int) := by rw [hpl2, IntWalk.i64_in _ (by omega)]; omega
            have j2 : (0:Int) ≤ (p:Int) := by omega
            have j3 : (p:Int) < (xs.length:Int) := by omega
            have j4 : (0:Int) ≤ (kk:Int) := by omega
            have j5 : (kk:Int) < (tl:Int) := by omega
            have j6 : decide ((tl:Int) ≤ (kk:Int)) = false := decide_eq_false (by omega)
            have j7 : IntKind.i64.wrap ((kk:Int) + 1) = (kk:Int) + 1 := IntWalk.i64_in _ (by omega)
            have HKT : Hid (kk < tl) := hkt
            clear h3 hp ht ha hks hpl2 hct hce hkk
            go_wp2_with fail
            go_quiet (fail)
            go_wp2_with fail
            go_roundw
            case rel => exact ⟨cn + 1, kk + 1, by omega, by go_num, by go_num, HKN.out, by first | exact ⟨_, rfl⟩ | exact drawn2 _ _ _⟩
            case measure => simp [intOf]; omega
        · have g2 : decide ((cn:Int) < 16) = false := decide_eq_false (by omega)
          obtain rfl : cn = 16 := by omega
          have hkt : kk = tl := by rw [hkk.out, HTQ.out, tabK_16]
          subst hkt
          go_wp2_with fail
          go_ret
          exact ⟨by first | rfl | simp, below_drewN HBr.out nd⟩
end Go.Proofs.Ytnfilklgogaheaa

namespace Go.Proofs.Ytnfilklgogaheaa
open Go.RowKit
set_option linter.unusedVariables false
set_option linter.unusedSimpArgs false

theorem once5_law (W : World) (A : Option Addr) (c n : Nat) (xs : List Entry) (hn : n = xs.length) (hc : n ≤ c) (hrd : Rd Entry.cells 5 W W.heap.size A xs) (hwf : ∀ o ∈ xs, o.wf) (hsz : xs.length * 48 ≤ 140737488351232) :
    Calls Try.prog 9 #[.slice A n c] W fun e w' => e = .returned (.bool true) ∧ Below W.heap.size W w' := by
  by_cases h : logE xs 256 = 0
  · exact once_ok A c n xs hn hc W (by omega) (fun o ho => (hwf o ho).op.value) hrd h
  · exact once_err A c n xs hn hc W (by omega) (fun o ho => (hwf o ho).op.value) hrd h
end Go.Proofs.Ytnfilklgogaheaa
