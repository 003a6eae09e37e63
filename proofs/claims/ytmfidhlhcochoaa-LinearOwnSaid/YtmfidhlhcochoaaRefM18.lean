/- The reference's has and Breaks. Conditions: Go lengths; a history that may be.
The reference's from and Search. Conditions: at most eight calls; a history that may be. -/
import Derived.Test.YtmfidhlhcochoaaWorks18
import Derived.Test.YtmfidhlhcochoaaDoRef
import Derived.Test.YtmfidhlhcochoaaLinM1
import Derived.Deep.RegionHeld3
import Derived.StillTailTactics
import Derived.Test.YtmfidhlhcochoaaRefCheck18
namespace Go.Proofs.Ytmfidhlhcochoaa
open Go.RowKit
set_option linter.unusedVariables false
set_option linter.unusedSimpArgs false

theorem precedes_self {x : Call} (h : goodC x = true) : precedes x x = false := by
  unfold goodC at h
  unfold precedes
  by_cases h1 : x.fin = -1
  · have h2 : ¬ 0 ≤ x.fin := by omega
    simp [h2]
  · rw [if_neg h1] at h
    simp only [Bool.and_eq_true, decide_eq_true_eq] at h
    have h2 : ¬ x.fin < x.beg := by omega
    simp [h2]
set_option maxHeartbeats 1600000 in
theorem has_ref (A : Option Addr) (c n : Nat) (is : List Nat) (hn : n = is.length) (k : Nat) (w : World) (hl : is.length ≤ 9223372036854775806) (ha : Rd icell 1 w w.heap.size A is) :
    Calls Try.prog 69 #[.slice A n c, .int .i64 (k : Nat)] w fun e w' => e = .returned (.bool (decide (k ∈ is))) ∧ w' = w := by
  subst hn
  obtain ⟨r, hr⟩ : ∃ r, r = decide (k ∈ is) := ⟨_, rfl⟩
  rw [← hr]
  have HA := Lib.hid ha
  have HR := Lib.hid hr
  clear ha hr
  go_enter Try.func69, Try.ntmps69
  go_wp2_with fail
  go_loopw [5] (fun i wr => ∃ j : Nat, j ≤ is.length ∧ i = .int .i64 j ∧ Hid (∀ q (h : q < is.length), q < j → is[q] ≠ k) ∧ wr = w) (fun i _ => is.length - (intOf i).toNat)
  case atStart => exact ⟨0, by omega, rfl, fun q _ h => absurd h (Nat.not_lt_zero q), rfl⟩
  case round =>
    obtain ⟨j, hj, rfl, hno, rfl⟩ := hrel
    by_cases h1 : j < is.length
    · obtain ⟨ad, hA, _, hca⟩ := HA.out.at_ h1
      have g1 : (j:Int) < (is.length : Int) := by omega
      have i2 : (0:Int) ≤ (j:Int) := by omega
      have d0 : wr.cell? (ad.add j) = some (.int .i64 (is[j] : Nat)) := by have := hca.one; rwa [Nat.mul_one] at this
      subst hA
      clear hca
      by_cases he : is[j] = k
      · obtain rfl : r = true := HR.out.trans (decide_eq_true (by rw [← he]; exact List.getElem_mem h1))
        rw [he] at d0
        clear he
        go_wp2_with fail
        go_ret
        exact ⟨rfl, rfl⟩
      · have hnx : Hid (∀ q (h : q < is.length), q < j + 1 → is[q] ≠ k) := fun q hq hlt => by
          by_cases e : q = j
          · subst e; exact he
          · exact hno.out q hq (by omega)
        have e1 : ((is[j] : Int) == (k : Int)) = false := by simp; omega
        have e2 : decide ((is[j] : Int) = (k : Int)) = false := decide_eq_false (by omega)
        have e3 : ¬ is[j] = k := he
        generalize is[j] = y at *
        go_wp2_with fail
        go_roundw
        case rel => exact ⟨j + 1, by omega, by go_num, hnx, (by first | rfl | trivial)⟩
        case measure => simp [intOf]; omega
    · obtain rfl : r = false := HR.out.trans (decide_eq_false (fun hm => by
        obtain ⟨q, hq, e⟩ := List.mem_iff_getElem.1 hm
        exact hno.out q hq (by omega) e))
      have g2 : decide ((j:Int) < (is.length : Int)) = false := decide_eq_false (by omega)
      have g3 : decide (j < is.length) = false := decide_eq_false h1
      go_wp2_with fail
      go_ret
      exact ⟨rfl, rfl⟩
set_option maxRecDepth 100000 in
set_option maxHeartbeats 8000000 in
theorem breaks_ref (A : Option Addr) (c n : Nat) (l : List Call) (hn : n = l.length) (Ao : Option Addr) (co no : Nat) (is : List Nat) (hno : no = is.length) (w : World) (hl : l.length ≤ 9223372036854775806) (hlo : is.length ≤ 9223372036854775806) (hco : no ≤ co) (hv : ∀ x ∈ l, x.op.value.size ≤ 9223372036854775807) (hself : ∀ x ∈ l, precedes x x = false) (hin : ∀ i ∈ is, i < l.length) (ha : Rd Call.cells 10 w w.heap.size A l) (hao : Rd icell 1 w w.heap.size Ao is) :
    Calls Try.prog 96 #[.slice A n c, .slice Ao no co] w fun e w' => e = .returned (.int .i64 (walkH l (allFree l) [] is 0)) ∧ Below w.heap.size w w' := by
  subst hn hno
  obtain ⟨r, hr⟩ : ∃ r, r = walkH l (allFree l) [] is 0 := ⟨_, rfl⟩
  rw [← hr]
  have HR := Lib.hid hr
  have HA := Lib.hid ha
  have HAO := Lib.hid hao
  have HV := Lib.hid hv
  have HSELF := Lib.hid hself
  have HIN := Lib.hid hin
  clear ha hao hv hself hin hr
  go_enter Try.func96, Try.ntmps96
  go_wp2_with fail
  go_loopw [6, 5] (fun i v wr => ∃ k : Nat, ∃ cs A5 c5, k ≤ is.length ∧ i = .int .i64 k ∧ v = .slice A5 cs.length c5 ∧ Hid (Rd Cell.cells 2 wr wr.heap.size A5 cs) ∧ Hid (Rising cs) ∧ Hid (r = walkH l (marksOf l.length (is.take k)) cs (is.drop k) k) ∧ Hid (Below w.heap.size w wr)) (fun i _ _ => is.length - (intOf i).toNat)
  case atStart => exact ⟨0, [], none, 0, by omega, rfl, rfl, Rd.nil, Rising.nil, HR.out, Below.refl _ _⟩
  case round =>
    obtain ⟨k, cs, A5, c5, hk, rfl, rfl, hrd5, hri, hwk, hbr⟩ := hrel
    obtain ⟨wo, hwo⟩ : ∃ wo, wo = wr := ⟨_, rfl⟩
    subst hwo
    by_cases h1 : k < is.length
    · obtain ⟨bd, hB, hbl, hcb⟩ := (HAO.out.below hbr.out).at_ h1
      have hp : is[k] < l.length := HIN.out _ (List.getElem_mem h1)
      obtain ⟨p, hpp⟩ : ∃ p, p = is[k] := ⟨_, rfl⟩
      rw [← hpp] at hp
      have d0 : wo.cell? (bd.add k) = some (.int .i64 (p : Nat)) := by have := hcb.one; rw [Nat.mul_one, ← hpp] at this; exact this
      obtain ⟨ad, hA, hal, hca⟩ := (HA.out.below hbr.out).at_ hp
      obtain ⟨a0, a1, a2, a3, a4, a5, a6, a7, a8, a9⟩ := hca.call
      have g1 : (k:Int) < (is.length : Int) := by omega
      have i1 : (0:Int) ≤ (k:Int) := by omega
      have g2 : (p:Int) < (l.length : Int) := by omega
      have i2 : (0:Int) ≤ (p:Int) := by omega
      have hvx := HV.out _ (List.getElem_mem hp)
      have hsx := HSELF.out _ (List.getElem_mem hp)
      have hdrop : is.drop k = p :: is.drop (k + 1) := by rw [List.drop_eq_getElem_cons h1, hpp]
      have htk : is.take (k + 1) = is.take k ++ [p] := by rw [List.take_succ_eq_append_getElem h1, hpp]
      have hwk2 := hwk.out
      rw [hdrop, walk_cons hp] at hwk2
      obtain ⟨x, hx⟩ : ∃ x, x = l[p] := ⟨_, rfl⟩
      have HX := Lib.hid hx
      rw [← hx] at a0 a1 a2 a3 a4 a5 a6 a7 a8 a9 hvx hwk2 hsx
      have HWK := Lib.hid hwk2
      have HTK := Lib.hid htk
      have HSX := Lib.hid hsx
      subst hA hB
      clear hcb hca hdrop htk hwk2 hwk hsx hx hpp
      go_wp2_with fail
      obtain ⟨W1, hW1⟩ : ∃ W1, W1 = wo.alloc (.cells #[.int .i64 x.client, .int .i64 x.number, .int .i64 x.op.kind, .int .i64 x.op.slot, .string x.op.value, .int .i64 x.beg, .int .i64 x.fin, .int .i64 x.res.code, .int .i64 x.res.slot, .string x.res.value] 45) := ⟨_, rfl⟩
      have hb1 : Below wo.heap.size wo W1 := by rw [hW1]; exact (Below.refl _ _).alloc (Nat.le_refl _) _
      have hx1 : W1.heap[wo.heap.size]? = some (.cells #[.int .i64 x.client, .int .i64 x.number, .int .i64 x.op.kind, .int .i64 x.op.slot, .string x.op.value, .int .i64 x.beg, .int .i64 x.fin, .int .i64 x.res.code, .int .i64 x.res.slot, .string x.res.value] 45 (0, 0)) := by rw [hW1]; exact heap_alloc_new _ _
      have hz1 : W1.heap.size = wo.heap.size + 1 := by rw [hW1]; simp
      have HX1 := Lib.hid hx1
      have HB1 := Lib.hid (hbr.out.trans (hb1.mono hbr.out.size))
      have HRD5 := Lib.hid ((hrd5.out.below hb1).more hb1.size)
      rw [← hW1]
      clear hb1 hx1 hW1 a0 a1 a2 a3 a4 a5 a6 a7 a8 a9 hrd5 hbr d0
      have hsl : ∀ W : World, (Instr.slice 23 (.slice (some bd) is.length co) none (some (.int .i64 (k : Nat))) none).run Try.prog W = .ok (.slice (some bd) k co) W := by
        have hu2 := Try.underlying23
        have huc : k ≤ co := by omega
        clear g1 i1
        intro W
        go_simp
      go_loopw [8] (fun i wi => ∃ k2 : Nat, k2 ≤ l.length ∧ i = .int .i64 k2 ∧ Hid (∀ j, j < k2 → aheadAt l (marksOf l.length (is.take k)) p j = false) ∧ Hid (Below W1.heap.size W1 wi)) (fun i _ => l.length - (intOf i).toNat)
      case atStart => exact ⟨0, by omega, rfl, fun j h => absurd h (Nat.not_lt_zero j), Below.refl _ _⟩
      case round =>
        obtain ⟨k2, hk2, rfl, hno, hbi⟩ := hrel
        have hbi2 := HB1.out.trans (hbi.out.mono HB1.out.size)
        have HBI2 := Lib.hid hbi2
        by_cases h2 : k2 < l.length
        · skip
          have hk2p : Hid (∀ pr, pr = precedes l[k2] x → pr = true → k2 ≠ p) := fun pr h1 h2 e => by
            subst e
            rw [h1, ← HX.out, HSX.out] at h2
            cases h2
          obtain ⟨ak, hAk, hakl, hck⟩ := (HA.out.below hbi2).at_ h2
          cases hAk
          have hmk : aheadAt l (marksOf l.length (is.take k)) p k2 = (!(decide (k2 ∈ is.take k)) && !(k2 == p) && precedes l[k2] x) := by
            unfold aheadAt
            rw [List.getElem?_eq_getElem h2, List.getElem?_eq_getElem hp, List.getD_eq_getElem?_getD, marksOf_get _ _ _ h2, ← HX.out]
            rfl
          have hnx : Hid (aheadAt l (marksOf l.length (is.take k)) p k2 = false → ∀ j, j < k2 + 1 → aheadAt l (marksOf l.length (is.take k)) p j = false) := fun h j hj => by
            by_cases e : j = k2
            · subst e; exact h
            · exact hno.out j (by omega)
          have hyes : Hid (aheadAt l (marksOf l.length (is.take k)) p k2 = true → r = (k : Int)) := fun h => HWK.out.trans (if_pos (ahead_of h2 h))
          have hx := (hbi.out.block _ (Array.getElem?_eq_some_iff.1 HX1.out).1).trans HX1.out
          obtain ⟨c0, c1, c2, c3, c4, c5', c6, c7, c8, c9⟩ := hck.call
          obtain ⟨y, hy⟩ : ∃ y, y = l[k2] := ⟨_, rfl⟩
          rw [← hy] at c0 c1 c2 c3 c4 c5' c6 c7 c8 c9 hmk hk2p
          have hiz := hbi.out.size
          have hwz := HB1.out.size
          have hlt : ad.block < wr.heap.size := by omega
          have KEY : Hid (∀ W, Below wr.heap.size wr W → W.cell? (ad.add (k2 * 10)) = some (.int .i64 y.client) ∧ W.cell? ⟨(ad.add (k2 * 10)).block, (ad.add (k2 * 10)).off + 1, none⟩ = some (.int .i64 y.number) ∧ W.cell? ⟨(ad.add (k2 * 10)).block, (ad.add (k2 * 10)).off + 2, none⟩ = some (.int .i64 y.op.kind) ∧ W.cell? ⟨(ad.add (k2 * 10)).block, (ad.add (k2 * 10)).off + 3, none⟩ = some (.int .i64 y.op.slot) ∧ W.cell? ⟨(ad.add (k2 * 10)).block, (ad.add (k2 * 10)).off + 4, none⟩ = some (.string y.op.value) ∧ W.cell? ⟨(ad.add (k2 * 10)).block, (ad.add (k2 * 10)).off + 5, none⟩ = some (.int .i64 y.beg) ∧ W.cell? ⟨(ad.add (k2 * 10)).block, (ad.add (k2 * 10)).off + 6, none⟩ = some (.int .i64 y.fin) ∧ W.cell? ⟨(ad.add (k2 * 10)).block, (ad.add (k2 * 10)).off + 7, none⟩ = some (.int .i64 y.res.code) ∧ W.cell? ⟨(ad.add (k2 * 10)).block, (ad.add (k2 * 10)).off + 8, none⟩ = some (.int .i64 y.res.slot) ∧ W.cell? ⟨(ad.add (k2 * 10)).block, (ad.add (k2 * 10)).off + 9, none⟩ = some (.string y.res.value) ∧ W.cell? ⟨wo.heap.size, 0, none⟩ = some (.int .i64 x.client) ∧ W.cell? ⟨wo.heap.size, 1, none⟩ = some (.int .i64 x.number) ∧ W.cell? ⟨wo.heap.size, 2, none⟩ = some (.int .i64 x.op.kind) ∧ W.cell? ⟨wo.heap.size, 3, none⟩ = some (.int .i64 x.op.slot) ∧ W.cell? ⟨wo.heap.size, 4, none⟩ = some (.string x.op.value) ∧ W.cell? ⟨wo.heap.size, 5, none⟩ = some (.int .i64 x.beg) ∧ W.cell? ⟨wo.heap.size, 6, none⟩ = some (.int .i64 x.fin) ∧ W.cell? ⟨wo.heap.size, 7, none⟩ = some (.int .i64 x.res.code) ∧ W.cell? ⟨wo.heap.size, 8, none⟩ = some (.int .i64 x.res.slot) ∧ W.cell? ⟨wo.heap.size, 9, none⟩ = some (.string x.res.value)) := fun W hW => by
            have hc : ∀ a : Addr, a.block < wr.heap.size → W.cell? a = wr.cell? a := fun a h => hW.cell h
            exact ⟨(hc _ (by rw [block_add]; exact hlt)).trans c0, (hc ⟨(ad.add (k2 * 10)).block, (ad.add (k2 * 10)).off + 1, none⟩ (by show (ad.add (k2 * 10)).block < _; rw [block_add]; exact hlt)).trans c1, (hc ⟨(ad.add (k2 * 10)).block, (ad.add (k2 * 10)).off + 2, none⟩ (by show (ad.add (k2 * 10)).block < _; rw [block_add]; exact hlt)).trans c2, (hc ⟨(ad.add (k2 * 10)).block, (ad.add (k2 * 10)).off + 3, none⟩ (by show (ad.add (k2 * 10)).block < _; rw [block_add]; exact hlt)).trans c3, (hc ⟨(ad.add (k2 * 10)).block, (ad.add (k2 * 10)).off + 4, none⟩ (by show (ad.add (k2 * 10)).block < _; rw [block_add]; exact hlt)).trans c4, (hc ⟨(ad.add (k2 * 10)).block, (ad.add (k2 * 10)).off + 5, none⟩ (by show (ad.add (k2 * 10)).block < _; rw [block_add]; exact hlt)).trans c5', (hc ⟨(ad.add (k2 * 10)).block, (ad.add (k2 * 10)).off + 6, none⟩ (by show (ad.add (k2 * 10)).block < _; rw [block_add]; exact hlt)).trans c6, (hc ⟨(ad.add (k2 * 10)).block, (ad.add (k2 * 10)).off + 7, none⟩ (by show (ad.add (k2 * 10)).block < _; rw [block_add]; exact hlt)).trans c7, (hc ⟨(ad.add (k2 * 10)).block, (ad.add (k2 * 10)).off + 8, none⟩ (by show (ad.add (k2 * 10)).block < _; rw [block_add]; exact hlt)).trans c8, (hc ⟨(ad.add (k2 * 10)).block, (ad.add (k2 * 10)).off + 9, none⟩ (by show (ad.add (k2 * 10)).block < _; rw [block_add]; exact hlt)).trans c9, (hc ⟨wo.heap.size, 0, none⟩ (by show wo.heap.size < _; omega)).trans (cell_of_row _ _ 0 _ _ _ hx), (hc ⟨wo.heap.size, 1, none⟩ (by show wo.heap.size < _; omega)).trans (cell_of_row _ _ 1 _ _ _ hx), (hc ⟨wo.heap.size, 2, none⟩ (by show wo.heap.size < _; omega)).trans (cell_of_row _ _ 2 _ _ _ hx), (hc ⟨wo.heap.size, 3, none⟩ (by show wo.heap.size < _; omega)).trans (cell_of_row _ _ 3 _ _ _ hx), (hc ⟨wo.heap.size, 4, none⟩ (by show wo.heap.size < _; omega)).trans (cell_of_row _ _ 4 _ _ _ hx), (hc ⟨wo.heap.size, 5, none⟩ (by show wo.heap.size < _; omega)).trans (cell_of_row _ _ 5 _ _ _ hx), (hc ⟨wo.heap.size, 6, none⟩ (by show wo.heap.size < _; omega)).trans (cell_of_row _ _ 6 _ _ _ hx), (hc ⟨wo.heap.size, 7, none⟩ (by show wo.heap.size < _; omega)).trans (cell_of_row _ _ 7 _ _ _ hx), (hc ⟨wo.heap.size, 8, none⟩ (by show wo.heap.size < _; omega)).trans (cell_of_row _ _ 8 _ _ _ hx), (hc ⟨wo.heap.size, 9, none⟩ (by show wo.heap.size < _; omega)).trans (cell_of_row _ _ 9 _ _ _ hx)⟩
          have g3 : (k2:Int) < (l.length : Int) := by omega
          have i3 : (0:Int) ≤ (k2:Int) := by omega
          have HMK := Lib.hid hmk
          clear hck hmk hno hx hlt c0 c1 c2 c3 c4 c5' c6 c7 c8 c9
          clear hy
          obtain ⟨pr, hpr⟩ : ∃ pr, pr = precedes y x := ⟨_, rfl⟩
          have HPR := Lib.hid hpr
          have hkp := hk2p.out pr hpr
          have HKP := Lib.hid hkp
          have hko : (k:Int) ≤ (co:Int) := by omega
          have htl : k = (is.take k).length := by rw [List.length_take]; omega
          have HTL := Lib.hid htl
          rw [← hpr] at HMK
          clear hpr hkp hk2p htl
          have hin := KEY.out wr (Below.refl _ _)
          cases pr
          · have HN := Lib.hid (hnx.out (by rw [HMK.out]; simp))
            clear hnx hyes HMK
            obtain ⟨z0, z1, z2, z3, z4, z5, z6, z7, z8, z9, t0, t1, t2, t3, t4, t5, t6, t7, t8, t9⟩ := hin
            go_wp2_with fail
            refine wp_region_held_drew (S := (fun W => W.cell? (ad.add (k2 * 10)) = some (.int .i64 y.client) ∧ W.cell? ⟨(ad.add (k2 * 10)).block, (ad.add (k2 * 10)).off + 1, none⟩ = some (.int .i64 y.number) ∧ W.cell? ⟨(ad.add (k2 * 10)).block, (ad.add (k2 * 10)).off + 2, none⟩ = some (.int .i64 y.op.kind) ∧ W.cell? ⟨(ad.add (k2 * 10)).block, (ad.add (k2 * 10)).off + 3, none⟩ = some (.int .i64 y.op.slot) ∧ W.cell? ⟨(ad.add (k2 * 10)).block, (ad.add (k2 * 10)).off + 4, none⟩ = some (.string y.op.value) ∧ W.cell? ⟨(ad.add (k2 * 10)).block, (ad.add (k2 * 10)).off + 5, none⟩ = some (.int .i64 y.beg) ∧ W.cell? ⟨(ad.add (k2 * 10)).block, (ad.add (k2 * 10)).off + 6, none⟩ = some (.int .i64 y.fin) ∧ W.cell? ⟨(ad.add (k2 * 10)).block, (ad.add (k2 * 10)).off + 7, none⟩ = some (.int .i64 y.res.code) ∧ W.cell? ⟨(ad.add (k2 * 10)).block, (ad.add (k2 * 10)).off + 8, none⟩ = some (.int .i64 y.res.slot) ∧ W.cell? ⟨(ad.add (k2 * 10)).block, (ad.add (k2 * 10)).off + 9, none⟩ = some (.string y.res.value) ∧ W.cell? ⟨wo.heap.size, 0, none⟩ = some (.int .i64 x.client) ∧ W.cell? ⟨wo.heap.size, 1, none⟩ = some (.int .i64 x.number) ∧ W.cell? ⟨wo.heap.size, 2, none⟩ = some (.int .i64 x.op.kind) ∧ W.cell? ⟨wo.heap.size, 3, none⟩ = some (.int .i64 x.op.slot) ∧ W.cell? ⟨wo.heap.size, 4, none⟩ = some (.string x.op.value) ∧ W.cell? ⟨wo.heap.size, 5, none⟩ = some (.int .i64 x.beg) ∧ W.cell? ⟨wo.heap.size, 6, none⟩ = some (.int .i64 x.fin) ∧ W.cell? ⟨wo.heap.size, 7, none⟩ = some (.int .i64 x.res.code) ∧ W.cell? ⟨wo.heap.size, 8, none⟩ = some (.int .i64 x.res.slot) ∧ W.cell? ⟨wo.heap.size, 9, none⟩ = some (.string x.res.value))) (by kernel_rfl) (KEY.out _ (below_drewL (Below.refl _ _))) (fun hHeld => ?_)
            simp only [List.size_toArray, List.length_cons, List.length_nil, Nat.reduceAdd]
            simp only [show Array.replicate 14 false = #[false, false, false, false, false, false, false, false, false, false, false, false, false, false] from rfl]
            refine wpAnyH_take (i := 0) (oi := ⟨some 31, _, _, _, _, _⟩) (v := ?_) rfl (by kernel_rfl) (by kernel_rfl) (by kernel_rfl) (fun _ _ _ h => h) (Or.inl ⟨by kernel_rfl, ?_⟩) hHeld ?_
            rotate_left
            · intro w hSw; go_split_ands; go_simp; try with_reducible rfl
            try simp only [Act.put, List.setIfInBounds_toArray, List.set_cons_zero, List.set_cons_succ]
            refine wpAnyH_take (i := 1) (oi := ⟨some 32, _, _, _, _, _⟩) (v := ?_) rfl (by kernel_rfl) (by kernel_rfl) (by kernel_rfl) (fun _ _ _ h => h) (Or.inl ⟨by kernel_rfl, ?_⟩) hHeld ?_
            rotate_left
            · intro w hSw; go_split_ands; go_simp; try with_reducible rfl
            try simp only [Act.put, List.setIfInBounds_toArray, List.set_cons_zero, List.set_cons_succ]
            refine wpAnyH_take (i := 2) (oi := ⟨some 33, _, _, _, _, _⟩) (v := ?_) rfl (by kernel_rfl) (by kernel_rfl) (by kernel_rfl) (fun _ _ _ h => h) (Or.inl ⟨by kernel_rfl, ?_⟩) hHeld ?_
            rotate_left
            · intro w hSw; go_split_ands; go_simp; try with_reducible rfl
            try simp only [Act.put, List.setIfInBounds_toArray, List.set_cons_zero, List.set_cons_succ]
            refine wpAnyH_take (i := 3) (oi := ⟨some 34, _, _, _, _, _⟩) (v := ?_) rfl (by kernel_rfl) (by kernel_rfl) (by kernel_rfl) (fun _ _ _ h => h) (Or.inl ⟨by kernel_rfl, ?_⟩) hHeld ?_
            rotate_left
            · intro w hSw; go_split_ands; go_simp; try with_reducible rfl
            try simp only [Act.put, List.setIfInBounds_toArray, List.set_cons_zero, List.set_cons_succ]
            refine wpAnyH_take (i := 4) (oi := ⟨some 35, _, _, _, _, _⟩) (v := ?_) rfl (by kernel_rfl) (by kernel_rfl) (by kernel_rfl) (fun _ _ _ h => h) (Or.inl ⟨by kernel_rfl, ?_⟩) hHeld ?_
            rotate_left
            · intro w hSw; go_split_ands; go_simp; try with_reducible rfl
            try simp only [Act.put, List.setIfInBounds_toArray, List.set_cons_zero, List.set_cons_succ]
            refine wpAnyH_ready (rs := [5]) (by kernel_rfl) (by simp) ?_
            refine AllReadyH.cons rfl (fun K hK => ?_) AllReadyH.nil
            go_simp
            refine (precedes_ref y x _).mono ?_
            rintro e w5 ⟨rfl, hb5⟩
            rw [← HPR.out]
            have hb5' : Below wr.heap.size wr w5 := ⟨hb5.os, hb5.tape, hb5.output, hb5.size, hb5.block⟩
            have HB5 := Lib.hid hb5'
            clear hb5 hb5'
            dsimp only
            clear hHeld
            refine hK.out _ _ (KEY.out _ HB5.out) (fun hHeld => ?_)
            clear hK K
            simp only [Act.put, List.setIfInBounds_toArray, List.set_cons_zero, List.set_cons_succ]
            refine wpAnyH_take (i := 6) (oi := ⟨some 37, _, _, _, _, _⟩) (v := ?_) rfl (by kernel_rfl) (by kernel_rfl) (by kernel_rfl) (fun _ _ _ h => h) (Or.inl ⟨by kernel_rfl, ?_⟩) hHeld ?_
            rotate_left
            · intro w hSw; go_split_ands; go_simp; try with_reducible rfl
            try simp only [Act.put, List.setIfInBounds_toArray, List.set_cons_zero, List.set_cons_succ]
            refine wpAnyH_take (i := 7) (oi := ⟨some 38, _, _, _, _, _⟩) (v := undef) rfl (by kernel_rfl) (by kernel_rfl) (by kernel_rfl) (fun _ _ _ h => h) (Or.inr ⟨by kernel_rfl, rfl⟩) hHeld ?_
            try simp only [Act.put, List.setIfInBounds_toArray, List.set_cons_zero, List.set_cons_succ]
            refine wpAnyH_take (i := 8) (oi := ⟨some 39, _, _, _, _, _⟩) (v := undef) rfl (by kernel_rfl) (by kernel_rfl) (by kernel_rfl) (fun _ _ _ h => h) (Or.inr ⟨by kernel_rfl, rfl⟩) hHeld ?_
            try simp only [Act.put, List.setIfInBounds_toArray, List.set_cons_zero, List.set_cons_succ]
            refine wpAnyH_take (i := 9) (oi := ⟨some 40, _, _, _, _, _⟩) (v := undef) rfl (by kernel_rfl) (by kernel_rfl) (by kernel_rfl) (fun _ _ _ h => h) (Or.inr ⟨by kernel_rfl, rfl⟩) hHeld ?_
            try simp only [Act.put, List.setIfInBounds_toArray, List.set_cons_zero, List.set_cons_succ]
            refine wpAnyH_take (i := 10) (oi := ⟨some 41, _, _, _, _, _⟩) (v := undef) rfl (by kernel_rfl) (by kernel_rfl) (by kernel_rfl) (fun _ _ _ h => h) (Or.inr ⟨by kernel_rfl, rfl⟩) hHeld ?_
            try simp only [Act.put, List.setIfInBounds_toArray, List.set_cons_zero, List.set_cons_succ]
            refine wpAnyH_take (i := 11) (oi := ⟨some 42, _, _, _, _, _⟩) (v := undef) rfl (by kernel_rfl) (by kernel_rfl) (by kernel_rfl) (fun _ _ _ h => h) (Or.inr ⟨by kernel_rfl, rfl⟩) hHeld ?_
            try simp only [Act.put, List.setIfInBounds_toArray, List.set_cons_zero, List.set_cons_succ]
            refine wpAnyH_take (i := 12) (oi := ⟨some 43, _, _, _, _, _⟩) (v := undef) rfl (by kernel_rfl) (by kernel_rfl) (by kernel_rfl) (fun _ _ _ h => h) (Or.inr ⟨by kernel_rfl, rfl⟩) hHeld ?_
            try simp only [Act.put, List.setIfInBounds_toArray, List.set_cons_zero, List.set_cons_succ]
            refine wpAnyH_take (i := 13) (oi := ⟨some 44, _, _, _, _, _⟩) (v := ?_) rfl (by kernel_rfl) (by kernel_rfl) (by kernel_rfl) (fun _ _ _ h => h) (Or.inl ⟨by kernel_rfl, ?_⟩) hHeld ?_
            rotate_left
            · intro w hSw; go_split_ands; go_simp; try with_reducible rfl
            try simp only [Act.put, List.setIfInBounds_toArray, List.set_cons_zero, List.set_cons_succ]
            refine wpAnyH_done (by kernel_rfl) ?_ _
            clear hHeld
            go_wp2_with fail
            go_roundw
            case rel => exact ⟨k2 + 1, by omega, by go_num, HN.out, hbi.out.trans (HB5.out.mono hbi.out.size)⟩
            case measure => simp [intOf]; omega
          · have hkp2 : (k2 == p) = false := by have := HKP.out rfl; simpa using this
            obtain ⟨hb, hhb⟩ : ∃ hb, hb = decide (k2 ∈ is.take k) := ⟨_, rfl⟩
            rw [← hhb, hkp2] at HMK
            have HHB := Lib.hid hhb
            clear hhb
            obtain ⟨z0, z1, z2, z3, z4, z5, z6, z7, z8, z9, t0, t1, t2, t3, t4, t5, t6, t7, t8, t9⟩ := hin
            go_wp2_with fail
            go_region_held3 (fun W => W.cell? (ad.add (k2 * 10)) = some (.int .i64 y.client) ∧ W.cell? ⟨(ad.add (k2 * 10)).block, (ad.add (k2 * 10)).off + 1, none⟩ = some (.int .i64 y.number) ∧ W.cell? ⟨(ad.add (k2 * 10)).block, (ad.add (k2 * 10)).off + 2, none⟩ = some (.int .i64 y.op.kind) ∧ W.cell? ⟨(ad.add (k2 * 10)).block, (ad.add (k2 * 10)).off + 3, none⟩ = some (.int .i64 y.op.slot) ∧ W.cell? ⟨(ad.add (k2 * 10)).block, (ad.add (k2 * 10)).off + 4, none⟩ = some (.string y.op.value) ∧ W.cell? ⟨(ad.add (k2 * 10)).block, (ad.add (k2 * 10)).off + 5, none⟩ = some (.int .i64 y.beg) ∧ W.cell? ⟨(ad.add (k2 * 10)).block, (ad.add (k2 * 10)).off + 6, none⟩ = some (.int .i64 y.fin) ∧ W.cell? ⟨(ad.add (k2 * 10)).block, (ad.add (k2 * 10)).off + 7, none⟩ = some (.int .i64 y.res.code) ∧ W.cell? ⟨(ad.add (k2 * 10)).block, (ad.add (k2 * 10)).off + 8, none⟩ = some (.int .i64 y.res.slot) ∧ W.cell? ⟨(ad.add (k2 * 10)).block, (ad.add (k2 * 10)).off + 9, none⟩ = some (.string y.res.value) ∧ W.cell? ⟨wo.heap.size, 0, none⟩ = some (.int .i64 x.client) ∧ W.cell? ⟨wo.heap.size, 1, none⟩ = some (.int .i64 x.number) ∧ W.cell? ⟨wo.heap.size, 2, none⟩ = some (.int .i64 x.op.kind) ∧ W.cell? ⟨wo.heap.size, 3, none⟩ = some (.int .i64 x.op.slot) ∧ W.cell? ⟨wo.heap.size, 4, none⟩ = some (.string x.op.value) ∧ W.cell? ⟨wo.heap.size, 5, none⟩ = some (.int .i64 x.beg) ∧ W.cell? ⟨wo.heap.size, 6, none⟩ = some (.int .i64 x.fin) ∧ W.cell? ⟨wo.heap.size, 7, none⟩ = some (.int .i64 x.res.code) ∧ W.cell? ⟨wo.heap.size, 8, none⟩ = some (.int .i64 x.res.slot) ∧ W.cell? ⟨wo.heap.size, 9, none⟩ = some (.string x.res.value))
              (first
                | exact KEY.out _ HB5.out
                | go_keep)
              (first
                | (go_at_call 100
                   refine (precedes_ref y x _).mono ?_
                   rintro e w5 ⟨rfl, hb5⟩
                   rw [← HPR.out]
                   have hb5' : Below wr.heap.size wr w5 := ⟨hb5.os, hb5.tape, hb5.output, hb5.size, hb5.block⟩
                   have HB5 := Lib.hid hb5'
                   clear hb5 hb5')
                | (go_at_call 69
                   refine (has_ref (some bd) co k (is.take k) HTL.out k2 _ (by rw [← HTL.out]; omega) ((((HAO.out.below HBI2.out).below (HB5.out.mono HBI2.out.size)).more (by have := HBI2.out.size; have := HB5.out.size; omega)).take k)).mono ?_
                   rintro e w6 ⟨rfl, rfl⟩
                   rw [← HHB.out]))
            cases hb
            · obtain rfl : r = (k : Int) := hyes.out (by rw [HMK.out]; rfl)
              clear hnx hyes HMK
              go_wp2_with fail
              go_ret
              exact ⟨rfl, HBI2.out.trans (HB5.out.mono HBI2.out.size)⟩
            · have HN := Lib.hid (hnx.out (by rw [HMK.out]; rfl))
              clear hnx hyes HMK
              go_wp2_with fail
              go_roundw
              case rel => exact ⟨k2 + 1, by omega, by go_num, HN.out, hbi.out.trans (HB5.out.mono hbi.out.size)⟩
              case measure => simp [intOf]; omega
        · skip
          have g5 : decide ((k2:Int) < (l.length : Int)) = false := decide_eq_false (by omega)
          have g6 : decide (k2 < l.length) = false := decide_eq_false h2
          have hnone := ahead_none (r := would cs x.op) hp (fun j hj => hno.out j (by omega))
          rw [← HX.out] at hnone
          have HNONE := Lib.hid hnone
          have hx := (hbi.out.block _ (Array.getElem?_eq_some_iff.1 HX1.out).1).trans HX1.out
          have s0 : wr.cell? ⟨wo.heap.size, 0, none⟩ = some (.int .i64 x.client) := cell_of_row _ _ 0 _ _ _ hx
          have s1 : wr.cell? ⟨wo.heap.size, 1, none⟩ = some (.int .i64 x.number) := cell_of_row _ _ 1 _ _ _ hx
          have s2 : wr.cell? ⟨wo.heap.size, 2, none⟩ = some (.int .i64 x.op.kind) := cell_of_row _ _ 2 _ _ _ hx
          have s3 : wr.cell? ⟨wo.heap.size, 3, none⟩ = some (.int .i64 x.op.slot) := cell_of_row _ _ 3 _ _ _ hx
          have s4 : wr.cell? ⟨wo.heap.size, 4, none⟩ = some (.string x.op.value) := cell_of_row _ _ 4 _ _ _ hx
          have s5 : wr.cell? ⟨wo.heap.size, 5, none⟩ = some (.int .i64 x.beg) := cell_of_row _ _ 5 _ _ _ hx
          have s6 : wr.cell? ⟨wo.heap.size, 6, none⟩ = some (.int .i64 x.fin) := cell_of_row _ _ 6 _ _ _ hx
          have s7 : wr.cell? ⟨wo.heap.size, 7, none⟩ = some (.int .i64 x.res.code) := cell_of_row _ _ 7 _ _ _ hx
          have s8 : wr.cell? ⟨wo.heap.size, 8, none⟩ = some (.int .i64 x.res.slot) := cell_of_row _ _ 8 _ _ _ hx
          have s9 : wr.cell? ⟨wo.heap.size, 9, none⟩ = some (.string x.res.value) := cell_of_row _ _ 9 _ _ _ hx
          have HRX := Lib.hid hx
          have hrd := (HRD5.out.below hbi.out).more hbi.out.size
          have HRDD := Lib.hid hrd
          have hiz := hbi.out.size
          have hxlt : wo.heap.size < wr.heap.size := by omega
          clear hnone hno hx hrd
          go_wp2_with fail
          refine (do_ref A5 c5 cs.length cs x.op rfl hvx wr HRDD.out hri.out).mono ?_
          rintro e w7 ⟨A7, c7, rfl, hrd7, _, hb7⟩
          have hx7 := (hb7.block _ (Array.getElem?_eq_some_iff.1 HRX.out).1).trans HRX.out
          have hx7lt := Nat.lt_of_lt_of_le hxlt hb7.size
          have HR7 := Lib.hid hrd7
          have HB7 := Lib.hid (hbi2.trans (hb7.mono hbi2.size))
          have HRI7 := Lib.hid (after_rising hri.out x.op)
          obtain ⟨cs7, hcs7⟩ : ∃ cs7, cs7 = after cs x.op := ⟨_, rfl⟩
          rw [← hcs7] at HR7 HRI7 HWK
          rw [← hcs7]
          have dal : ∀ o (j : Nat) v, (#[.int .i64 x.client, .int .i64 x.number, .int .i64 x.op.kind, .int .i64 x.op.slot, .string x.op.value, .int .i64 x.beg, .int .i64 x.fin, .int .i64 x.res.code, .int .i64 x.res.slot, .string x.res.value] : Array Value)[j]? = some v → (w7.alloc o).cell? ⟨wo.heap.size, j, none⟩ = some v := fun o j v hv => (World.cell?_alloc_lt _ _ _ hx7lt).trans ((cell_of_row _ _ j _ _ _ hx7).trans hv)
          have y6 := fun o => dal o 6 _ rfl
          have y7 := fun o => dal o 7 _ rfl
          have y8 := fun o => dal o 8 _ rfl
          have y9 := fun o => dal o 9 _ rfl
          have he := neq_res (would cs x.op) x.res
          have hge := guard_res
          obtain ⟨wq, hwq⟩ : ∃ wq, wq = would cs x.op := ⟨_, rfl⟩
          rw [← hwq] at he HNONE HWK
          rw [← hwq]
          clear hrd7 hb7 hx7 dal hcs7 hwq s0 s1 s2 s3 s4 s5 s6 s7 s8 s9
          have hgo : Hid (breaksL l (marksOf l.length (is.take k)) p wq = false → r = walkH l (marksOf l.length (is.take (k + 1))) cs7 (is.drop (k + 1)) (k + 1)) := fun h => by
            rw [HWK.out, HTK.out, marksOf_snoc]
            exact if_neg (by rw [h]; exact Bool.false_ne_true)
          have hst : Hid (breaksL l (marksOf l.length (is.take k)) p wq = true → r = (k : Int)) := fun h => HWK.out.trans (if_pos h)
          clear HWK
          by_cases hf : 0 ≤ x.fin
          · have hf2 : decide (0 ≤ x.fin) = true := decide_eq_true hf
            by_cases hqq : wq = x.res
            · have hd : decide (wq = x.res) = true := decide_eq_true hqq
              have hgo2 := hgo.out (HNONE.out.trans (by rw [hf2, hd]; rfl))
              have HGO := Lib.hid hgo2
              rw [hd] at he
              clear hqq hd hgo hgo2 hst HNONE
              dsimp only
              go_wp2_with fail
              go_roundw
              case rel => exact ⟨k + 1, cs7, A7, c7, by omega, by go_num, rfl, (HR7.out.below ((Below.refl _ _).alloc (Nat.le_refl _) _)).more (by simp), HRI7.out, HGO.out, HB7.out.alloc HB7.out.size _⟩
              case measure => simp [intOf]; omega
            · have hd : decide (wq = x.res) = false := decide_eq_false hqq
              obtain rfl : r = (k : Int) := hst.out (HNONE.out.trans (by rw [hf2, hd]; rfl))
              rw [hd] at he
              clear hqq hd hgo hst HNONE
              dsimp only
              go_wp2_with fail
              go_ret
              exact ⟨rfl, HB7.out.alloc HB7.out.size _⟩
          · have hf2 : decide (0 ≤ x.fin) = false := decide_eq_false hf
            have hgo2 := hgo.out (HNONE.out.trans (by rw [hf2]; rfl))
            have HGO := Lib.hid hgo2
            clear hgo hgo2 hst HNONE
            dsimp only
            go_wp2_with fail
            go_roundw
            case rel => exact ⟨k + 1, cs7, A7, c7, by omega, by go_num, rfl, (HR7.out.below ((Below.refl _ _).alloc (Nat.le_refl _) _)).more (by simp), HRI7.out, HGO.out, HB7.out.alloc HB7.out.size _⟩
            case measure => simp [intOf]; omega
    · skip
      have g5 : decide ((k:Int) < (is.length : Int)) = false := decide_eq_false (by omega)
      have g6 : decide (k < is.length) = false := decide_eq_false h1
      have hwk2 := hwk.out
      rw [show is.drop k = [] from List.drop_eq_nil_of_le (by omega), show is.take k = is from List.take_of_length_le (by omega), show k = is.length by omega] at hwk2
      have HFN := Lib.hid hwk2
      clear hwk hwk2
      go_wp2_with fail
      go_loopw [11] (fun i wr => ∃ k3 : Nat, k3 ≤ l.length ∧ i = .int .i64 k3 ∧ Hid (∀ j, j < k3 → missAt l (marksOf l.length is) j = false) ∧ wr = wo) (fun i _ => l.length - (intOf i).toNat)
      case atStart => exact ⟨0, by omega, rfl, fun j h => absurd h (Nat.not_lt_zero j), rfl⟩
      case round =>
        obtain ⟨k3, hk3, rfl, hno, rfl⟩ := hrel
        by_cases h3 : k3 < l.length
        · obtain ⟨ad, hA, hal, hca⟩ := (HA.out.below hbr.out).at_ h3
          obtain ⟨a0, a1, a2, a3, a4, a5, a6, a7, a8, a9⟩ := hca.call
          have g3 : (k3:Int) < (l.length : Int) := by omega
          have i3 : (0:Int) ≤ (k3:Int) := by omega
          have hmk : missAt l (marksOf l.length is) k3 = (decide (0 ≤ l[k3].fin) && !(decide (k3 ∈ is))) := by
            unfold missAt
            rw [List.getElem?_eq_getElem h3, List.getD_eq_getElem?_getD, marksOf_get _ _ _ h3]
            rfl
          have hnx : Hid (missAt l (marksOf l.length is) k3 = false → ∀ j, j < k3 + 1 → missAt l (marksOf l.length is) j = false) := fun h j hj => by
            by_cases e : j = k3
            · subst e; exact h
            · exact hno.out j (by omega)
          have hyes : Hid (missAt l (marksOf l.length is) k3 = true → r = (is.length : Int)) := fun h => by
            rw [HFN.out]
            simp [walkH, missing_of h3 h]
          have HMK := Lib.hid hmk
          subst hA
          clear hca hmk hno a0 a1 a2 a3 a4 a5 a7 a8 a9
          generalize l[k3] = y at *
          by_cases hf : 0 ≤ y.fin
          · have hf2 : decide (0 ≤ y.fin) = true := decide_eq_true hf
            obtain ⟨hb, hhb⟩ : ∃ hb, hb = decide (k3 ∈ is) := ⟨_, rfl⟩
            rw [← hhb] at HMK
            have HHB := Lib.hid hhb
            clear hhb
            go_wp2_with fail
            refine (has_ref Ao co is.length is rfl k3 wr hlo ((HAO.out.below hbr.out).more hbr.out.size)).mono ?_
            rintro e w6 ⟨rfl, rfl⟩
            rw [← HHB.out]
            cases hb
            · obtain rfl : r = (is.length : Int) := hyes.out (by rw [HMK.out, hf2]; rfl)
              clear hnx hyes HMK HFN
              dsimp only
              go_wp2_with fail
              go_ret
              exact ⟨rfl, hbr.out⟩
            · have HN := Lib.hid (hnx.out (by rw [HMK.out, hf2]; rfl))
              clear hnx hyes HMK
              dsimp only
              go_wp2_with fail
              go_roundw
              case rel => exact ⟨k3 + 1, by omega, by go_num, HN.out, (by first | rfl | trivial)⟩
              case measure => simp [intOf]; omega
          · have hf2 : decide (0 ≤ y.fin) = false := decide_eq_false hf
            have HN := Lib.hid (hnx.out (by rw [HMK.out, hf2]; rfl))
            clear hnx hyes HMK
            go_wp2_with fail
            go_roundw
            case rel => exact ⟨k3 + 1, by omega, by go_num, HN.out, (by first | rfl | trivial)⟩
            case measure => simp [intOf]; omega
        · have g7 : decide ((k3:Int) < (l.length : Int)) = false := decide_eq_false (by omega)
          have g8 : decide (k3 < l.length) = false := decide_eq_false h3
          have hr1 : r = -1 := by
            rw [HFN.out]
            simp [walkH, missing_none fun j hj => hno.out j (by omega)]
          subst hr1
          clear HFN hno
          go_wp2_with fail
          go_ret
          exact ⟨rfl, hbr.out⟩
end Go.Proofs.Ytmfidhlhcochoaa

namespace Go.Proofs.Ytmfidhlhcochoaa
open Go.RowKit
set_option linter.unusedVariables false
set_option linter.unusedSimpArgs false

def FromPost (f : Nat) (l : List Call) (is : List Nat) (w : World) (e : Ending) (w' : World) : Prop :=
  Below w.heap.size w w' ∧ ((∃ ks A' c', fromL f l is = some ks ∧ e = .returned (.tuple #[.slice A' ks.length c', .bool true]) ∧ Rd icell 1 w' w'.heap.size A' ks) ∨ (fromL f l is = none ∧ e = .returned (.tuple #[.slice none 0 0, .bool false])))
theorem from_try {f : Nat} {l : List Call} {is : List Nat} (h1 : walkH l (allFree l) [] is 0 ≠ -1) (h2 : ¬ walkH l (allFree l) [] is 0 < (is.length : Int)) : fromL (f + 1) l is = firstL (fun k => if k ∈ is then none else fromL f l (is ++ [k])) (List.range l.length) := by
  simp only [fromL]
  rw [if_neg h1, if_neg h2]

set_option maxRecDepth 100000 in
set_option maxHeartbeats 8000000 in
theorem from_ref (l : List Call) (A : Option Addr) (c : Nat) (hl8 : l.length ≤ 8) (hv : ∀ x ∈ l, x.op.value.size ≤ 9223372036854775807) (hself : ∀ x ∈ l, precedes x x = false) : ∀ (f : Nat) (is : List Nat) (Ao : Option Addr) (co : Nat) (w : World), (∀ i ∈ is, i < l.length) → is.length + falses (marksOf l.length is) = l.length → falses (marksOf l.length is) < f → is.length ≤ co → Rd Call.cells 10 w w.heap.size A l → Rd icell 1 w w.heap.size Ao is →
    Calls Try.prog 73 #[.slice A l.length c, .slice Ao is.length co] w (FromPost f l is w) := by
  intro f
  induction f with
  | zero => intro is Ao co w _ _ h; omega
  | succ f ih =>
    intro is Ao co w hin hlen hf hco ha hao
    obtain ⟨T0, hT0⟩ : ∃ T0 : Ending → World → Prop, T0 = FromPost (f + 1) l is w := ⟨_, rfl⟩
    rw [← hT0]
    have HT0 := Lib.hid hT0
    have HIH := Lib.hid ih
    have HA := Lib.hid ha
    have HAO := Lib.hid hao
    have HIN := Lib.hid hin
    have HLEN := Lib.hid hlen
    have HF := Lib.hid hf
    have hi8 : is.length ≤ 8 := by omega
    have hbk := breaks_ref A c l.length l rfl Ao co is.length is rfl w (by omega) (by omega) hco hv hself hin ha hao
    have HBK := Lib.hid hbk
    clear hT0 ih ha hao hin hlen hf hbk hv hself
    go_enter Try.func73, Try.ntmps73
    go_wp2_with fail
    refine HBK.out.mono ?_
    rintro e w1 ⟨rfl, hb1⟩
    have HB1 := Lib.hid hb1
    clear hb1 HBK
    obtain ⟨b, hb⟩ : ∃ b, b = walkH l (allFree l) [] is 0 := ⟨_, rfl⟩
    rw [← hb]
    have HB := Lib.hid hb
    clear hb
    by_cases h1 : b = -1
    · have hfl : fromL (f + 1) l is = some is := by simp only [fromL]; rw [if_pos (HB.out.symm.trans h1)]
      have HFL := Lib.hid hfl
      subst h1
      clear hfl
      dsimp only
      go_wp2_with fail
      rw [HT0.out]
      exact ⟨HB1.out, .inl ⟨is, Ao, co, HFL.out, rfl, (HAO.out.below HB1.out).more HB1.out.size⟩⟩
    · have h1' : (b == -1) = false := by simpa using h1
      have h1'' : decide (b = -1) = false := decide_eq_false h1
      by_cases h2 : b < (is.length : Int)
      · have hfl : fromL (f + 1) l is = none := by simp only [fromL]; rw [if_neg (by rw [← HB.out]; exact h1), if_pos (by rw [← HB.out]; exact h2)]
        have HFL := Lib.hid hfl
        have h2' : decide (b < (is.length : Int)) = true := decide_eq_true h2
        clear hfl
        dsimp only
        go_wp2_with fail
        rw [HT0.out]
        exact ⟨HB1.out, .inr ⟨HFL.out, rfl⟩⟩
      · have hfl : fromL (f + 1) l is = firstL (fun k => if k ∈ is then none else fromL f l (is ++ [k])) (List.range l.length) := from_try (by rw [← HB.out]; exact h1) (by rw [← HB.out]; exact h2)
        have HFL := Lib.hid hfl
        have h2' : decide (b < (is.length : Int)) = false := decide_eq_false h2
        clear hfl
        dsimp only
        go_wp2_with fail
        go_loopw [7] (fun i wr => ∃ k : Nat, k ≤ l.length ∧ i = .int .i64 k ∧ Hid (firstL (fun k => if k ∈ is then none else fromL f l (is ++ [k])) (List.range k) = none) ∧ Hid (Below w.heap.size w wr)) (fun i _ => l.length - (intOf i).toNat)
        case atStart => exact ⟨0, by omega, rfl, rfl, HB1.out⟩
        case round =>
          obtain ⟨k, hk, rfl, hno, hbr⟩ := hrel
          by_cases h3 : k < l.length
          · have g1 : (k:Int) < (l.length : Int) := by omega
            have i1 : (0:Int) ≤ (k:Int) := by omega
            have hnx : Hid ((if k ∈ is then none else fromL f l (is ++ [k])) = none → firstL (fun k => if k ∈ is then none else fromL f l (is ++ [k])) (List.range (k + 1)) = none) := fun h => first_none_succ hno.out h
            have hyes : Hid (∀ ks, (if k ∈ is then none else fromL f l (is ++ [k])) = some ks → fromL (f + 1) l is = some ks) := fun ks h => HFL.out.trans (first_some hno.out h3 h)
            have hrdo := (HAO.out.below hbr.out).more hbr.out.size
            have HRDO := Lib.hid hrdo
            have hmg := marksOf_get l.length is k h3
            have hil : is.length ≤ 8 := hi8
            go_wp2_with fail
            refine (has_ref Ao co is.length is rfl k wr (by omega) hrdo).mono ?_
            rintro e w2 ⟨rfl, rfl⟩
            by_cases hmem : k ∈ is
            · rw [decide_eq_true hmem]
              have HN := Lib.hid (hnx.out (if_pos hmem))
              clear hnx hyes hrdo hmg hmem
              dsimp only
              go_wp2_with fail
              go_roundw
              case rel => exact ⟨k + 1, by omega, by go_num, HN.out, hbr.out⟩
              case measure => simp [intOf]; omega
            · rw [decide_eq_false hmem]
              rw [decide_eq_false hmem] at hmg
              have hfs := falses_set hmg
              rw [if_neg hmem] at hnx hyes
              have hin2 : Hid (∀ i ∈ is ++ [k], i < l.length) := fun i hi => by
                rcases List.mem_append.1 hi with h | h
                · exact HIN.out i h
                · simp at h; omega
              have hlen2 : Hid ((is ++ [k]).length + falses (marksOf l.length (is ++ [k])) = l.length) := by
                show _ = _
                rw [marksOf_snoc, List.length_append, List.length_singleton]
                have := HLEN.out
                omega
              have hf2 : Hid (falses (marksOf l.length (is ++ [k])) < f) := by
                show _ < _
                rw [marksOf_snoc]
                have := HF.out
                omega
              have HM0 : Hid (Made icell 1 3 w2.heap.size w2 (.slice none 0 0) ([] : List Nat)) := Made.nil _ _ _
              clear hrdo hmg hmem hfs
              dsimp only
              go_wp2_with (at_builtin; first
                | (refine wpList_app (v := .slice none 0 0) (xs := []) rowInt encI rfl (.tmp 30) (.tmp 31) rfl w2.heap.size rfl HM0.out rfl rfl HRDO.out (by simp; omega) (by unfold maxLen; simp; omega) (Nat.le_refl _) ?_; intro v3 w3 hm3 hg3 hat3; obtain ⟨A3, c3, rfl, hc3⟩ := hm3.form; simp only [List.nil_append] at hm3; have hgb3 := Below.grown (Below.refl _ _) hg3 (Nat.le_refl w2.heap.size) (by simp [Value.ownBlock]); have HM3 := Lib.hid hm3; have HB3 := Lib.hid hgb3; have HRD3 := Lib.hid (rd_one encI w3 k #[.int .i64 (k : Nat)] rfl 3); clear hm3 hg3 hat3 hgb3 hc3)
                | (refine wpList_app (v := .slice A3 is.length c3) (xs := is) (ys := [k]) rowInt encI rfl (.tmp 35) (.tmp 37) rfl w2.heap.size rfl (HM3.out.alloc _) rfl rfl HRD3.out (by simp only [List.length_singleton]; omega) (by unfold maxLen; simp only [List.length_singleton]; omega) (by simp; have := HB3.out.size; omega) ?_; intro v4 w4 hm4 hg4 hat4; obtain ⟨A4, c4, rfl, hc4⟩ := hm4.form; have hg4b := Below.grown ((HB3.out.alloc HB3.out.size _) : Below w2.heap.size w2 (w3.alloc _)) hg4 (by simp; have := HB3.out.size; omega) (fun q e => (HM3.out.lt q e).1); have HM4 := Lib.hid hm4; have HB4 := Lib.hid (hbr.out.trans (hg4b.mono hbr.out.size)); have HC4 := Lib.hid hc4; clear hm4 hg4 hat4 hg4b hc4))
              have hrec := HIH.out (is ++ [k]) A4 c4 w4 hin2.out hlen2.out hf2.out HC4.out ((HA.out.below HB4.out).more HB4.out.size) (Made.rd' encI.len HM4.out)
              rw [show (is ++ [k]).length = is.length + 1 by simp] at hrec
              with_reducible refine hrec.mono ?_
              clear hrec
              rintro e w5 ⟨hb5, hcase⟩
              have HB5 := Lib.hid (HB4.out.trans (hb5.mono HB4.out.size))
              clear hb5
              rcases hcase with ⟨ks, A', c', hks, rfl, hrk⟩ | ⟨hks, rfl⟩
              · have HFN := Lib.hid (hyes.out ks hks)
                have HRK := Lib.hid hrk
                clear hks hrk hnx hyes
                dsimp only
                go_wp2_with fail
                rw [HT0.out]
                exact ⟨HB5.out, .inl ⟨ks, A', c', HFN.out, rfl, HRK.out⟩⟩
              · have HN := Lib.hid (hnx.out hks)
                clear hks hnx hyes
                dsimp only
                go_wp2_with fail
                go_roundw
                case rel => exact ⟨k + 1, by omega, by go_num, HN.out, HB5.out⟩
                case measure => simp [intOf]; omega
          · have g5 : decide ((k:Int) < (l.length : Int)) = false := decide_eq_false (by omega)
            have g6 : decide (k < l.length) = false := decide_eq_false h3
            have hkl : k = l.length := by omega
            have hno' := hno.out
            rw [hkl] at hno'
            have HFN : Hid (fromL (f + 1) l is = none) := Lib.hid (HFL.out.trans hno')
            clear hno'
            clear hno hkl
            go_wp2_with fail
            rw [HT0.out]
            exact ⟨hbr.out, .inr ⟨HFN.out, rfl⟩⟩

/-- The reference's Search. -/
def RefSearchPost (l : List Call) (w : World) (e : Ending) (w' : World) : Prop :=
  ∃ A' c', e = .returned (.tuple #[.slice A' (searchL l).1.length c', .bool (searchL l).2.1, .int .i64 (searchL l).2.2]) ∧ Rd icell 1 w' w'.heap.size A' (searchL l).1 ∧ Below w.heap.size w w'
theorem good_self {l : List Call} (h : checkL l = 0) : ∀ x ∈ l, precedes x x = false := fun x hx => by
  have hg : GoodL l := by
    unfold checkL at h
    by_cases hg : GoodL l
    · exact hg
    · rw [if_neg hg] at h; cases h
  obtain ⟨i, hi, rfl⟩ := List.mem_iff_getElem.1 hx
  exact precedes_self (hg i hi).1
set_option maxRecDepth 100000 in
set_option maxHeartbeats 2000000 in
theorem search_ref (A : Option Addr) (c n : Nat) (l : List Call) (hn : n = l.length) (w : World) (hl : l.length ≤ 9223372036854775806) (hv : ∀ x ∈ l, x.op.value.size ≤ 9223372036854775807) (ha : Rd Call.cells 10 w w.heap.size A l) :
    Calls Try.prog 72 #[.slice A n c] w (RefSearchPost l w) := by
  subst hn
  obtain ⟨T0, hT0⟩ : ∃ T0 : Ending → World → Prop, T0 = RefSearchPost l w := ⟨_, rfl⟩
  rw [← hT0]
  have HT0 := Lib.hid hT0
  have HA := Lib.hid ha
  have HV := Lib.hid hv
  clear ha hv hT0
  go_enter Try.func72, Try.ntmps72
  go_wp2_with fail
  refine (refCheck A c l.length l rfl w hl HV.out HA.out).mono ?_
  rintro e w1 ⟨rfl, hb1⟩
  have HB1 := Lib.hid hb1
  clear hb1
  by_cases hck : checkL l = 0
  · have HCK := Lib.hid hck
    rw [hck]
    by_cases h8 : 8 < l.length
    · have h8' : decide (8 < l.length) = true := decide_eq_true h8
      have h8i : decide ((8:Int) < (l.length : Int)) = true := decide_eq_true (by omega)
      have hs : searchL l = ([], false, 181) := by simp [searchL, hck, h8]
      clear hck
      dsimp only
      go_wp2_with fail
      go_ret3
      rw [HT0.out]
      exact ⟨none, 0, by rw [hs]; rfl, by rw [hs]; exact Rd.nil, HB1.out⟩
    · have h8' : decide (8 < l.length) = false := decide_eq_false h8
      have h8i : decide ((8:Int) < (l.length : Int)) = false := decide_eq_false (by omega)
      have hsr : searchL l = (match best l with | some ks => (ks, true, (0:Int)) | none => ([], false, 0)) := by unfold searchL; rw [if_neg (by simp [hck]), if_neg h8]; rfl
      have HSR := Lib.hid hsr
      have hfr := from_ref l A c (by omega) HV.out (good_self hck) (l.length + 1) [] none 0 w1 (fun i h => by simp at h) (by simp [marksOf, falses]) (by simp [marksOf, falses]) (by simp) ((HA.out.below HB1.out).more HB1.out.size) Rd.nil
      have HFR := Lib.hid hfr
      clear hck hsr hfr
      dsimp only
      go_wp2_with fail
      refine HFR.out.mono ?_
      rintro e w2 ⟨hb2, hcase⟩
      have HB2 := Lib.hid (HB1.out.trans (hb2.mono HB1.out.size))
      clear hb2
      rcases hcase with ⟨ks, A', c', hks, rfl, hrk⟩ | ⟨hks, rfl⟩
      · rw [from_best] at hks
        have hs : searchL l = (ks, true, 0) := by rw [HSR.out, hks]
        have HRK := Lib.hid hrk
        clear hks hrk
        dsimp only
        go_wp2_with fail
        go_ret3
        rw [HT0.out]
        exact ⟨A', c', by rw [hs]; rfl, by rw [hs]; exact HRK.out, HB2.out⟩
      · rw [from_best] at hks
        have hs : searchL l = ([], false, 0) := by rw [HSR.out, hks]
        clear hks
        dsimp only
        go_wp2_with fail
        go_ret3
        rw [HT0.out]
        exact ⟨none, 0, by rw [hs]; rfl, by rw [hs]; exact Rd.nil, HB2.out⟩
  · have hck2 : (checkL l == 0) = false := by simpa using hck
    have hck3 : (checkL l != 0) = true := by simpa using hck
    have hc180 : checkL l = 180 := by
      unfold checkL at hck ⊢
      by_cases hg : GoodL l
      · rw [if_pos hg] at hck; exact absurd rfl hck
      · rw [if_neg hg]
    have hs : searchL l = ([], false, 180) := by simp [searchL, hck, hc180]
    dsimp only
    go_wp2_with fail
    go_ret3
    rw [HT0.out]
    exact ⟨none, 0, by rw [hs]; rfl, by rw [hs]; exact Rd.nil, HB1.out⟩
end Go.Proofs.Ytmfidhlhcochoaa
