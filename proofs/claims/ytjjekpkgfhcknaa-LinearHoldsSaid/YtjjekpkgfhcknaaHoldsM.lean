/- The reference's search and the least completion are one. Plain lists. Conditions: a history that may be.
The reference's has and Breaks. Conditions: Go lengths; a history that may be.
The reference's from and Search. Conditions: at most eight calls; a history that may be.
amnesiaplain.Given: what Entries hands out, and what Intact then answers. Conditions: lengths within Go's own limits.
amnesiaplain.Given: what Ints hands out, and what Intact then answers. Conditions: lengths within Go's own limits.
The reference's Holds. Conditions: Go lengths.
Lists of numbers as a law's argument, opened. Conditions: none.
LinearHolds answers true. Conditions: sizes within the form's own reach. -/
import Derived.Test.YtjjekpkgfhcknaaHoldsPlain
import Derived.Test.YtjjekpkgfhcknaaWorks18
import Derived.Test.YtjjekpkgfhcknaaDoRef
import Derived.Deep.RegionHeld3
import Derived.StillTailTactics
import Derived.Test.YtjjekpkgfhcknaaRefCheck18
import Derived.Test.YtjjekpkgfhcknaaPlain
import Derived.Deep.DeepMust
import Derived.Deep.RegionLaw
import Derived.Deep.AppendLies
import Derived.Test.YtjjekpkgfhcknaaHolds
import Derived.Test.YtjjekpkgfhcknaaOpen18
import Derived.Test.YtjjekpkgfhcknaaChecks18
namespace Go.Proofs.Ytjjekpkgfhcknaa
set_option linter.unusedVariables false
set_option linter.unusedSimpArgs false

/-- The first answer of some numbers. -/
def firstL (g : Nat → Option (List Nat)) : List Nat → Option (List Nat)
  | [] => none
  | i :: is => match g i with
    | some ks => some ks
    | none => firstL g is
theorem firstL_append (g : Nat → Option (List Nat)) (a b : List Nat) (h : firstL g a = none) : firstL g (a ++ b) = firstL g b := by
  induction a with
  | nil => rfl
  | cons i is ih =>
    simp only [firstL] at h
    simp only [List.cons_append, firstL]
    cases hg : g i with
    | some ks => rw [hg] at h; cases h
    | none => rw [hg] at h; exact ih h
theorem range_split {k n : Nat} (h : k < n) : List.range n = List.range k ++ (k :: (List.range n).drop (k + 1)) := by
  have h1 := List.take_append_drop k (List.range n)
  have h2 : (List.range n).take k = List.range k := by rw [List.take_range]; congr 1; omega
  have h3 : (List.range n).drop k = k :: (List.range n).drop (k + 1) := by
    rw [List.drop_eq_getElem_cons (by simpa using h)]
    simp
  rw [h2, h3] at h1
  exact h1.symm
theorem first_some {g : Nat → Option (List Nat)} {k n : Nat} {ks : List Nat} (h : firstL g (List.range k) = none) (hkn : k < n) (hk : g k = some ks) : firstL g (List.range n) = some ks := by
  rw [range_split hkn, firstL_append _ _ _ h]
  simp [firstL, hk]
theorem first_none_succ {g : Nat → Option (List Nat)} {k : Nat} (h : firstL g (List.range k) = none) (hk : g k = none) : firstL g (List.range (k + 1)) = none := by
  rw [List.range_succ, firstL_append _ _ _ h]
  simp [firstL, hk]
/-- The reference's answer: the least witness that begins with an order. -/
def fromL : Nat → List Call → List Nat → Option (List Nat)
  | 0, _, _ => none
  | f + 1, l, is => if walkH l (allFree l) [] is 0 = -1 then some is else if walkH l (allFree l) [] is 0 < (is.length : Int) then none
      else firstL (fun k => if k ∈ is then none else fromL f l (is ++ [k])) (List.range l.length)
/-- The cells behind an order. -/
def cellsAt (l : List Call) (is : List Nat) : List Cell := is.foldl (fun cs i => match l[i]? with | some x => after cs x.op | none => cs) []
theorem cellsAt_snoc (l : List Call) (is : List Nat) (i : Nat) (h : i < l.length) : cellsAt l (is ++ [i]) = after (cellsAt l is) l[i].op := by
  simp [cellsAt, List.getElem?_eq_getElem h]
/-- An order that does not break: the walk along it comes to its end. -/
def Stands (l : List Call) (is : List Nat) : Prop := ∀ js, walkH l (allFree l) [] (is ++ js) 0 = walkH l (marksOf l.length is) (cellsAt l is) js is.length
theorem Stands.nil (l : List Call) : Stands l [] := fun js => rfl
theorem Stands.walk {l : List Call} {is : List Nat} (h : Stands l is) : walkH l (allFree l) [] is 0 = if missingL l (marksOf l.length is) = true then (is.length : Int) else -1 := by
  have := h []
  rw [List.append_nil] at this
  rw [this]
  rfl
theorem Stands.snoc {l : List Call} {is : List Nat} (h : Stands l is) {i : Nat} (hi : i < l.length) (hb : breaksL l (marksOf l.length is) i (would (cellsAt l is) l[i].op) = false) : Stands l (is ++ [i]) := fun js => by
  rw [List.append_assoc, h, marksOf_snoc, cellsAt_snoc l is i hi]
  simp only [List.singleton_append, walkH, List.getElem?_eq_getElem hi, hb, List.length_append, List.length_singleton]
  rfl
theorem Stands.breaks {l : List Call} {is : List Nat} (h : Stands l is) {i : Nat} (hi : i < l.length) (hb : breaksL l (marksOf l.length is) i (would (cellsAt l is) l[i].op) = true) : walkH l (allFree l) [] (is ++ [i]) 0 = (is.length : Int) := by
  rw [h]
  simp only [walkH, List.getElem?_eq_getElem hi, hb, if_true]
theorem tryL_first {g : Nat → Option (List Nat)} {g' : Nat → Option (List Nat)} (is : List Nat) (js : List Nat) (h : ∀ k ∈ js, g' k = (g k).map fun ks => is ++ k :: ks) : firstL g' js = (tryL g js).map (is ++ ·) := by
  induction js with
  | nil => rfl
  | cons k js ih =>
    simp only [firstL, tryL]
    rw [h k (by simp)]
    cases hg : g k with
    | some ks => simp
    | none =>
      simp only [Option.map_none]
      exact ih fun q hq => h q (by simp [hq])
theorem from_comp (l : List Call) : ∀ (f : Nat) (is : List Nat), Stands l is → (∀ i ∈ is, i < l.length) → falses (marksOf l.length is) < f → fromL f l is = (comp f l (marksOf l.length is) (cellsAt l is)).map (is ++ ·) := by
  intro f
  induction f with
  | zero => intro is _ _ h; omega
  | succ f ih =>
    intro is hs hr hf
    have hw := hs.walk
    simp only [fromL, comp]
    cases hm : missingL l (marksOf l.length is)
    · rw [hm] at hw
      rw [if_pos (by rw [hw]; rfl)]
      simp
    · rw [hm] at hw
      simp only [if_true] at hw
      rw [if_neg (by rw [hw]; omega), if_neg (by rw [hw]; omega)]
      simp only [if_true]
      refine tryL_first is _ fun k hk => ?_
      have hkl : k < l.length := List.mem_range.1 hk
      have hmk := marksOf_get l.length is k hkl
      rw [hmk, List.getElem?_eq_getElem hkl]
      by_cases hin : k ∈ is
      · simp [hin]
      · simp only [hin, decide_false, if_false]
        rw [decide_eq_false hin] at hmk
        have hfs := falses_set hmk
        cases hb : breaksL l (marksOf l.length is) k (would (cellsAt l is) l[k].op)
        · simp only [Bool.false_eq_true, if_false]
          rw [ih (is ++ [k]) (hs.snoc hkl hb) (fun i hi => by rcases List.mem_append.1 hi with h | h; exact hr i h; simp at h; subst h; exact hkl) (by rw [marksOf_snoc]; omega)]
          rw [marksOf_snoc, cellsAt_snoc l is k hkl]
          cases comp f l ((marksOf l.length is).set k true) (after (cellsAt l is) l[k].op) <;> simp
        · simp only [if_true, Option.map_none]
          cases f with
          | zero => rfl
          | succ f =>
            have hbk := hs.breaks hkl hb
            simp only [fromL]
            rw [if_neg (by rw [hbk]; omega), if_pos (by rw [hbk]; simp; omega)]
theorem from_best (l : List Call) : fromL (l.length + 1) l [] = best l := by
  rw [from_comp l (l.length + 1) [] (Stands.nil l) (fun i h => by simp at h) (by show falses (marksOf l.length []) < _; simp [marksOf, falses])]
  show (comp (l.length + 1) l (allFree l) []).map ([] ++ ·) = _
  unfold best
  cases comp (l.length + 1) l (allFree l) [] <;> simp
end Go.Proofs.Ytjjekpkgfhcknaa

namespace Go.Proofs.Ytjjekpkgfhcknaa
open Go.RowKit
set_option linter.unusedVariables false
set_option linter.unusedSimpArgs false

theorem precedes_self {x : Call} (h : goodC x = true) : precedes x x = false := by
  unfold goodC at h
  unfold precedes
  by_cases h1 : x.fin = -1
  · have h2 : ¬ 0 ≤ x.fin := by omega
    simp [h2]
  · rw [if_neg h1] at h
    simp only [Bool.and_eq_true, decide_eq_true_eq] at h
    have h2 : ¬ x.fin < x.beg := by omega
    simp [h2]
set_option maxHeartbeats 1600000 in
theorem has_ref (A : Option Addr) (c n : Nat) (is : List Nat) (hn : n = is.length) (k : Nat) (w : World) (hl : is.length ≤ 9223372036854775806) (ha : Rd icell 1 w w.heap.size A is) :
    Calls Try.prog 51 #[.slice A n c, .int .i64 (k : Nat)] w fun e w' => e = .returned (.bool (decide (k ∈ is))) ∧ w' = w := by
  subst hn
  obtain ⟨r, hr⟩ : ∃ r, r = decide (k ∈ is) := ⟨_, rfl⟩
  rw [← hr]
  have HA := Lib.hid ha
  have HR := Lib.hid hr
  clear ha hr
  go_enter Try.func51, Try.ntmps51
  go_wp2_with fail
  go_loopw [5] (fun i wr => ∃ j : Nat, j ≤ is.length ∧ i = .int .i64 j ∧ Hid (∀ q (h : q < is.length), q < j → is[q] ≠ k) ∧ wr = w) (fun i _ => is.length - (intOf i).toNat)
  case atStart => exact ⟨0, by omega, rfl, fun q _ h => absurd h (Nat.not_lt_zero q), rfl⟩
  case round =>
    obtain ⟨j, hj, rfl, hno, rfl⟩ := hrel
    by_cases h1 : j < is.length
    · obtain ⟨ad, hA, _, hca⟩ := HA.out.at_ h1
      have g1 : (j:Int) < (is.length : Int) := by omega
      have i2 : (0:Int) ≤ (j:Int) := by omega
      have d0 : wr.cell? (ad.add j) = some (.int .i64 (is[j] : Nat)) := by have := hca.one; rwa [Nat.mul_one] at this
      subst hA
      clear hca
      by_cases he : is[j] = k
      · obtain rfl : r = true := HR.out.trans (decide_eq_true (by rw [← he]; exact List.getElem_mem h1))
        rw [he] at d0
        clear he
        go_wp2_with fail
        go_ret
        exact ⟨rfl, rfl⟩
      · have hnx : Hid (∀ q (h : q < is.length), q < j + 1 → is[q] ≠ k) := fun q hq hlt => by
          by_cases e : q = j
          · subst e; exact he
          · exact hno.out q hq (by omega)
        have e1 : ((is[j] : Int) == (k : Int)) = false := by simp; omega
        have e2 : decide ((is[j] : Int) = (k : Int)) = false := decide_eq_false (by omega)
        have e3 : ¬ is[j] = k := he
        generalize is[j] = y at *
        go_wp2_with fail
        go_roundw
        case rel => exact ⟨j + 1, by omega, by go_num, hnx, (by first | rfl | trivial)⟩
        case measure => simp [intOf]; omega
    · obtain rfl : r = false := HR.out.trans (decide_eq_false (fun hm => by
        obtain ⟨q, hq, e⟩ := List.mem_iff_getElem.1 hm
        exact hno.out q hq (by omega) e))
      have g2 : decide ((j:Int) < (is.length : Int)) = false := decide_eq_false (by omega)
      have g3 : decide (j < is.length) = false := decide_eq_false h1
      go_wp2_with fail
      go_ret
      exact ⟨rfl, rfl⟩
set_option maxRecDepth 100000 in
set_option maxHeartbeats 8000000 in
theorem breaks_ref (A : Option Addr) (c n : Nat) (l : List Call) (hn : n = l.length) (Ao : Option Addr) (co no : Nat) (is : List Nat) (hno : no = is.length) (w : World) (hl : l.length ≤ 9223372036854775806) (hlo : is.length ≤ 9223372036854775806) (hco : no ≤ co) (hv : ∀ x ∈ l, x.op.value.size ≤ 9223372036854775807) (hself : ∀ x ∈ l, precedes x x = false) (hin : ∀ i ∈ is, i < l.length) (ha : Rd Call.cells 10 w w.heap.size A l) (hao : Rd icell 1 w w.heap.size Ao is) :
    Calls Try.prog 52 #[.slice A n c, .slice Ao no co] w fun e w' => e = .returned (.int .i64 (walkH l (allFree l) [] is 0)) ∧ Below w.heap.size w w' := by
  subst hn hno
  obtain ⟨r, hr⟩ : ∃ r, r = walkH l (allFree l) [] is 0 := ⟨_, rfl⟩
  rw [← hr]
  have HR := Lib.hid hr
  have HA := Lib.hid ha
  have HAO := Lib.hid hao
  have HV := Lib.hid hv
  have HSELF := Lib.hid hself
  have HIN := Lib.hid hin
  clear ha hao hv hself hin hr
  go_enter Try.func52, Try.ntmps52
  go_wp2_with fail
  go_loopw [6, 5] (fun i v wr => ∃ k : Nat, ∃ cs A5 c5, k ≤ is.length ∧ i = .int .i64 k ∧ v = .slice A5 cs.length c5 ∧ Hid (Rd Cell.cells 2 wr wr.heap.size A5 cs) ∧ Hid (Rising cs) ∧ Hid (r = walkH l (marksOf l.length (is.take k)) cs (is.drop k) k) ∧ Hid (Below w.heap.size w wr)) (fun i _ _ => is.length - (intOf i).toNat)
  case atStart => exact ⟨0, [], none, 0, by omega, rfl, rfl, Rd.nil, Rising.nil, HR.out, Below.refl _ _⟩
  case round =>
    obtain ⟨k, cs, A5, c5, hk, rfl, rfl, hrd5, hri, hwk, hbr⟩ := hrel
    obtain ⟨wo, hwo⟩ : ∃ wo, wo = wr := ⟨_, rfl⟩
    subst hwo
    by_cases h1 : k < is.length
    · obtain ⟨bd, hB, hbl, hcb⟩ := (HAO.out.below hbr.out).at_ h1
      have hp : is[k] < l.length := HIN.out _ (List.getElem_mem h1)
      obtain ⟨p, hpp⟩ : ∃ p, p = is[k] := ⟨_, rfl⟩
      rw [← hpp] at hp
      have d0 : wo.cell? (bd.add k) = some (.int .i64 (p : Nat)) := by have := hcb.one; rw [Nat.mul_one, ← hpp] at this; exact this
      obtain ⟨ad, hA, hal, hca⟩ := (HA.out.below hbr.out).at_ hp
      obtain ⟨a0, a1, a2, a3, a4, a5, a6, a7, a8, a9⟩ := hca.call
      have g1 : (k:Int) < (is.length : Int) := by omega
      have i1 : (0:Int) ≤ (k:Int) := by omega
      have g2 : (p:Int) < (l.length : Int) := by omega
      have i2 : (0:Int) ≤ (p:Int) := by omega
      have hvx := HV.out _ (List.getElem_mem hp)
      have hsx := HSELF.out _ (List.getElem_mem hp)
      have hdrop : is.drop k = p :: is.drop (k + 1) := by rw [List.drop_eq_getElem_cons h1, hpp]
      have htk : is.take (k + 1) = is.take k ++ [p] := by rw [List.take_succ_eq_append_getElem h1, hpp]
      have hwk2 := hwk.out
      rw [hdrop, walk_cons hp] at hwk2
      obtain ⟨x, hx⟩ : ∃ x, x = l[p] := ⟨_, rfl⟩
      have HX := Lib.hid hx
      rw [← hx] at a0 a1 a2 a3 a4 a5 a6 a7 a8 a9 hvx hwk2 hsx
      have HWK := Lib.hid hwk2
      have HTK := Lib.hid htk
      have HSX := Lib.hid hsx
      subst hA hB
      clear hcb hca hdrop htk hwk2 hwk hsx hx hpp
      go_wp2_with fail
      obtain ⟨W1, hW1⟩ : ∃ W1, W1 = wo.alloc (.cells #[.int .i64 x.client, .int .i64 x.number, .int .i64 x.op.kind, .int .i64 x.op.slot, .string x.op.value, .int .i64 x.beg, .int .i64 x.fin, .int .i64 x.res.code, .int .i64 x.res.slot, .string x.res.value] 28) := ⟨_, rfl⟩
      have hb1 : Below wo.heap.size wo W1 := by rw [hW1]; exact (Below.refl _ _).alloc (Nat.le_refl _) _
      have hx1 : W1.heap[wo.heap.size]? = some (.cells #[.int .i64 x.client, .int .i64 x.number, .int .i64 x.op.kind, .int .i64 x.op.slot, .string x.op.value, .int .i64 x.beg, .int .i64 x.fin, .int .i64 x.res.code, .int .i64 x.res.slot, .string x.res.value] 28 (0, 0)) := by rw [hW1]; exact heap_alloc_new _ _
      have hz1 : W1.heap.size = wo.heap.size + 1 := by rw [hW1]; simp
      have HX1 := Lib.hid hx1
      have HB1 := Lib.hid (hbr.out.trans (hb1.mono hbr.out.size))
      have HRD5 := Lib.hid ((hrd5.out.below hb1).more hb1.size)
      rw [← hW1]
      clear hb1 hx1 hW1 a0 a1 a2 a3 a4 a5 a6 a7 a8 a9 hrd5 hbr d0
      have hsl : ∀ W : World, (Instr.slice 37 (.slice (some bd) is.length co) none (some (.int .i64 (k : Nat))) none).run Try.prog W = .ok (.slice (some bd) k co) W := by
        have hu2 := Try.underlying37
        have huc : k ≤ co := by omega
        clear g1 i1
        intro W
        go_simp
      go_loopw [8] (fun i wi => ∃ k2 : Nat, k2 ≤ l.length ∧ i = .int .i64 k2 ∧ Hid (∀ j, j < k2 → aheadAt l (marksOf l.length (is.take k)) p j = false) ∧ Hid (Below W1.heap.size W1 wi)) (fun i _ => l.length - (intOf i).toNat)
      case atStart => exact ⟨0, by omega, rfl, fun j h => absurd h (Nat.not_lt_zero j), Below.refl _ _⟩
      case round =>
        obtain ⟨k2, hk2, rfl, hno, hbi⟩ := hrel
        have hbi2 := HB1.out.trans (hbi.out.mono HB1.out.size)
        have HBI2 := Lib.hid hbi2
        by_cases h2 : k2 < l.length
        · skip
          have hk2p : Hid (∀ pr, pr = precedes l[k2] x → pr = true → k2 ≠ p) := fun pr h1 h2 e => by
            subst e
            rw [h1, ← HX.out, HSX.out] at h2
            cases h2
          obtain ⟨ak, hAk, hakl, hck⟩ := (HA.out.below hbi2).at_ h2
          cases hAk
          have hmk : aheadAt l (marksOf l.length (is.take k)) p k2 = (!(decide (k2 ∈ is.take k)) && !(k2 == p) && precedes l[k2] x) := by
            unfold aheadAt
            rw [List.getElem?_eq_getElem h2, List.getElem?_eq_getElem hp, List.getD_eq_getElem?_getD, marksOf_get _ _ _ h2, ← HX.out]
            rfl
          have hnx : Hid (aheadAt l (marksOf l.length (is.take k)) p k2 = false → ∀ j, j < k2 + 1 → aheadAt l (marksOf l.length (is.take k)) p j = false) := fun h j hj => by
            by_cases e : j = k2
            · subst e; exact h
            · exact hno.out j (by omega)
          have hyes : Hid (aheadAt l (marksOf l.length (is.take k)) p k2 = true → r = (k : Int)) := fun h => HWK.out.trans (if_pos (ahead_of h2 h))
          have hx := (hbi.out.block _ (Array.getElem?_eq_some_iff.1 HX1.out).1).trans HX1.out
          obtain ⟨c0, c1, c2, c3, c4, c5', c6, c7, c8, c9⟩ := hck.call
          obtain ⟨y, hy⟩ : ∃ y, y = l[k2] := ⟨_, rfl⟩
          rw [← hy] at c0 c1 c2 c3 c4 c5' c6 c7 c8 c9 hmk hk2p
          have hiz := hbi.out.size
          have hwz := HB1.out.size
          have hlt : ad.block < wr.heap.size := by omega
          have KEY : Hid (∀ W, Below wr.heap.size wr W → W.cell? (ad.add (k2 * 10)) = some (.int .i64 y.client) ∧ W.cell? ⟨(ad.add (k2 * 10)).block, (ad.add (k2 * 10)).off + 1, none⟩ = some (.int .i64 y.number) ∧ W.cell? ⟨(ad.add (k2 * 10)).block, (ad.add (k2 * 10)).off + 2, none⟩ = some (.int .i64 y.op.kind) ∧ W.cell? ⟨(ad.add (k2 * 10)).block, (ad.add (k2 * 10)).off + 3, none⟩ = some (.int .i64 y.op.slot) ∧ W.cell? ⟨(ad.add (k2 * 10)).block, (ad.add (k2 * 10)).off + 4, none⟩ = some (.string y.op.value) ∧ W.cell? ⟨(ad.add (k2 * 10)).block, (ad.add (k2 * 10)).off + 5, none⟩ = some (.int .i64 y.beg) ∧ W.cell? ⟨(ad.add (k2 * 10)).block, (ad.add (k2 * 10)).off + 6, none⟩ = some (.int .i64 y.fin) ∧ W.cell? ⟨(ad.add (k2 * 10)).block, (ad.add (k2 * 10)).off + 7, none⟩ = some (.int .i64 y.res.code) ∧ W.cell? ⟨(ad.add (k2 * 10)).block, (ad.add (k2 * 10)).off + 8, none⟩ = some (.int .i64 y.res.slot) ∧ W.cell? ⟨(ad.add (k2 * 10)).block, (ad.add (k2 * 10)).off + 9, none⟩ = some (.string y.res.value) ∧ W.cell? ⟨wo.heap.size, 0, none⟩ = some (.int .i64 x.client) ∧ W.cell? ⟨wo.heap.size, 1, none⟩ = some (.int .i64 x.number) ∧ W.cell? ⟨wo.heap.size, 2, none⟩ = some (.int .i64 x.op.kind) ∧ W.cell? ⟨wo.heap.size, 3, none⟩ = some (.int .i64 x.op.slot) ∧ W.cell? ⟨wo.heap.size, 4, none⟩ = some (.string x.op.value) ∧ W.cell? ⟨wo.heap.size, 5, none⟩ = some (.int .i64 x.beg) ∧ W.cell? ⟨wo.heap.size, 6, none⟩ = some (.int .i64 x.fin) ∧ W.cell? ⟨wo.heap.size, 7, none⟩ = some (.int .i64 x.res.code) ∧ W.cell? ⟨wo.heap.size, 8, none⟩ = some (.int .i64 x.res.slot) ∧ W.cell? ⟨wo.heap.size, 9, none⟩ = some (.string x.res.value)) := fun W hW => by
            have hc : ∀ a : Addr, a.block < wr.heap.size → W.cell? a = wr.cell? a := fun a h => hW.cell h
            exact ⟨(hc _ (by rw [block_add]; exact hlt)).trans c0, (hc ⟨(ad.add (k2 * 10)).block, (ad.add (k2 * 10)).off + 1, none⟩ (by show (ad.add (k2 * 10)).block < _; rw [block_add]; exact hlt)).trans c1, (hc ⟨(ad.add (k2 * 10)).block, (ad.add (k2 * 10)).off + 2, none⟩ (by show (ad.add (k2 * 10)).block < _; rw [block_add]; exact hlt)).trans c2, (hc ⟨(ad.add (k2 * 10)).block, (ad.add (k2 * 10)).off + 3, none⟩ (by show (ad.add (k2 * 10)).block < _; rw [block_add]; exact hlt)).trans c3, (hc ⟨(ad.add (k2 * 10)).block, (ad.add (k2 * 10)).off + 4, none⟩ (by show (ad.add (k2 * 10)).block < _; rw [block_add]; exact hlt)).trans c4, (hc ⟨(ad.add (k2 * 10)).block, (ad.add (k2 * 10)).off + 5, none⟩ (by show (ad.add (k2 * 10)).block < _; rw [block_add]; exact hlt)).trans c5', (hc ⟨(ad.add (k2 * 10)).block, (ad.add (k2 * 10)).off + 6, none⟩ (by show (ad.add (k2 * 10)).block < _; rw [block_add]; exact hlt)).trans c6, (hc ⟨(ad.add (k2 * 10)).block, (ad.add (k2 * 10)).off + 7, none⟩ (by show (ad.add (k2 * 10)).block < _; rw [block_add]; exact hlt)).trans c7, (hc ⟨(ad.add (k2 * 10)).block, (ad.add (k2 * 10)).off + 8, none⟩ (by show (ad.add (k2 * 10)).block < _; rw [block_add]; exact hlt)).trans c8, (hc ⟨(ad.add (k2 * 10)).block, (ad.add (k2 * 10)).off + 9, none⟩ (by show (ad.add (k2 * 10)).block < _; rw [block_add]; exact hlt)).trans c9, (hc ⟨wo.heap.size, 0, none⟩ (by show wo.heap.size < _; omega)).trans (cell_of_row _ _ 0 _ _ _ hx), (hc ⟨wo.heap.size, 1, none⟩ (by show wo.heap.size < _; omega)).trans (cell_of_row _ _ 1 _ _ _ hx), (hc ⟨wo.heap.size, 2, none⟩ (by show wo.heap.size < _; omega)).trans (cell_of_row _ _ 2 _ _ _ hx), (hc ⟨wo.heap.size, 3, none⟩ (by show wo.heap.size < _; omega)).trans (cell_of_row _ _ 3 _ _ _ hx), (hc ⟨wo.heap.size, 4, none⟩ (by show wo.heap.size < _; omega)).trans (cell_of_row _ _ 4 _ _ _ hx), (hc ⟨wo.heap.size, 5, none⟩ (by show wo.heap.size < _; omega)).trans (cell_of_row _ _ 5 _ _ _ hx), (hc ⟨wo.heap.size, 6, none⟩ (by show wo.heap.size < _; omega)).trans (cell_of_row _ _ 6 _ _ _ hx), (hc ⟨wo.heap.size, 7, none⟩ (by show wo.heap.size < _; omega)).trans (cell_of_row _ _ 7 _ _ _ hx), (hc ⟨wo.heap.size, 8, none⟩ (by show wo.heap.size < _; omega)).trans (cell_of_row _ _ 8 _ _ _ hx), (hc ⟨wo.heap.size, 9, none⟩ (by show wo.heap.size < _; omega)).trans (cell_of_row _ _ 9 _ _ _ hx)⟩
          have g3 : (k2:Int) < (l.length : Int) := by omega
          have i3 : (0:Int) ≤ (k2:Int) := by omega
          have HMK := Lib.hid hmk
          clear hck hmk hno hx hlt c0 c1 c2 c3 c4 c5' c6 c7 c8 c9
          clear hy
          obtain ⟨pr, hpr⟩ : ∃ pr, pr = precedes y x := ⟨_, rfl⟩
          have HPR := Lib.hid hpr
          have hkp := hk2p.out pr hpr
          have HKP := Lib.hid hkp
          have hko : (k:Int) ≤ (co:Int) := by omega
          have htl : k = (is.take k).length := by rw [List.length_take]; omega
          have HTL := Lib.hid htl
          rw [← hpr] at HMK
          clear hpr hkp hk2p htl
          have hin := KEY.out wr (Below.refl _ _)
          cases pr
          · have HN := Lib.hid (hnx.out (by rw [HMK.out]; simp))
            clear hnx hyes HMK
            obtain ⟨z0, z1, z2, z3, z4, z5, z6, z7, z8, z9, t0, t1, t2, t3, t4, t5, t6, t7, t8, t9⟩ := hin
            go_wp2_with fail
            refine wp_region_held_drew (S := (fun W => W.cell? (ad.add (k2 * 10)) = some (.int .i64 y.client) ∧ W.cell? ⟨(ad.add (k2 * 10)).block, (ad.add (k2 * 10)).off + 1, none⟩ = some (.int .i64 y.number) ∧ W.cell? ⟨(ad.add (k2 * 10)).block, (ad.add (k2 * 10)).off + 2, none⟩ = some (.int .i64 y.op.kind) ∧ W.cell? ⟨(ad.add (k2 * 10)).block, (ad.add (k2 * 10)).off + 3, none⟩ = some (.int .i64 y.op.slot) ∧ W.cell? ⟨(ad.add (k2 * 10)).block, (ad.add (k2 * 10)).off + 4, none⟩ = some (.string y.op.value) ∧ W.cell? ⟨(ad.add (k2 * 10)).block, (ad.add (k2 * 10)).off + 5, none⟩ = some (.int .i64 y.beg) ∧ W.cell? ⟨(ad.add (k2 * 10)).block, (ad.add (k2 * 10)).off + 6, none⟩ = some (.int .i64 y.fin) ∧ W.cell? ⟨(ad.add (k2 * 10)).block, (ad.add (k2 * 10)).off + 7, none⟩ = some (.int .i64 y.res.code) ∧ W.cell? ⟨(ad.add (k2 * 10)).block, (ad.add (k2 * 10)).off + 8, none⟩ = some (.int .i64 y.res.slot) ∧ W.cell? ⟨(ad.add (k2 * 10)).block, (ad.add (k2 * 10)).off + 9, none⟩ = some (.string y.res.value) ∧ W.cell? ⟨wo.heap.size, 0, none⟩ = some (.int .i64 x.client) ∧ W.cell? ⟨wo.heap.size, 1, none⟩ = some (.int .i64 x.number) ∧ W.cell? ⟨wo.heap.size, 2, none⟩ = some (.int .i64 x.op.kind) ∧ W.cell? ⟨wo.heap.size, 3, none⟩ = some (.int .i64 x.op.slot) ∧ W.cell? ⟨wo.heap.size, 4, none⟩ = some (.string x.op.value) ∧ W.cell? ⟨wo.heap.size, 5, none⟩ = some (.int .i64 x.beg) ∧ W.cell? ⟨wo.heap.size, 6, none⟩ = some (.int .i64 x.fin) ∧ W.cell? ⟨wo.heap.size, 7, none⟩ = some (.int .i64 x.res.code) ∧ W.cell? ⟨wo.heap.size, 8, none⟩ = some (.int .i64 x.res.slot) ∧ W.cell? ⟨wo.heap.size, 9, none⟩ = some (.string x.res.value))) (by kernel_rfl) (KEY.out _ (below_drewL (Below.refl _ _))) (fun hHeld => ?_)
            simp only [List.size_toArray, List.length_cons, List.length_nil, Nat.reduceAdd]
            simp only [show Array.replicate 14 false = #[false, false, false, false, false, false, false, false, false, false, false, false, false, false] from rfl]
            refine wpAnyH_take (i := 0) (oi := ⟨some 31, _, _, _, _, _⟩) (v := ?_) rfl (by kernel_rfl) (by kernel_rfl) (by kernel_rfl) (fun _ _ _ h => h) (Or.inl ⟨by kernel_rfl, ?_⟩) hHeld ?_
            rotate_left
            · intro w hSw; go_split_ands; go_simp; try with_reducible rfl
            try simp only [Act.put, List.setIfInBounds_toArray, List.set_cons_zero, List.set_cons_succ]
            refine wpAnyH_take (i := 1) (oi := ⟨some 32, _, _, _, _, _⟩) (v := ?_) rfl (by kernel_rfl) (by kernel_rfl) (by kernel_rfl) (fun _ _ _ h => h) (Or.inl ⟨by kernel_rfl, ?_⟩) hHeld ?_
            rotate_left
            · intro w hSw; go_split_ands; go_simp; try with_reducible rfl
            try simp only [Act.put, List.setIfInBounds_toArray, List.set_cons_zero, List.set_cons_succ]
            refine wpAnyH_take (i := 2) (oi := ⟨some 33, _, _, _, _, _⟩) (v := ?_) rfl (by kernel_rfl) (by kernel_rfl) (by kernel_rfl) (fun _ _ _ h => h) (Or.inl ⟨by kernel_rfl, ?_⟩) hHeld ?_
            rotate_left
            · intro w hSw; go_split_ands; go_simp; try with_reducible rfl
            try simp only [Act.put, List.setIfInBounds_toArray, List.set_cons_zero, List.set_cons_succ]
            refine wpAnyH_take (i := 3) (oi := ⟨some 34, _, _, _, _, _⟩) (v := ?_) rfl (by kernel_rfl) (by kernel_rfl) (by kernel_rfl) (fun _ _ _ h => h) (Or.inl ⟨by kernel_rfl, ?_⟩) hHeld ?_
            rotate_left
            · intro w hSw; go_split_ands; go_simp; try with_reducible rfl
            try simp only [Act.put, List.setIfInBounds_toArray, List.set_cons_zero, List.set_cons_succ]
            refine wpAnyH_take (i := 4) (oi := ⟨some 35, _, _, _, _, _⟩) (v := ?_) rfl (by kernel_rfl) (by kernel_rfl) (by kernel_rfl) (fun _ _ _ h => h) (Or.inl ⟨by kernel_rfl, ?_⟩) hHeld ?_
            rotate_left
            · intro w hSw; go_split_ands; go_simp; try with_reducible rfl
            try simp only [Act.put, List.setIfInBounds_toArray, List.set_cons_zero, List.set_cons_succ]
            refine wpAnyH_ready (rs := [5]) (by kernel_rfl) (by simp) ?_
            refine AllReadyH.cons rfl (fun K hK => ?_) AllReadyH.nil
            go_simp
            refine (precedes_ref y x _).mono ?_
            rintro e w5 ⟨rfl, hb5⟩
            rw [← HPR.out]
            have hb5' : Below wr.heap.size wr w5 := ⟨hb5.os, hb5.tape, hb5.output, hb5.size, hb5.block⟩
            have HB5 := Lib.hid hb5'
            clear hb5 hb5'
            dsimp only
            clear hHeld
            refine hK.out _ _ (KEY.out _ HB5.out) (fun hHeld => ?_)
            clear hK K
            simp only [Act.put, List.setIfInBounds_toArray, List.set_cons_zero, List.set_cons_succ]
            refine wpAnyH_take (i := 6) (oi := ⟨some 37, _, _, _, _, _⟩) (v := ?_) rfl (by kernel_rfl) (by kernel_rfl) (by kernel_rfl) (fun _ _ _ h => h) (Or.inl ⟨by kernel_rfl, ?_⟩) hHeld ?_
            rotate_left
            · intro w hSw; go_split_ands; go_simp; try with_reducible rfl
            try simp only [Act.put, List.setIfInBounds_toArray, List.set_cons_zero, List.set_cons_succ]
            refine wpAnyH_take (i := 7) (oi := ⟨some 38, _, _, _, _, _⟩) (v := undef) rfl (by kernel_rfl) (by kernel_rfl) (by kernel_rfl) (fun _ _ _ h => h) (Or.inr ⟨by kernel_rfl, rfl⟩) hHeld ?_
            try simp only [Act.put, List.setIfInBounds_toArray, List.set_cons_zero, List.set_cons_succ]
            refine wpAnyH_take (i := 8) (oi := ⟨some 39, _, _, _, _, _⟩) (v := undef) rfl (by kernel_rfl) (by kernel_rfl) (by kernel_rfl) (fun _ _ _ h => h) (Or.inr ⟨by kernel_rfl, rfl⟩) hHeld ?_
            try simp only [Act.put, List.setIfInBounds_toArray, List.set_cons_zero, List.set_cons_succ]
            refine wpAnyH_take (i := 9) (oi := ⟨some 40, _, _, _, _, _⟩) (v := undef) rfl (by kernel_rfl) (by kernel_rfl) (by kernel_rfl) (fun _ _ _ h => h) (Or.inr ⟨by kernel_rfl, rfl⟩) hHeld ?_
            try simp only [Act.put, List.setIfInBounds_toArray, List.set_cons_zero, List.set_cons_succ]
            refine wpAnyH_take (i := 10) (oi := ⟨some 41, _, _, _, _, _⟩) (v := undef) rfl (by kernel_rfl) (by kernel_rfl) (by kernel_rfl) (fun _ _ _ h => h) (Or.inr ⟨by kernel_rfl, rfl⟩) hHeld ?_
            try simp only [Act.put, List.setIfInBounds_toArray, List.set_cons_zero, List.set_cons_succ]
            refine wpAnyH_take (i := 11) (oi := ⟨some 42, _, _, _, _, _⟩) (v := undef) rfl (by kernel_rfl) (by kernel_rfl) (by kernel_rfl) (fun _ _ _ h => h) (Or.inr ⟨by kernel_rfl, rfl⟩) hHeld ?_
            try simp only [Act.put, List.setIfInBounds_toArray, List.set_cons_zero, List.set_cons_succ]
            refine wpAnyH_take (i := 12) (oi := ⟨some 43, _, _, _, _, _⟩) (v := undef) rfl (by kernel_rfl) (by kernel_rfl) (by kernel_rfl) (fun _ _ _ h => h) (Or.inr ⟨by kernel_rfl, rfl⟩) hHeld ?_
            try simp only [Act.put, List.setIfInBounds_toArray, List.set_cons_zero, List.set_cons_succ]
            refine wpAnyH_take (i := 13) (oi := ⟨some 44, _, _, _, _, _⟩) (v := ?_) rfl (by kernel_rfl) (by kernel_rfl) (by kernel_rfl) (fun _ _ _ h => h) (Or.inl ⟨by kernel_rfl, ?_⟩) hHeld ?_
            rotate_left
            · intro w hSw; go_split_ands; go_simp; try with_reducible rfl
            try simp only [Act.put, List.setIfInBounds_toArray, List.set_cons_zero, List.set_cons_succ]
            refine wpAnyH_done (by kernel_rfl) ?_ _
            clear hHeld
            go_wp2_with fail
            go_roundw
            case rel => exact ⟨k2 + 1, by omega, by go_num, HN.out, hbi.out.trans (HB5.out.mono hbi.out.size)⟩
            case measure => simp [intOf]; omega
          · have hkp2 : (k2 == p) = false := by have := HKP.out rfl; simpa using this
            obtain ⟨hb, hhb⟩ : ∃ hb, hb = decide (k2 ∈ is.take k) := ⟨_, rfl⟩
            rw [← hhb, hkp2] at HMK
            have HHB := Lib.hid hhb
            clear hhb
            obtain ⟨z0, z1, z2, z3, z4, z5, z6, z7, z8, z9, t0, t1, t2, t3, t4, t5, t6, t7, t8, t9⟩ := hin
            go_wp2_with fail
            go_region_held3 (fun W => W.cell? (ad.add (k2 * 10)) = some (.int .i64 y.client) ∧ W.cell? ⟨(ad.add (k2 * 10)).block, (ad.add (k2 * 10)).off + 1, none⟩ = some (.int .i64 y.number) ∧ W.cell? ⟨(ad.add (k2 * 10)).block, (ad.add (k2 * 10)).off + 2, none⟩ = some (.int .i64 y.op.kind) ∧ W.cell? ⟨(ad.add (k2 * 10)).block, (ad.add (k2 * 10)).off + 3, none⟩ = some (.int .i64 y.op.slot) ∧ W.cell? ⟨(ad.add (k2 * 10)).block, (ad.add (k2 * 10)).off + 4, none⟩ = some (.string y.op.value) ∧ W.cell? ⟨(ad.add (k2 * 10)).block, (ad.add (k2 * 10)).off + 5, none⟩ = some (.int .i64 y.beg) ∧ W.cell? ⟨(ad.add (k2 * 10)).block, (ad.add (k2 * 10)).off + 6, none⟩ = some (.int .i64 y.fin) ∧ W.cell? ⟨(ad.add (k2 * 10)).block, (ad.add (k2 * 10)).off + 7, none⟩ = some (.int .i64 y.res.code) ∧ W.cell? ⟨(ad.add (k2 * 10)).block, (ad.add (k2 * 10)).off + 8, none⟩ = some (.int .i64 y.res.slot) ∧ W.cell? ⟨(ad.add (k2 * 10)).block, (ad.add (k2 * 10)).off + 9, none⟩ = some (.string y.res.value) ∧ W.cell? ⟨wo.heap.size, 0, none⟩ = some (.int .i64 x.client) ∧ W.cell? ⟨wo.heap.size, 1, none⟩ = some (.int .i64 x.number) ∧ W.cell? ⟨wo.heap.size, 2, none⟩ = some (.int .i64 x.op.kind) ∧ W.cell? ⟨wo.heap.size, 3, none⟩ = some (.int .i64 x.op.slot) ∧ W.cell? ⟨wo.heap.size, 4, none⟩ = some (.string x.op.value) ∧ W.cell? ⟨wo.heap.size, 5, none⟩ = some (.int .i64 x.beg) ∧ W.cell? ⟨wo.heap.size, 6, none⟩ = some (.int .i64 x.fin) ∧ W.cell? ⟨wo.heap.size, 7, none⟩ = some (.int .i64 x.res.code) ∧ W.cell? ⟨wo.heap.size, 8, none⟩ = some (.int .i64 x.res.slot) ∧ W.cell? ⟨wo.heap.size, 9, none⟩ = some (.string x.res.value))
              (first
                | exact KEY.out _ HB5.out
                | go_keep)
              (first
                | (go_at_call 17
                   refine (precedes_ref y x _).mono ?_
                   rintro e w5 ⟨rfl, hb5⟩
                   rw [← HPR.out]
                   have hb5' : Below wr.heap.size wr w5 := ⟨hb5.os, hb5.tape, hb5.output, hb5.size, hb5.block⟩
                   have HB5 := Lib.hid hb5'
                   clear hb5 hb5')
                | (go_at_call 51
                   refine (has_ref (some bd) co k (is.take k) HTL.out k2 _ (by rw [← HTL.out]; omega) ((((HAO.out.below HBI2.out).below (HB5.out.mono HBI2.out.size)).more (by have := HBI2.out.size; have := HB5.out.size; omega)).take k)).mono ?_
                   rintro e w6 ⟨rfl, rfl⟩
                   rw [← HHB.out]))
            cases hb
            · obtain rfl : r = (k : Int) := hyes.out (by rw [HMK.out]; rfl)
              clear hnx hyes HMK
              go_wp2_with fail
              go_ret
              exact ⟨rfl, HBI2.out.trans (HB5.out.mono HBI2.out.size)⟩
            · have HN := Lib.hid (hnx.out (by rw [HMK.out]; rfl))
              clear hnx hyes HMK
              go_wp2_with fail
              go_roundw
              case rel => exact ⟨k2 + 1, by omega, by go_num, HN.out, hbi.out.trans (HB5.out.mono hbi.out.size)⟩
              case measure => simp [intOf]; omega
        · skip
          have g5 : decide ((k2:Int) < (l.length : Int)) = false := decide_eq_false (by omega)
          have g6 : decide (k2 < l.length) = false := decide_eq_false h2
          have hnone := ahead_none (r := would cs x.op) hp (fun j hj => hno.out j (by omega))
          rw [← HX.out] at hnone
          have HNONE := Lib.hid hnone
          have hx := (hbi.out.block _ (Array.getElem?_eq_some_iff.1 HX1.out).1).trans HX1.out
          have s0 : wr.cell? ⟨wo.heap.size, 0, none⟩ = some (.int .i64 x.client) := cell_of_row _ _ 0 _ _ _ hx
          have s1 : wr.cell? ⟨wo.heap.size, 1, none⟩ = some (.int .i64 x.number) := cell_of_row _ _ 1 _ _ _ hx
          have s2 : wr.cell? ⟨wo.heap.size, 2, none⟩ = some (.int .i64 x.op.kind) := cell_of_row _ _ 2 _ _ _ hx
          have s3 : wr.cell? ⟨wo.heap.size, 3, none⟩ = some (.int .i64 x.op.slot) := cell_of_row _ _ 3 _ _ _ hx
          have s4 : wr.cell? ⟨wo.heap.size, 4, none⟩ = some (.string x.op.value) := cell_of_row _ _ 4 _ _ _ hx
          have s5 : wr.cell? ⟨wo.heap.size, 5, none⟩ = some (.int .i64 x.beg) := cell_of_row _ _ 5 _ _ _ hx
          have s6 : wr.cell? ⟨wo.heap.size, 6, none⟩ = some (.int .i64 x.fin) := cell_of_row _ _ 6 _ _ _ hx
          have s7 : wr.cell? ⟨wo.heap.size, 7, none⟩ = some (.int .i64 x.res.code) := cell_of_row _ _ 7 _ _ _ hx
          have s8 : wr.cell? ⟨wo.heap.size, 8, none⟩ = some (.int .i64 x.res.slot) := cell_of_row _ _ 8 _ _ _ hx
          have s9 : wr.cell? ⟨wo.heap.size, 9, none⟩ = some (.string x.res.value) := cell_of_row _ _ 9 _ _ _ hx
          have HRX := Lib.hid hx
          have hrd := (HRD5.out.below hbi.out).more hbi.out.size
          have HRDD := Lib.hid hrd
          have hiz := hbi.out.size
          have hxlt : wo.heap.size < wr.heap.size := by omega
          clear hnone hno hx hrd
          go_wp2_with fail
          refine (do_ref A5 c5 cs.length cs x.op rfl hvx wr HRDD.out hri.out).mono ?_
          rintro e w7 ⟨A7, c7, rfl, hrd7, _, hb7⟩
          have hx7 := (hb7.block _ (Array.getElem?_eq_some_iff.1 HRX.out).1).trans HRX.out
          have hx7lt := Nat.lt_of_lt_of_le hxlt hb7.size
          have HR7 := Lib.hid hrd7
          have HB7 := Lib.hid (hbi2.trans (hb7.mono hbi2.size))
          have HRI7 := Lib.hid (after_rising hri.out x.op)
          obtain ⟨cs7, hcs7⟩ : ∃ cs7, cs7 = after cs x.op := ⟨_, rfl⟩
          rw [← hcs7] at HR7 HRI7 HWK
          rw [← hcs7]
          have dal : ∀ o (j : Nat) v, (#[.int .i64 x.client, .int .i64 x.number, .int .i64 x.op.kind, .int .i64 x.op.slot, .string x.op.value, .int .i64 x.beg, .int .i64 x.fin, .int .i64 x.res.code, .int .i64 x.res.slot, .string x.res.value] : Array Value)[j]? = some v → (w7.alloc o).cell? ⟨wo.heap.size, j, none⟩ = some v := fun o j v hv => (World.cell?_alloc_lt _ _ _ hx7lt).trans ((cell_of_row _ _ j _ _ _ hx7).trans hv)
          have y6 := fun o => dal o 6 _ rfl
          have y7 := fun o => dal o 7 _ rfl
          have y8 := fun o => dal o 8 _ rfl
          have y9 := fun o => dal o 9 _ rfl
          have he := neq_res (would cs x.op) x.res
          have hge := guard_res
          obtain ⟨wq, hwq⟩ : ∃ wq, wq = would cs x.op := ⟨_, rfl⟩
          rw [← hwq] at he HNONE HWK
          rw [← hwq]
          clear hrd7 hb7 hx7 dal hcs7 hwq s0 s1 s2 s3 s4 s5 s6 s7 s8 s9
          have hgo : Hid (breaksL l (marksOf l.length (is.take k)) p wq = false → r = walkH l (marksOf l.length (is.take (k + 1))) cs7 (is.drop (k + 1)) (k + 1)) := fun h => by
            rw [HWK.out, HTK.out, marksOf_snoc]
            exact if_neg (by rw [h]; exact Bool.false_ne_true)
          have hst : Hid (breaksL l (marksOf l.length (is.take k)) p wq = true → r = (k : Int)) := fun h => HWK.out.trans (if_pos h)
          clear HWK
          by_cases hf : 0 ≤ x.fin
          · have hf2 : decide (0 ≤ x.fin) = true := decide_eq_true hf
            by_cases hqq : wq = x.res
            · have hd : decide (wq = x.res) = true := decide_eq_true hqq
              have hgo2 := hgo.out (HNONE.out.trans (by rw [hf2, hd]; rfl))
              have HGO := Lib.hid hgo2
              rw [hd] at he
              clear hqq hd hgo hgo2 hst HNONE
              dsimp only
              go_wp2_with fail
              go_roundw
              case rel => exact ⟨k + 1, cs7, A7, c7, by omega, by go_num, rfl, (HR7.out.below ((Below.refl _ _).alloc (Nat.le_refl _) _)).more (by simp), HRI7.out, HGO.out, HB7.out.alloc HB7.out.size _⟩
              case measure => simp [intOf]; omega
            · have hd : decide (wq = x.res) = false := decide_eq_false hqq
              obtain rfl : r = (k : Int) := hst.out (HNONE.out.trans (by rw [hf2, hd]; rfl))
              rw [hd] at he
              clear hqq hd hgo hst HNONE
              dsimp only
              go_wp2_with fail
              go_ret
              exact ⟨rfl, HB7.out.alloc HB7.out.size _⟩
          · have hf2 : decide (0 ≤ x.fin) = false := decide_eq_false hf
            have hgo2 := hgo.out (HNONE.out.trans (by rw [hf2]; rfl))
            have HGO := Lib.hid hgo2
            clear hgo hgo2 hst HNONE
            dsimp only
            go_wp2_with fail
            go_roundw
            case rel => exact ⟨k + 1, cs7, A7, c7, by omega, by go_num, rfl, (HR7.out.below ((Below.refl _ _).alloc (Nat.le_refl _) _)).more (by simp), HRI7.out, HGO.out, HB7.out.alloc HB7.out.size _⟩
            case measure => simp [intOf]; omega
    · skip
      have g5 : decide ((k:Int) < (is.length : Int)) = false := decide_eq_false (by omega)
      have g6 : decide (k < is.length) = false := decide_eq_false h1
      have hwk2 := hwk.out
      rw [show is.drop k = [] from List.drop_eq_nil_of_le (by omega), show is.take k = is from List.take_of_length_le (by omega), show k = is.length by omega] at hwk2
      have HFN := Lib.hid hwk2
      clear hwk hwk2
      go_wp2_with fail
      go_loopw [11] (fun i wr => ∃ k3 : Nat, k3 ≤ l.length ∧ i = .int .i64 k3 ∧ Hid (∀ j, j < k3 → missAt l (marksOf l.length is) j = false) ∧ wr = wo) (fun i _ => l.length - (intOf i).toNat)
      case atStart => exact ⟨0, by omega, rfl, fun j h => absurd h (Nat.not_lt_zero j), rfl⟩
      case round =>
        obtain ⟨k3, hk3, rfl, hno, rfl⟩ := hrel
        by_cases h3 : k3 < l.length
        · obtain ⟨ad, hA, hal, hca⟩ := (HA.out.below hbr.out).at_ h3
          obtain ⟨a0, a1, a2, a3, a4, a5, a6, a7, a8, a9⟩ := hca.call
          have g3 : (k3:Int) < (l.length : Int) := by omega
          have i3 : (0:Int) ≤ (k3:Int) := by omega
          have hmk : missAt l (marksOf l.length is) k3 = (decide (0 ≤ l[k3].fin) && !(decide (k3 ∈ is))) := by
            unfold missAt
            rw [List.getElem?_eq_getElem h3, List.getD_eq_getElem?_getD, marksOf_get _ _ _ h3]
            rfl
          have hnx : Hid (missAt l (marksOf l.length is) k3 = false → ∀ j, j < k3 + 1 → missAt l (marksOf l.length is) j = false) := fun h j hj => by
            by_cases e : j = k3
            · subst e; exact h
            · exact hno.out j (by omega)
          have hyes : Hid (missAt l (marksOf l.length is) k3 = true → r = (is.length : Int)) := fun h => by
            rw [HFN.out]
            simp [walkH, missing_of h3 h]
          have HMK := Lib.hid hmk
          subst hA
          clear hca hmk hno a0 a1 a2 a3 a4 a5 a7 a8 a9
          generalize l[k3] = y at *
          by_cases hf : 0 ≤ y.fin
          · have hf2 : decide (0 ≤ y.fin) = true := decide_eq_true hf
            obtain ⟨hb, hhb⟩ : ∃ hb, hb = decide (k3 ∈ is) := ⟨_, rfl⟩
            rw [← hhb] at HMK
            have HHB := Lib.hid hhb
            clear hhb
            go_wp2_with fail
            refine (has_ref Ao co is.length is rfl k3 wr hlo ((HAO.out.below hbr.out).more hbr.out.size)).mono ?_
            rintro e w6 ⟨rfl, rfl⟩
            rw [← HHB.out]
            cases hb
            · obtain rfl : r = (is.length : Int) := hyes.out (by rw [HMK.out, hf2]; rfl)
              clear hnx hyes HMK HFN
              dsimp only
              go_wp2_with fail
              go_ret
              exact ⟨rfl, hbr.out⟩
            · have HN := Lib.hid (hnx.out (by rw [HMK.out, hf2]; rfl))
              clear hnx hyes HMK
              dsimp only
              go_wp2_with fail
              go_roundw
              case rel => exact ⟨k3 + 1, by omega, by go_num, HN.out, (by first | rfl | trivial)⟩
              case measure => simp [intOf]; omega
          · have hf2 : decide (0 ≤ y.fin) = false := decide_eq_false hf
            have HN := Lib.hid (hnx.out (by rw [HMK.out, hf2]; rfl))
            clear hnx hyes HMK
            go_wp2_with fail
            go_roundw
            case rel => exact ⟨k3 + 1, by omega, by go_num, HN.out, (by first | rfl | trivial)⟩
            case measure => simp [intOf]; omega
        · have g7 : decide ((k3:Int) < (l.length : Int)) = false := decide_eq_false (by omega)
          have g8 : decide (k3 < l.length) = false := decide_eq_false h3
          have hr1 : r = -1 := by
            rw [HFN.out]
            simp [walkH, missing_none fun j hj => hno.out j (by omega)]
          subst hr1
          clear HFN hno
          go_wp2_with fail
          go_ret
          exact ⟨rfl, hbr.out⟩
end Go.Proofs.Ytjjekpkgfhcknaa

namespace Go.Proofs.Ytjjekpkgfhcknaa
open Go.RowKit
set_option linter.unusedVariables false
set_option linter.unusedSimpArgs false

def FromPost (f : Nat) (l : List Call) (is : List Nat) (w : World) (e : Ending) (w' : World) : Prop :=
  Below w.heap.size w w' ∧ ((∃ ks A' c', fromL f l is = some ks ∧ e = .returned (.tuple #[.slice A' ks.length c', .bool true]) ∧ Rd icell 1 w' w'.heap.size A' ks) ∨ (fromL f l is = none ∧ e = .returned (.tuple #[.slice none 0 0, .bool false])))
theorem from_try {f : Nat} {l : List Call} {is : List Nat} (h1 : walkH l (allFree l) [] is 0 ≠ -1) (h2 : ¬ walkH l (allFree l) [] is 0 < (is.length : Int)) : fromL (f + 1) l is = firstL (fun k => if k ∈ is then none else fromL f l (is ++ [k])) (List.range l.length) := by
  simp only [fromL]
  rw [if_neg h1, if_neg h2]

set_option maxRecDepth 100000 in
set_option maxHeartbeats 8000000 in
theorem from_ref (l : List Call) (A : Option Addr) (c : Nat) (hl8 : l.length ≤ 8) (hv : ∀ x ∈ l, x.op.value.size ≤ 9223372036854775807) (hself : ∀ x ∈ l, precedes x x = false) : ∀ (f : Nat) (is : List Nat) (Ao : Option Addr) (co : Nat) (w : World), (∀ i ∈ is, i < l.length) → is.length + falses (marksOf l.length is) = l.length → falses (marksOf l.length is) < f → is.length ≤ co → Rd Call.cells 10 w w.heap.size A l → Rd icell 1 w w.heap.size Ao is →
    Calls Try.prog 60 #[.slice A l.length c, .slice Ao is.length co] w (FromPost f l is w) := by
  intro f
  induction f with
  | zero => intro is Ao co w _ _ h; omega
  | succ f ih =>
    intro is Ao co w hin hlen hf hco ha hao
    obtain ⟨T0, hT0⟩ : ∃ T0 : Ending → World → Prop, T0 = FromPost (f + 1) l is w := ⟨_, rfl⟩
    rw [← hT0]
    have HT0 := Lib.hid hT0
    have HIH := Lib.hid ih
    have HA := Lib.hid ha
    have HAO := Lib.hid hao
    have HIN := Lib.hid hin
    have HLEN := Lib.hid hlen
    have HF := Lib.hid hf
    have hi8 : is.length ≤ 8 := by omega
    have hbk := breaks_ref A c l.length l rfl Ao co is.length is rfl w (by omega) (by omega) hco hv hself hin ha hao
    have HBK := Lib.hid hbk
    clear hT0 ih ha hao hin hlen hf hbk hv hself
    go_enter Try.func60, Try.ntmps60
    go_wp2_with fail
    refine HBK.out.mono ?_
    rintro e w1 ⟨rfl, hb1⟩
    have HB1 := Lib.hid hb1
    clear hb1 HBK
    obtain ⟨b, hb⟩ : ∃ b, b = walkH l (allFree l) [] is 0 := ⟨_, rfl⟩
    rw [← hb]
    have HB := Lib.hid hb
    clear hb
    by_cases h1 : b = -1
    · have hfl : fromL (f + 1) l is = some is := by simp only [fromL]; rw [if_pos (HB.out.symm.trans h1)]
      have HFL := Lib.hid hfl
      subst h1
      clear hfl
      dsimp only
      go_wp2_with fail
      rw [HT0.out]
      exact ⟨HB1.out, .inl ⟨is, Ao, co, HFL.out, rfl, (HAO.out.below HB1.out).more HB1.out.size⟩⟩
    · have h1' : (b == -1) = false := by simpa using h1
      have h1'' : decide (b = -1) = false := decide_eq_false h1
      by_cases h2 : b < (is.length : Int)
      · have hfl : fromL (f + 1) l is = none := by simp only [fromL]; rw [if_neg (by rw [← HB.out]; exact h1), if_pos (by rw [← HB.out]; exact h2)]
        have HFL := Lib.hid hfl
        have h2' : decide (b < (is.length : Int)) = true := decide_eq_true h2
        clear hfl
        dsimp only
        go_wp2_with fail
        rw [HT0.out]
        exact ⟨HB1.out, .inr ⟨HFL.out, rfl⟩⟩
      · have hfl : fromL (f + 1) l is = firstL (fun k => if k ∈ is then none else fromL f l (is ++ [k])) (List.range l.length) := from_try (by rw [← HB.out]; exact h1) (by rw [← HB.out]; exact h2)
        have HFL := Lib.hid hfl
        have h2' : decide (b < (is.length : Int)) = false := decide_eq_false h2
        clear hfl
        dsimp only
        go_wp2_with fail
        go_loopw [7] (fun i wr => ∃ k : Nat, k ≤ l.length ∧ i = .int .i64 k ∧ Hid (firstL (fun k => if k ∈ is then none else fromL f l (is ++ [k])) (List.range k) = none) ∧ Hid (Below w.heap.size w wr)) (fun i _ => l.length - (intOf i).toNat)
        case atStart => exact ⟨0, by omega, rfl, rfl, HB1.out⟩
        case round =>
          obtain ⟨k, hk, rfl, hno, hbr⟩ := hrel
          by_cases h3 : k < l.length
          · have g1 : (k:Int) < (l.length : Int) := by omega
            have i1 : (0:Int) ≤ (k:Int) := by omega
            have hnx : Hid ((if k ∈ is then none else fromL f l (is ++ [k])) = none → firstL (fun k => if k ∈ is then none else fromL f l (is ++ [k])) (List.range (k + 1)) = none) := fun h => first_none_succ hno.out h
            have hyes : Hid (∀ ks, (if k ∈ is then none else fromL f l (is ++ [k])) = some ks → fromL (f + 1) l is = some ks) := fun ks h => HFL.out.trans (first_some hno.out h3 h)
            have hrdo := (HAO.out.below hbr.out).more hbr.out.size
            have HRDO := Lib.hid hrdo
            have hmg := marksOf_get l.length is k h3
            have hil : is.length ≤ 8 := hi8
            go_wp2_with fail
            refine (has_ref Ao co is.length is rfl k wr (by omega) hrdo).mono ?_
            rintro e w2 ⟨rfl, rfl⟩
            by_cases hmem : k ∈ is
            · rw [decide_eq_true hmem]
              have HN := Lib.hid (hnx.out (if_pos hmem))
              clear hnx hyes hrdo hmg hmem
              dsimp only
              go_wp2_with fail
              go_roundw
              case rel => exact ⟨k + 1, by omega, by go_num, HN.out, hbr.out⟩
              case measure => simp [intOf]; omega
            · rw [decide_eq_false hmem]
              rw [decide_eq_false hmem] at hmg
              have hfs := falses_set hmg
              rw [if_neg hmem] at hnx hyes
              have hin2 : Hid (∀ i ∈ is ++ [k], i < l.length) := fun i hi => by
                rcases List.mem_append.1 hi with h | h
                · exact HIN.out i h
                · simp at h; omega
              have hlen2 : Hid ((is ++ [k]).length + falses (marksOf l.length (is ++ [k])) = l.length) := by
                show _ = _
                rw [marksOf_snoc, List.length_append, List.length_singleton]
                have := HLEN.out
                omega
              have hf2 : Hid (falses (marksOf l.length (is ++ [k])) < f) := by
                show _ < _
                rw [marksOf_snoc]
                have := HF.out
                omega
              have HM0 : Hid (Made icell 1 3 w2.heap.size w2 (.slice none 0 0) ([] : List Nat)) := Made.nil _ _ _
              clear hrdo hmg hmem hfs
              dsimp only
              go_wp2_with (at_builtin; first
                | (refine wpList_app (v := .slice none 0 0) (xs := []) rowInt encI rfl (.tmp 30) (.tmp 31) rfl w2.heap.size rfl HM0.out rfl rfl HRDO.out (by simp; omega) (by unfold maxLen; simp; omega) (Nat.le_refl _) ?_; intro v3 w3 hm3 hg3 hat3; obtain ⟨A3, c3, rfl, hc3⟩ := hm3.form; simp only [List.nil_append] at hm3; have hgb3 := Below.grown (Below.refl _ _) hg3 (Nat.le_refl w2.heap.size) (by simp [Value.ownBlock]); have HM3 := Lib.hid hm3; have HB3 := Lib.hid hgb3; have HRD3 := Lib.hid (rd_one encI w3 k #[.int .i64 (k : Nat)] rfl 3); clear hm3 hg3 hat3 hgb3 hc3)
                | (refine wpList_app (v := .slice A3 is.length c3) (xs := is) (ys := [k]) rowInt encI rfl (.tmp 35) (.tmp 37) rfl w2.heap.size rfl (HM3.out.alloc _) rfl rfl HRD3.out (by simp only [List.length_singleton]; omega) (by unfold maxLen; simp only [List.length_singleton]; omega) (by simp; have := HB3.out.size; omega) ?_; intro v4 w4 hm4 hg4 hat4; obtain ⟨A4, c4, rfl, hc4⟩ := hm4.form; have hg4b := Below.grown ((HB3.out.alloc HB3.out.size _) : Below w2.heap.size w2 (w3.alloc _)) hg4 (by simp; have := HB3.out.size; omega) (fun q e => (HM3.out.lt q e).1); have HM4 := Lib.hid hm4; have HB4 := Lib.hid (hbr.out.trans (hg4b.mono hbr.out.size)); have HC4 := Lib.hid hc4; clear hm4 hg4 hat4 hg4b hc4))
              have hrec := HIH.out (is ++ [k]) A4 c4 w4 hin2.out hlen2.out hf2.out HC4.out ((HA.out.below HB4.out).more HB4.out.size) (Made.rd' encI.len HM4.out)
              rw [show (is ++ [k]).length = is.length + 1 by simp] at hrec
              with_reducible refine hrec.mono ?_
              clear hrec
              rintro e w5 ⟨hb5, hcase⟩
              have HB5 := Lib.hid (HB4.out.trans (hb5.mono HB4.out.size))
              clear hb5
              rcases hcase with ⟨ks, A', c', hks, rfl, hrk⟩ | ⟨hks, rfl⟩
              · have HFN := Lib.hid (hyes.out ks hks)
                have HRK := Lib.hid hrk
                clear hks hrk hnx hyes
                dsimp only
                go_wp2_with fail
                rw [HT0.out]
                exact ⟨HB5.out, .inl ⟨ks, A', c', HFN.out, rfl, HRK.out⟩⟩
              · have HN := Lib.hid (hnx.out hks)
                clear hks hnx hyes
                dsimp only
                go_wp2_with fail
                go_roundw
                case rel => exact ⟨k + 1, by omega, by go_num, HN.out, HB5.out⟩
                case measure => simp [intOf]; omega
          · have g5 : decide ((k:Int) < (l.length : Int)) = false := decide_eq_false (by omega)
            have g6 : decide (k < l.length) = false := decide_eq_false h3
            have hkl : k = l.length := by omega
            have hno' := hno.out
            rw [hkl] at hno'
            have HFN : Hid (fromL (f + 1) l is = none) := Lib.hid (HFL.out.trans hno')
            clear hno'
            clear hno hkl
            go_wp2_with fail
            rw [HT0.out]
            exact ⟨hbr.out, .inr ⟨HFN.out, rfl⟩⟩

/-- The reference's Search. -/
def RefSearchPost (l : List Call) (w : World) (e : Ending) (w' : World) : Prop :=
  ∃ A' c', e = .returned (.tuple #[.slice A' (searchL l).1.length c', .bool (searchL l).2.1, .int .i64 (searchL l).2.2]) ∧ Rd icell 1 w' w'.heap.size A' (searchL l).1 ∧ Below w.heap.size w w'
theorem good_self {l : List Call} (h : checkL l = 0) : ∀ x ∈ l, precedes x x = false := fun x hx => by
  have hg : GoodL l := by
    unfold checkL at h
    by_cases hg : GoodL l
    · exact hg
    · rw [if_neg hg] at h; cases h
  obtain ⟨i, hi, rfl⟩ := List.mem_iff_getElem.1 hx
  exact precedes_self (hg i hi).1
set_option maxRecDepth 100000 in
set_option maxHeartbeats 2000000 in
theorem search_ref (A : Option Addr) (c n : Nat) (l : List Call) (hn : n = l.length) (w : World) (hl : l.length ≤ 9223372036854775806) (hv : ∀ x ∈ l, x.op.value.size ≤ 9223372036854775807) (ha : Rd Call.cells 10 w w.heap.size A l) :
    Calls Try.prog 25 #[.slice A n c] w (RefSearchPost l w) := by
  subst hn
  obtain ⟨T0, hT0⟩ : ∃ T0 : Ending → World → Prop, T0 = RefSearchPost l w := ⟨_, rfl⟩
  rw [← hT0]
  have HT0 := Lib.hid hT0
  have HA := Lib.hid ha
  have HV := Lib.hid hv
  clear ha hv hT0
  go_enter Try.func25, Try.ntmps25
  go_wp2_with fail
  refine (refCheck A c l.length l rfl w hl HV.out HA.out).mono ?_
  rintro e w1 ⟨rfl, hb1⟩
  have HB1 := Lib.hid hb1
  clear hb1
  by_cases hck : checkL l = 0
  · have HCK := Lib.hid hck
    rw [hck]
    by_cases h8 : 8 < l.length
    · have h8' : decide (8 < l.length) = true := decide_eq_true h8
      have h8i : decide ((8:Int) < (l.length : Int)) = true := decide_eq_true (by omega)
      have hs : searchL l = ([], false, 181) := by simp [searchL, hck, h8]
      clear hck
      dsimp only
      go_wp2_with fail
      go_ret3
      rw [HT0.out]
      exact ⟨none, 0, by rw [hs]; rfl, by rw [hs]; exact Rd.nil, HB1.out⟩
    · have h8' : decide (8 < l.length) = false := decide_eq_false h8
      have h8i : decide ((8:Int) < (l.length : Int)) = false := decide_eq_false (by omega)
      have hsr : searchL l = (match best l with | some ks => (ks, true, (0:Int)) | none => ([], false, 0)) := by unfold searchL; rw [if_neg (by simp [hck]), if_neg h8]; rfl
      have HSR := Lib.hid hsr
      have hfr := from_ref l A c (by omega) HV.out (good_self hck) (l.length + 1) [] none 0 w1 (fun i h => by simp at h) (by simp [marksOf, falses]) (by simp [marksOf, falses]) (by simp) ((HA.out.below HB1.out).more HB1.out.size) Rd.nil
      have HFR := Lib.hid hfr
      clear hck hsr hfr
      dsimp only
      go_wp2_with fail
      refine HFR.out.mono ?_
      rintro e w2 ⟨hb2, hcase⟩
      have HB2 := Lib.hid (HB1.out.trans (hb2.mono HB1.out.size))
      clear hb2
      rcases hcase with ⟨ks, A', c', hks, rfl, hrk⟩ | ⟨hks, rfl⟩
      · rw [from_best] at hks
        have hs : searchL l = (ks, true, 0) := by rw [HSR.out, hks]
        have HRK := Lib.hid hrk
        clear hks hrk
        dsimp only
        go_wp2_with fail
        go_ret3
        rw [HT0.out]
        exact ⟨A', c', by rw [hs]; rfl, by rw [hs]; exact HRK.out, HB2.out⟩
      · rw [from_best] at hks
        have hs : searchL l = ([], false, 0) := by rw [HSR.out, hks]
        clear hks
        dsimp only
        go_wp2_with fail
        go_ret3
        rw [HT0.out]
        exact ⟨none, 0, by rw [hs]; rfl, by rw [hs]; exact Rd.nil, HB2.out⟩
  · have hck2 : (checkL l == 0) = false := by simpa using hck
    have hck3 : (checkL l != 0) = true := by simpa using hck
    have hc180 : checkL l = 180 := by
      unfold checkL at hck ⊢
      by_cases hg : GoodL l
      · rw [if_pos hg] at hck; exact absurd rfl hck
      · rw [if_neg hg]
    have hs : searchL l = ([], false, 180) := by simp [searchL, hck, hc180]
    dsimp only
    go_wp2_with fail
    go_ret3
    rw [HT0.out]
    exact ⟨none, 0, by rw [hs]; rfl, by rw [hs]; exact Rd.nil, HB1.out⟩
end Go.Proofs.Ytjjekpkgfhcknaa

namespace Go.Proofs.Ytjjekpkgfhcknaa
open Go.RowKit
set_option linter.unusedVariables false
set_option linter.unusedSimpArgs false

def mark : Entry := ⟨-77, -88, ⟨0, 0, ⟨#[]⟩⟩⟩
/-- One list that was handed out. -/
structure Gv where
  A : Option Addr
  c : Nat
  l : List Entry
def Gv.v (g : Gv) : Value := .slice g.A (g.l.length + 1) g.c
theorem encGv : Enc (fun v : Value => [v]) 1 → True := fun _ => trivial
def slc (v : { v : Value // v.oneCell' = true }) : List Value := [v.1]
theorem encSlc : Enc slc 1 := ⟨fun _ => rfl, fun x u hu => by simp [slc] at hu; subst hu; exact x.2⟩
def Gv.x (g : Gv) : { v : Value // v.oneCell' = true } := ⟨g.v, rfl⟩

def Given (w : World) (gb base : Nat) (G : List Gv) : Prop :=
  ∃ (ve vw : Value) (W : List Gv),
    w.heap[gb]? = some (.cells #[.slice none 0 0, .slice none 0 0, .slice none 0 0, .slice none 0 0, ve, vw, .slice none 0 0, .slice none 0 0, .slice none 0 0, .slice none 0 0] 44 (0, 0)) ∧ base ≤ gb ∧
    Made slc 1 80 base w ve (G.map Gv.x) ∧ Made slc 1 80 base w vw (W.map Gv.x) ∧ (∀ b, ve.ownBlock = some b → vw.ownBlock ≠ some b) ∧
    W.map Gv.l = G.map Gv.l ∧ (∀ g ∈ G ++ W, Made Entry.cells 5 99 base w g.v (g.l ++ [mark]))

/-- The blocks that Given may turn: its struct, and its two rows. -/
def GivenS (w : World) (gb : Nat) (k : Nat) : Prop := k = gb ∨ ∃ cs, w.heap[k]? = some (.cells cs 80 (0, 0))

set_option maxRecDepth 100000 in
set_option maxHeartbeats 1600000 in
theorem givenEntries (gb base : Nat) (G : List Gv) (A : Option Addr) (c : Nat) (xs : List Entry) (w : World) (hg : Given w gb base G) (hG : G.length ≤ 100) (hb : (xs.length + 1) * 48 ≤ 140737488355328) (ha : Rd Entry.cells 5 w base A xs) :
    Calls Try.prog 38 #[.pointer (some ⟨gb, 0, none⟩), .slice A xs.length c] w fun e w' => ∃ A' c', e = .returned (.slice A' xs.length c') ∧ xs.length < c' ∧ Given w' gb base (G ++ [⟨A', c', xs⟩]) ∧ Kept (GivenS w gb) w w' ∧ Below base w w' := by
  obtain ⟨ve, vw, W, hgb, hbase, hve, hvw, hne, hWG, hall⟩ := hg
  have hgl : gb < w.heap.size := (Array.getElem?_eq_some_iff.1 hgb).1
  go_enter Try.func38, Try.ntmps38
  go_wp2_with fail
  refine (copyEntries A c _ xs rfl w (by omega) (ha.more (by omega))).mono ?_
  rintro e w1 ⟨A1, c1, rfl, hm1, hb1⟩
  have hm1' := (hm1.base' (Nat.le_trans hbase (by omega))).alloc (.cells #[.int .i64 (-77), .int .i64 (-88), .int .i64 0, .int .i64 0, .string ⟨#[]⟩] 99)
  have hr1 := rd_one encEntry w1 mark #[.int .i64 (-77), .int .i64 (-88), .int .i64 0, .int .i64 0, .string ⟨#[]⟩] rfl 99
  have hbs := hb1.size
  have hve1 : ∀ b, ve.ownBlock = some b → base ≤ b ∧ b < w.heap.size := hve.lt
  have hvw1 : ∀ b, vw.ownBlock = some b → base ≤ b ∧ b < w.heap.size := hvw.lt
  have hm1l : ∀ b, (Value.slice A1 xs.length c1).ownBlock = some b → w.heap.size ≤ b ∧ b < w1.heap.size := hm1.lt
  have hne4 : ve.ownBlock ≠ some gb := fun e => by obtain ⟨cs, h⟩ := hve.cell_block e; rw [hgb] at h; cases h
  have hne5 : vw.ownBlock ≠ some gb := fun e => by obtain ⟨cs, h⟩ := hvw.cell_block e; rw [hgb] at h; cases h
  go_wp2_with (first
    | (at_builtin
       refine wpList_app (v := .slice A1 xs.length c1) (xs := xs) (ys := [mark]) rowEntry encEntry rfl (.tmp 7) (.tmp 9) rfl base rfl hm1' rfl rfl hr1 (by simpa using hb) (by unfold maxLen; simp; omega) (by simp; omega) ?_
       intro v2 w2 hm2 hg2 hat2
       obtain ⟨A2, c2, hv2, hc2⟩ := hm2.form
       rw [List.length_append, List.length_singleton] at hv2 hc2
       subst hv2
       have hk2 : ∀ k, k < w.heap.size → w2.heap[k]? = w.heap[k]? := fun k hk => (hg2.block k (by simp; omega) (fun e => by have := (hm1l k e.symm).1; omega)).trans ((Below.heap_alloc _ _ _ (by omega)).trans (hb1.block k hk))
       have hs2 : w1.heap.size + 1 ≤ w2.heap.size := by have := hg2.size; simpa using this
       have hgb2 := (hk2 gb hgl).trans hgb
       have g4 : w2.cell? ⟨gb, 4, none⟩ = some ve := cell_of_row w2 gb 4 _ _ _ hgb2
       have g5 : w2.cell? ⟨gb, 5, none⟩ = some vw := cell_of_row w2 gb 5 _ _ _ hgb2
       have f4 : w2.frozen? ⟨gb, 4, none⟩ = false := frozen_of_row w2 gb 4 _ _ hgb2
       have f5 : w2.frozen? ⟨gb, 5, none⟩ = false := frozen_of_row w2 gb 5 _ _ hgb2
       have hve2 := (hve.same (w' := w2) (fun b hb => hk2 b (hve1 b hb).2)).alloc (.cells #[.slice A2 (xs.length + 1) c2] 80)
       have hvw2 := (hvw.same (w' := w2) (fun b hb => hk2 b (hvw1 b hb).2))
       have hr2 := rd_one encSlc w2 (Gv.x ⟨A2, c2, xs⟩) #[.slice A2 (xs.length + 1) c2] rfl 80
       have HGB2 := Lib.hid hgb2
       have HM2 := Lib.hid hm2
       have HG2 := Lib.hid hg2
       have HAT2 := Lib.hid hat2
       have HK2 := Lib.hid hk2
       clear hgb2 hm2 hg2 hat2 hk2 hr1 hm1')
    | (at_builtin
       refine wpList_app (v := ve) (xs := G.map Gv.x) (ys := [Gv.x ⟨A2, c2, xs⟩]) rowEntries encSlc rfl (.tmp 15) (.tmp 17) rfl base rfl hve2 rfl rfl hr2 (by simp; omega) (by unfold maxLen; simp; omega) (by simp; omega) ?_
       intro v3 w3 hm3 hg3 hat3
       obtain ⟨A3, c3, hv3, hc3⟩ := hm3.form
       rw [List.length_append, List.length_singleton, List.length_map] at hv3 hc3
       subst hv3
       have hk3 : ∀ k, k < w.heap.size → ve.ownBlock ≠ some k → w3.heap[k]? = w.heap[k]? := fun k hk hn => (hg3.block k (by simp; omega) (fun e => hn e.symm)).trans ((Below.heap_alloc _ _ _ (by omega)).trans (HK2.out k hk))
       have hs3 : w2.heap.size + 1 ≤ w3.heap.size := by have := hg3.size; simpa using this
       have hgb3 := (hk3 gb hgl hne4).trans hgb
       have g4 : w3.cell? ⟨gb, 4, none⟩ = some ve := cell_of_row w3 gb 4 _ _ _ hgb3
       have f4 : w3.frozen? ⟨gb, 4, none⟩ = false := frozen_of_row w3 gb 4 _ _ hgb3
       have HGB3 := Lib.hid hgb3
       have HM3 := Lib.hid hm3
       have HG3 := Lib.hid hg3
       have HAT3 := Lib.hid hat3
       have HK3 := Lib.hid hk3
       clear hgb3 hm3 hg3 hat3 hk3 hve2 hr2))
  have hgb3 := HGB3.out
  have hm2 := HM2.out
  have hm3 := HM3.out
  obtain ⟨w4, hw4⟩ : ∃ w4, w4 = w3.setCell ⟨gb, 4, none⟩ (.slice A3 (G.length + 1) c3) := ⟨_, rfl⟩
  rw [← hw4]
  have hs4 : w4.heap.size = w3.heap.size := by rw [hw4]; simp [World.setCell]
  have hk4 : ∀ k, k ≠ gb → w4.heap[k]? = w3.heap[k]? := fun k hk => by rw [hw4]; exact Below.heap_setCell _ _ _ _ hk
  have hgb4 : w4.heap[gb]? = some (.cells #[.slice none 0 0, .slice none 0 0, .slice none 0 0, .slice none 0 0, .slice A3 (G.length + 1) c3, vw, .slice none 0 0, .slice none 0 0, .slice none 0 0, .slice none 0 0] 44 (0, 0)) := by
    rw [hw4, heap_setCell_same _ _ _ _ _ _ hgb3]; rfl
  have hsA : w2.heap.size ≤ w4.heap.size := by omega
  have hA2 : ∀ b, (Value.slice A2 (xs.length + 1) c2).ownBlock = some b → base ≤ b ∧ b < w2.heap.size := hm2.lt
  have hA2e : ve.ownBlock ≠ (Value.slice A2 (xs.length + 1) c2).ownBlock ∨ ve.ownBlock = none := by
    by_cases h : ve.ownBlock = none
    · exact .inr h
    · obtain ⟨b, hb⟩ := Option.ne_none_iff_exists'.1 h
      refine .inl fun e => ?_
      obtain ⟨cs, h1⟩ := hm2.cell_block (e.symm.trans hb)
      obtain ⟨cs', h2⟩ := hve.cell_block hb
      rw [HK2.out b (hve1 b hb).2, h2] at h1
      cases h1
  have hgA2 : (Value.slice A2 (xs.length + 1) c2).ownBlock ≠ some gb := fun e => by
    obtain ⟨cs, h1⟩ := hm2.cell_block e
    rw [HGB2.out] at h1; cases h1
  have hm4 : Made Entry.cells 5 99 base w4 (.slice A2 (xs.length + 1) c2) (xs ++ [mark]) := by
    refine hm2.same fun b hb => ?_
    rw [hk4 b (fun e => hgA2 (e ▸ hb))]
    refine (HG3.out.block b (by simp; have := (hA2 b hb).2; omega) (fun e => ?_)).trans (Below.heap_alloc _ _ _ (hA2 b hb).2)
    rcases hA2e with h | h
    · exact h (e.symm.trans hb.symm)
    · rw [h] at e; cases e
  have hv4 : Made slc 1 80 base w4 vw (W.map Gv.x) := hvw.same fun b hb => (hk4 b (fun e => hne5 (e ▸ hb))).trans (HK3.out b (hvw1 b hb).2 (fun e => hne b e hb))
  have hx4 : Made slc 1 80 base w4 (.slice A3 (G.length + 1) c3) (G.map Gv.x ++ [Gv.x ⟨A2, c2, xs⟩]) := hm3.same fun b hb => hk4 b (fun e => by
    subst e
    obtain ⟨cs, h1⟩ := hm3.cell_block hb
    rw [hgb3] at h1; cases h1)
  have g5' : w4.cell? ⟨gb, 5, none⟩ = some vw := cell_of_row w4 gb 5 _ _ _ hgb4
  have f5' : w4.frozen? ⟨gb, 5, none⟩ = false := frozen_of_row w4 gb 5 _ _ hgb4
  have hr4 : Rd Entry.cells 5 w4 w4.heap.size A2 (xs ++ [mark]) := by
    have h : Made Entry.cells 5 99 base w4 (.slice A2 (xs ++ [mark]).length c2) (xs ++ [mark]) := by simpa using hm4
    exact h.rd encEntry.len
  have hsz4 : w.heap.size + 1 ≤ w4.heap.size := by omega
  have hv4l : ∀ b, vw.ownBlock = some b → base ≤ b ∧ b < w4.heap.size := hv4.lt
  have HW4 := Lib.hid hw4
  have HGB4 := Lib.hid hgb4
  have HK4 := Lib.hid hk4
  have HM4 := Lib.hid hm4
  have HX4 := Lib.hid hx4
  have HWG := Lib.hid hWG
  have HALL := Lib.hid hall
  have HNE := Lib.hid hne
  have HVE := Lib.hid hve
  have HVW := Lib.hid hvw
  have HHGB := Lib.hid hgb
  have hWl : W.length = G.length := by have := congrArg List.length hWG; simpa using this
  have HS4 := Lib.hid hs4
  clear hw4 hgb4 hk4 hm4 hx4 hWG hall hne hve hvw hgb hA2e hgA2 hgb3 hm2 hm3 g4 f4 g5 f5 hs4 hvw2
  go_region_law
    (first
      | (go_simp
         go_at_call 75
         refine (copyEntries A2 c2 _ (xs ++ [mark]) (by simp) _ (by simpa using hb) (by exact hr4)).mono ?_
         rintro e w5 ⟨A5, c5, rfl, hm5, hb5⟩
         have hb5s : w4.heap.size ≤ w5.heap.size := hb5.size
         have g5c : w5.cell? ⟨gb, 5, none⟩ = some vw := (hb5.cell (p := ⟨gb, 5, none⟩) (by show gb < w4.heap.size; omega)).trans g5'
         have g5d : (w5.alloc (.cells #[.slice A5 (xs.length + 1) c5] 80)).cell? ⟨gb, 5, none⟩ = some vw := (World.cell?_alloc_lt _ _ _ (by show gb < w5.heap.size; omega)).trans g5c
         have hv5 : Made slc 1 80 base (w5.alloc (.cells #[.slice A5 (xs.length + 1) c5] 80)) vw (W.map Gv.x) := (hv4.same (w' := w5) (fun b hb => (hb5.block b (by simp; exact (hv4l b hb).2)))).alloc _
         have hr5 := rd_one encSlc w5 (Gv.x ⟨A5, c5, xs⟩) #[.slice A5 (xs.length + 1) c5] rfl 80)
      | (refine step_app (v := vw) (xs := W.map Gv.x) (ys := [Gv.x ⟨A5, c5, xs⟩]) rowEntries encSlc rfl (.tmp 25) (.tmp 28) rfl base rfl (by exact hv5) rfl rfl (by exact hr5) (by simp; omega) (by unfold maxLen; simp; omega) (by simp; omega) ?_
         intro v6 w6 hm6 hg6 hat6
         obtain ⟨A6, c6, hv6, hc6⟩ := hm6.form
         rw [List.length_append, List.length_singleton, List.length_map, hWl] at hv6 hc6
         subst hv6
         have hk6 : ∀ k, k < w4.heap.size → vw.ownBlock ≠ some k → w6.heap[k]? = w4.heap[k]? := fun k hk hn => (hg6.block k (by simp; omega) (fun e => hn e.symm)).trans ((Below.heap_alloc _ _ _ (by omega)).trans (hb5.block k hk))
         have HK6 := Lib.hid hk6
         have hs6 : w5.heap.size + 1 ≤ w6.heap.size := by have := hg6.size; simpa using this
         have hgb6 := (hk6 gb (by omega) hne5).trans HGB4.out
         have f5w : w6.frozen? ⟨gb, 5, none⟩ = false := frozen_of_row w6 gb 5 _ _ hgb6
         have g5w : w6.cell? ⟨gb, 5, none⟩ = some vw := cell_of_row w6 gb 5 _ _ _ hgb6
         have HGB6 := Lib.hid hgb6
         have HM6 := Lib.hid hm6
         have HG6 := Lib.hid hg6
         have HAT6 := Lib.hid hat6
         have HM5 := Lib.hid hm5
         clear hgb6 hm6 hg6 hat6 hk6 hv5 hr5 hm5))
  all_goals
    go_wp2
    go_ret
    have hgb6 := HGB6.out
    have hve := HVE.out
    have hvw := HVW.out
    obtain ⟨w7, hw7⟩ : ∃ w7, w7 = w6.setCell ⟨gb, 5, none⟩ (.slice A6 (G.length + 1) c6) := ⟨_, rfl⟩
    rw [← hw7]
    have hk67 : ∀ k, k ≠ gb → w7.heap[k]? = w6.heap[k]? := fun k hk => by rw [hw7]; exact Below.heap_setCell _ _ _ _ hk
    have hgb7 : w7.heap[gb]? = some (.cells #[.slice none 0 0, .slice none 0 0, .slice none 0 0, .slice none 0 0, .slice A3 (G.length + 1) c3, .slice A6 (G.length + 1) c6, .slice none 0 0, .slice none 0 0, .slice none 0 0, .slice none 0 0] 44 (0, 0)) := by
      rw [hw7, heap_setCell_same _ _ _ _ _ _ hgb6]; rfl
    have hs7 : w7.heap.size = w6.heap.size := by rw [hw7]; simp [World.setCell]
    have hk7 : ∀ k, k < w.heap.size → k ≠ gb → ve.ownBlock ≠ some k → vw.ownBlock ≠ some k → w7.heap[k]? = w.heap[k]? := fun k hk h1 h2 h3 =>
      (hk67 k h1).trans ((HK6.out k (by omega) h3).trans ((HK4.out k h1).trans (HK3.out k hk h2)))
    have hX7 : ∀ b, (Value.slice A3 (G.length + 1) c3).ownBlock = some b → b < w4.heap.size ∧ vw.ownBlock ≠ some b := fun b hb => by
      refine ⟨(HX4.out.lt b hb).2, ?_⟩
      rcases HAT3.out with h | h
      · exact HNE.out b (h ▸ hb)
      · intro e
        have h1 := (hvw1 b e).2
        rw [hb] at h
        simp at h
        omega
    refine ⟨A2, c2, rfl, by omega, ⟨.slice A3 (G.length + 1) c3, .slice A6 (G.length + 1) c6, W ++ [⟨A5, c5, xs⟩], hgb7, hbase, ?_, ?_, ?_, ?_, ?_⟩, ⟨?_, ?_, ?_, ?_, ?_⟩, ⟨?_, ?_, ?_, ?_, ?_⟩⟩
    · rw [List.map_append]
      refine HX4.out.same fun b hb => ?_
      have hne : b ≠ gb := fun e => by
        obtain ⟨cs, h⟩ := HX4.out.cell_block hb
        rw [e, HGB4.out] at h; cases h
      exact (hk67 b hne).trans (HK6.out b (hX7 b hb).1 (hX7 b hb).2)
    · rw [List.map_append]
      refine HM6.out.same fun b hb => hk67 b fun e => by
        obtain ⟨cs, h⟩ := HM6.out.cell_block hb
        rw [e, hgb6] at h; cases h
    · intro b hb e
      rcases HAT6.out with h | h
      · exact (hX7 b hb).2 (h.symm.trans e)
      · have h1 := (hX7 b hb).1
        rw [e] at h
        simp at h
        omega
    · simp [HWG.out]
    · intro g hg
      have hold : ∀ g ∈ G ++ W, Made Entry.cells 5 99 base w7 g.v (g.l ++ [mark]) := fun g hg => by
        have h := HALL.out g hg
        refine h.same fun b hb => hk7 b (h.lt b hb).2 (fun e => ?_) (fun e => ?_) (fun e => ?_)
        · obtain ⟨cs, h1⟩ := h.cell_block hb; rw [e, HHGB.out] at h1; cases h1
        · obtain ⟨cs, h1⟩ := h.cell_block hb; obtain ⟨cs', h2⟩ := hve.cell_block e; rw [h2] at h1; cases h1
        · obtain ⟨cs, h1⟩ := h.cell_block hb; obtain ⟨cs', h2⟩ := hvw.cell_block e; rw [h2] at h1; cases h1
      simp only [List.mem_append, List.mem_singleton] at hg
      rcases hg with (hg | rfl) | (hg | rfl)
      · exact hold g (by simp [hg])
      · refine HM4.out.same fun b hb => ?_
        have hne : b ≠ gb := fun e => by
          obtain ⟨cs, h⟩ := HM4.out.cell_block hb
          rw [e, HGB4.out] at h; cases h
        refine (hk67 b hne).trans (HK6.out b (HM4.out.lt b hb).2 fun e => ?_)
        obtain ⟨cs, h1⟩ := HM4.out.cell_block hb
        obtain ⟨cs', h2⟩ := hv4.cell_block e
        rw [h2] at h1; cases h1
      · exact hold g (by simp [hg])
      · refine (HM5.out.base' (show base ≤ w4.heap.size by omega)).same fun b hb => ?_
        have hl : w4.heap.size ≤ b ∧ b < w5.heap.size := HM5.out.lt b hb
        refine (hk67 b (by omega)).trans ((HG6.out.block b (by simp; omega) (fun e => ?_)).trans (Below.heap_alloc _ _ _ hl.2))
        have := (hv4l b e.symm).2
        omega
    · rw [hw7]; exact HG6.out.os.trans (hb5.os.trans (show w4.os = w.os by rw [HW4.out]; exact HG3.out.os.trans (HG2.out.os.trans hb1.os)))
    · rw [hw7]; exact HG6.out.tape.trans (hb5.tape.trans (show w4.tape = w.tape by rw [HW4.out]; exact HG3.out.tape.trans (HG2.out.tape.trans hb1.tape)))
    · rw [hw7]; exact HG6.out.output.trans (hb5.output.trans (show w4.output = w.output by rw [HW4.out]; exact HG3.out.output.trans (HG2.out.output.trans hb1.output)))
    · omega
    · intro k hk hn
      refine hk7 k hk (fun e => hn (.inl e)) (fun e => ?_) (fun e => ?_)
      · obtain ⟨cs, h⟩ := hve.cell_block e; exact hn (.inr ⟨cs, h⟩)
      · obtain ⟨cs, h⟩ := hvw.cell_block e; exact hn (.inr ⟨cs, h⟩)
    · rw [hw7]; exact HG6.out.os.trans (hb5.os.trans (show w4.os = w.os by rw [HW4.out]; exact HG3.out.os.trans (HG2.out.os.trans hb1.os)))
    · rw [hw7]; exact HG6.out.tape.trans (hb5.tape.trans (show w4.tape = w.tape by rw [HW4.out]; exact HG3.out.tape.trans (HG2.out.tape.trans hb1.tape)))
    · rw [hw7]; exact HG6.out.output.trans (hb5.output.trans (show w4.output = w.output by rw [HW4.out]; exact HG3.out.output.trans (HG2.out.output.trans hb1.output)))
    · omega
    · intro k hk
      exact hk7 k (by omega) (by omega) (fun e => by have := (hve1 k e).1; omega) (fun e => by have := (hvw1 k e).1; omega)
end Go.Proofs.Ytjjekpkgfhcknaa

namespace Go.Proofs.Ytjjekpkgfhcknaa
open Go.RowKit
set_option linter.unusedVariables false
set_option linter.unusedSimpArgs false

def markZ : Int := 777777
/-- One list that was handed out. -/
structure Gz where
  A : Option Addr
  c : Nat
  l : List Int
def Gz.v (g : Gz) : Value := .slice g.A (g.l.length + 1) g.c
def Gz.x (g : Gz) : { v : Value // v.oneCell' = true } := ⟨g.v, rfl⟩
theorem rowIntsR : RowT Try.prog 41 37 1 24 := RowT.of (z := .slice none 0 0) Try.underlying41 (by kernel_rfl) rfl (by omega)
theorem copyIntsZ (A : Option Addr) (c n : Nat) (xs : List Int) (hn : n = xs.length) (w : World) (hb : xs.length * 8 ≤ 140737488355328) (ha : Rd zcell 1 w w.heap.size A xs) :
    Calls Try.prog 50 #[.slice A n c] w fun e w' => ∃ A' c', e = .returned (.slice A' n c') ∧ Made zcell 1 3 w.heap.size w' (.slice A' n c') xs ∧ Below w.heap.size w w' := by
  subst hn
  go_enter Try.func50, Try.ntmps50
  have hl : xs.length ≤ maxLen := by unfold maxLen; omega
  go_wp2_with (at_builtin; refine wpList_app (v := .slice none 0 0) (xs := []) rowInt encZ rfl (.const (.slice none 0 0)) (.tmp 3) rfl w.heap.size rfl (Made.nil _ _ _) rfl rfl ha (by simpa using hb) (by simpa using hl) (Nat.le_refl _) ?_; intro v1 w1 hm1 hg1 hat1)
  go_ret
  simp only [List.nil_append] at hm1
  obtain ⟨A', c', rfl, hc⟩ := hm1.form
  exact ⟨A', c', rfl, hm1, (Below.refl _ _).grown hg1 (Nat.le_refl _) (by simp [Value.ownBlock])⟩
set_option maxHeartbeats 1600000 in
theorem sameIntsZ (A B : Option Addr) (c d n : Nat) (xs : List Int) (hxn : n = xs.length) (w : World) (hn : xs.length ≤ 9223372036854775807) (ha : Rd zcell 1 w w.heap.size A xs) (hb : Rd zcell 1 w w.heap.size B xs) :
    Calls Try.prog 26 #[.slice A n c, .slice B n d] w fun e w' => e = .returned (.bool true) ∧ ∃ q, w' = w.drewN q := by
  subst hxn
  have HA := Lib.hid ha
  have HB := Lib.hid hb
  clear ha hb
  go_enter Try.func26, Try.ntmps26
  go_wp2
  go_loopw [5] (fun i wr => ∃ k : Nat, k ≤ xs.length ∧ i = .int .i64 k ∧ ∃ q, wr = w.drewN q) (fun i _ => xs.length - (intOf i).toNat)
  case atStart => exact ⟨0, by omega, rfl, 0, rfl⟩
  case round =>
    obtain ⟨k, hk, rfl, q, rfl⟩ := hrel
    by_cases h1 : k < xs.length
    · obtain ⟨ad, hA, _, hca⟩ := HA.out.at_ h1
      obtain ⟨bd, hB, _, hcb⟩ := HB.out.at_ h1
      subst hA; subst hB
      have g1 : (k:Int) < (xs.length : Int) := by omega
      have c0 : w.cell? (ad.add k) = some (.int .i64 xs[k]) := by have := hca.one; rwa [Nat.mul_one] at this
      have d0 : w.cell? (bd.add k) = some (.int .i64 xs[k]) := by have := hcb.one; rwa [Nat.mul_one] at this
      clear hca hcb
      generalize xs[k] = x at *
      go_wp2_with fail
      go_quiet (fail)
      go_wp2
      go_roundw
      case rel => exact ⟨k + 1, by omega, by go_num, (by first | exact ⟨_, rfl⟩ | exact drawn2 _ _ _)⟩
      case measure => simp [intOf]; omega
    · have g2 : decide ((k:Int) < (xs.length : Int)) = false := by simp; omega
      go_wp2
      go_ret
      exact ⟨rfl, _, rfl⟩

def GivenZ (w : World) (gb base : Nat) (G : List Gz) : Prop :=
  ∃ (ve vw : Value) (W : List Gz),
    w.heap[gb]? = some (.cells #[.slice none 0 0, .slice none 0 0, .slice none 0 0, .slice none 0 0, .slice none 0 0, .slice none 0 0, ve, vw, .slice none 0 0, .slice none 0 0] 44 (0, 0)) ∧ base ≤ gb ∧
    Made slc 1 37 base w ve (G.map Gz.x) ∧ Made slc 1 37 base w vw (W.map Gz.x) ∧ (∀ b, ve.ownBlock = some b → vw.ownBlock ≠ some b) ∧
    W.map Gz.l = G.map Gz.l ∧ (∀ g ∈ G ++ W, Made zcell 1 3 base w g.v (g.l ++ [markZ]))

/-- The blocks that GivenZ may turn: its struct, and its two rows. -/
def GivenSZ (w : World) (gb : Nat) (k : Nat) : Prop := k = gb ∨ ∃ cs, w.heap[k]? = some (.cells cs 37 (0, 0))

set_option maxRecDepth 100000 in
set_option maxHeartbeats 1600000 in
theorem givenInts (gb base : Nat) (G : List Gz) (A : Option Addr) (c : Nat) (xs : List Int) (w : World) (hg : GivenZ w gb base G) (hG : G.length ≤ 100) (hb : (xs.length + 1) * 8 ≤ 140737488355328) (ha : Rd zcell 1 w base A xs) :
    Calls Try.prog 21 #[.pointer (some ⟨gb, 0, none⟩), .slice A xs.length c] w fun e w' => ∃ A' c', e = .returned (.slice A' xs.length c') ∧ xs.length < c' ∧ GivenZ w' gb base (G ++ [⟨A', c', xs⟩]) ∧ Kept (GivenSZ w gb) w w' ∧ Below base w w' := by
  obtain ⟨ve, vw, W, hgb, hbase, hve, hvw, hne, hWG, hall⟩ := hg
  have hgl : gb < w.heap.size := (Array.getElem?_eq_some_iff.1 hgb).1
  go_enter Try.func21, Try.ntmps21
  go_wp2_with fail
  refine (copyIntsZ A c _ xs rfl w (by omega) (ha.more (by omega))).mono ?_
  rintro e w1 ⟨A1, c1, rfl, hm1, hb1⟩
  have hm1' := (hm1.base' (Nat.le_trans hbase (by omega))).alloc (.cells #[.int .i64 777777] 3)
  have hr1 := rd_one encZ w1 markZ #[.int .i64 777777] rfl 3
  have hbs := hb1.size
  have hve1 : ∀ b, ve.ownBlock = some b → base ≤ b ∧ b < w.heap.size := hve.lt
  have hvw1 : ∀ b, vw.ownBlock = some b → base ≤ b ∧ b < w.heap.size := hvw.lt
  have hm1l : ∀ b, (Value.slice A1 xs.length c1).ownBlock = some b → w.heap.size ≤ b ∧ b < w1.heap.size := hm1.lt
  have hne4 : ve.ownBlock ≠ some gb := fun e => by obtain ⟨cs, h⟩ := hve.cell_block e; rw [hgb] at h; cases h
  have hne5 : vw.ownBlock ≠ some gb := fun e => by obtain ⟨cs, h⟩ := hvw.cell_block e; rw [hgb] at h; cases h
  go_wp2_with (first
    | (at_builtin
       refine wpList_app (v := .slice A1 xs.length c1) (xs := xs) (ys := [markZ]) rowInt encZ rfl (.tmp 7) (.tmp 8) rfl base rfl hm1' rfl rfl hr1 (by simpa using hb) (by unfold maxLen; simp; omega) (by simp; omega) ?_
       intro v2 w2 hm2 hg2 hat2
       obtain ⟨A2, c2, hv2, hc2⟩ := hm2.form
       rw [List.length_append, List.length_singleton] at hv2 hc2
       subst hv2
       have hk2 : ∀ k, k < w.heap.size → w2.heap[k]? = w.heap[k]? := fun k hk => (hg2.block k (by simp; omega) (fun e => by have := (hm1l k e.symm).1; omega)).trans ((Below.heap_alloc _ _ _ (by omega)).trans (hb1.block k hk))
       have hs2 : w1.heap.size + 1 ≤ w2.heap.size := by have := hg2.size; simpa using this
       have hgb2 := (hk2 gb hgl).trans hgb
       have g4 : w2.cell? ⟨gb, 6, none⟩ = some ve := cell_of_row w2 gb 6 _ _ _ hgb2
       have g5 : w2.cell? ⟨gb, 7, none⟩ = some vw := cell_of_row w2 gb 7 _ _ _ hgb2
       have f4 : w2.frozen? ⟨gb, 6, none⟩ = false := frozen_of_row w2 gb 6 _ _ hgb2
       have f5 : w2.frozen? ⟨gb, 7, none⟩ = false := frozen_of_row w2 gb 7 _ _ hgb2
       have hve2 := (hve.same (w' := w2) (fun b hb => hk2 b (hve1 b hb).2)).alloc (.cells #[.slice A2 (xs.length + 1) c2] 37)
       have hvw2 := (hvw.same (w' := w2) (fun b hb => hk2 b (hvw1 b hb).2))
       have hr2 := rd_one encSlc w2 (Gz.x ⟨A2, c2, xs⟩) #[.slice A2 (xs.length + 1) c2] rfl 37
       have HGB2 := Lib.hid hgb2
       have HM2 := Lib.hid hm2
       have HG2 := Lib.hid hg2
       have HAT2 := Lib.hid hat2
       have HK2 := Lib.hid hk2
       clear hgb2 hm2 hg2 hat2 hk2 hr1 hm1')
    | (at_builtin
       refine wpList_app (v := ve) (xs := G.map Gz.x) (ys := [Gz.x ⟨A2, c2, xs⟩]) rowIntsR encSlc rfl (.tmp 14) (.tmp 16) rfl base rfl hve2 rfl rfl hr2 (by simp; omega) (by unfold maxLen; simp; omega) (by simp; omega) ?_
       intro v3 w3 hm3 hg3 hat3
       obtain ⟨A3, c3, hv3, hc3⟩ := hm3.form
       rw [List.length_append, List.length_singleton, List.length_map] at hv3 hc3
       subst hv3
       have hk3 : ∀ k, k < w.heap.size → ve.ownBlock ≠ some k → w3.heap[k]? = w.heap[k]? := fun k hk hn => (hg3.block k (by simp; omega) (fun e => hn e.symm)).trans ((Below.heap_alloc _ _ _ (by omega)).trans (HK2.out k hk))
       have hs3 : w2.heap.size + 1 ≤ w3.heap.size := by have := hg3.size; simpa using this
       have hgb3 := (hk3 gb hgl hne4).trans hgb
       have g4 : w3.cell? ⟨gb, 6, none⟩ = some ve := cell_of_row w3 gb 6 _ _ _ hgb3
       have f4 : w3.frozen? ⟨gb, 6, none⟩ = false := frozen_of_row w3 gb 6 _ _ hgb3
       have HGB3 := Lib.hid hgb3
       have HM3 := Lib.hid hm3
       have HG3 := Lib.hid hg3
       have HAT3 := Lib.hid hat3
       have HK3 := Lib.hid hk3
       clear hgb3 hm3 hg3 hat3 hk3 hve2 hr2))
  have hgb3 := HGB3.out
  have hm2 := HM2.out
  have hm3 := HM3.out
  obtain ⟨w4, hw4⟩ : ∃ w4, w4 = w3.setCell ⟨gb, 6, none⟩ (.slice A3 (G.length + 1) c3) := ⟨_, rfl⟩
  rw [← hw4]
  have hs4 : w4.heap.size = w3.heap.size := by rw [hw4]; simp [World.setCell]
  have hk4 : ∀ k, k ≠ gb → w4.heap[k]? = w3.heap[k]? := fun k hk => by rw [hw4]; exact Below.heap_setCell _ _ _ _ hk
  have hgb4 : w4.heap[gb]? = some (.cells #[.slice none 0 0, .slice none 0 0, .slice none 0 0, .slice none 0 0, .slice none 0 0, .slice none 0 0, .slice A3 (G.length + 1) c3, vw, .slice none 0 0, .slice none 0 0] 44 (0, 0)) := by
    rw [hw4, heap_setCell_same _ _ _ _ _ _ hgb3]; rfl
  have hsA : w2.heap.size ≤ w4.heap.size := by omega
  have hA2 : ∀ b, (Value.slice A2 (xs.length + 1) c2).ownBlock = some b → base ≤ b ∧ b < w2.heap.size := hm2.lt
  have hA2e : ve.ownBlock ≠ (Value.slice A2 (xs.length + 1) c2).ownBlock ∨ ve.ownBlock = none := by
    by_cases h : ve.ownBlock = none
    · exact .inr h
    · obtain ⟨b, hb⟩ := Option.ne_none_iff_exists'.1 h
      refine .inl fun e => ?_
      obtain ⟨cs, h1⟩ := hm2.cell_block (e.symm.trans hb)
      obtain ⟨cs', h2⟩ := hve.cell_block hb
      rw [HK2.out b (hve1 b hb).2, h2] at h1
      cases h1
  have hgA2 : (Value.slice A2 (xs.length + 1) c2).ownBlock ≠ some gb := fun e => by
    obtain ⟨cs, h1⟩ := hm2.cell_block e
    rw [HGB2.out] at h1; cases h1
  have hm4 : Made zcell 1 3 base w4 (.slice A2 (xs.length + 1) c2) (xs ++ [markZ]) := by
    refine hm2.same fun b hb => ?_
    rw [hk4 b (fun e => hgA2 (e ▸ hb))]
    refine (HG3.out.block b (by simp; have := (hA2 b hb).2; omega) (fun e => ?_)).trans (Below.heap_alloc _ _ _ (hA2 b hb).2)
    rcases hA2e with h | h
    · exact h (e.symm.trans hb.symm)
    · rw [h] at e; cases e
  have hv4 : Made slc 1 37 base w4 vw (W.map Gz.x) := hvw.same fun b hb => (hk4 b (fun e => hne5 (e ▸ hb))).trans (HK3.out b (hvw1 b hb).2 (fun e => hne b e hb))
  have hx4 : Made slc 1 37 base w4 (.slice A3 (G.length + 1) c3) (G.map Gz.x ++ [Gz.x ⟨A2, c2, xs⟩]) := hm3.same fun b hb => hk4 b (fun e => by
    subst e
    obtain ⟨cs, h1⟩ := hm3.cell_block hb
    rw [hgb3] at h1; cases h1)
  have g5' : w4.cell? ⟨gb, 7, none⟩ = some vw := cell_of_row w4 gb 7 _ _ _ hgb4
  have f5' : w4.frozen? ⟨gb, 7, none⟩ = false := frozen_of_row w4 gb 7 _ _ hgb4
  have hr4 : Rd zcell 1 w4 w4.heap.size A2 (xs ++ [markZ]) := by
    have h : Made zcell 1 3 base w4 (.slice A2 (xs ++ [markZ]).length c2) (xs ++ [markZ]) := by simpa using hm4
    exact h.rd encZ.len
  have hsz4 : w.heap.size + 1 ≤ w4.heap.size := by omega
  have hv4l : ∀ b, vw.ownBlock = some b → base ≤ b ∧ b < w4.heap.size := hv4.lt
  have HW4 := Lib.hid hw4
  have HGB4 := Lib.hid hgb4
  have HK4 := Lib.hid hk4
  have HM4 := Lib.hid hm4
  have HX4 := Lib.hid hx4
  have HWG := Lib.hid hWG
  have HALL := Lib.hid hall
  have HNE := Lib.hid hne
  have HVE := Lib.hid hve
  have HVW := Lib.hid hvw
  have HHGB := Lib.hid hgb
  have hWl : W.length = G.length := by have := congrArg List.length hWG; simpa using this
  have HS4 := Lib.hid hs4
  clear hw4 hgb4 hk4 hm4 hx4 hWG hall hne hve hvw hgb hA2e hgA2 hgb3 hm2 hm3 g4 f4 g5 f5 hs4 hvw2
  go_region_law
    (first
      | (go_simp
         go_at_call 50
         refine (copyIntsZ A2 c2 _ (xs ++ [markZ]) (by simp) _ (by simpa using hb) (by exact hr4)).mono ?_
         rintro e w5 ⟨A5, c5, rfl, hm5, hb5⟩
         have hb5s : w4.heap.size ≤ w5.heap.size := hb5.size
         have g5c : w5.cell? ⟨gb, 7, none⟩ = some vw := (hb5.cell (p := ⟨gb, 7, none⟩) (by show gb < w4.heap.size; omega)).trans g5'
         have g5d : (w5.alloc (.cells #[.slice A5 (xs.length + 1) c5] 37)).cell? ⟨gb, 7, none⟩ = some vw := (World.cell?_alloc_lt _ _ _ (by show gb < w5.heap.size; omega)).trans g5c
         have hv5 : Made slc 1 37 base (w5.alloc (.cells #[.slice A5 (xs.length + 1) c5] 37)) vw (W.map Gz.x) := (hv4.same (w' := w5) (fun b hb => (hb5.block b (by simp; exact (hv4l b hb).2)))).alloc _
         have hr5 := rd_one encSlc w5 (Gz.x ⟨A5, c5, xs⟩) #[.slice A5 (xs.length + 1) c5] rfl 37)
      | (refine step_app (v := vw) (xs := W.map Gz.x) (ys := [Gz.x ⟨A5, c5, xs⟩]) rowIntsR encSlc rfl (.tmp 24) (.tmp 27) rfl base rfl (by exact hv5) rfl rfl (by exact hr5) (by simp; omega) (by unfold maxLen; simp; omega) (by simp; omega) ?_
         intro v6 w6 hm6 hg6 hat6
         obtain ⟨A6, c6, hv6, hc6⟩ := hm6.form
         rw [List.length_append, List.length_singleton, List.length_map, hWl] at hv6 hc6
         subst hv6
         have hk6 : ∀ k, k < w4.heap.size → vw.ownBlock ≠ some k → w6.heap[k]? = w4.heap[k]? := fun k hk hn => (hg6.block k (by simp; omega) (fun e => hn e.symm)).trans ((Below.heap_alloc _ _ _ (by omega)).trans (hb5.block k hk))
         have HK6 := Lib.hid hk6
         have hs6 : w5.heap.size + 1 ≤ w6.heap.size := by have := hg6.size; simpa using this
         have hgb6 := (hk6 gb (by omega) hne5).trans HGB4.out
         have f5w : w6.frozen? ⟨gb, 7, none⟩ = false := frozen_of_row w6 gb 7 _ _ hgb6
         have g5w : w6.cell? ⟨gb, 7, none⟩ = some vw := cell_of_row w6 gb 7 _ _ _ hgb6
         have HGB6 := Lib.hid hgb6
         have HM6 := Lib.hid hm6
         have HG6 := Lib.hid hg6
         have HAT6 := Lib.hid hat6
         have HM5 := Lib.hid hm5
         clear hgb6 hm6 hg6 hat6 hk6 hv5 hr5 hm5))
  all_goals
    go_wp2
    go_ret
    have hgb6 := HGB6.out
    have hve := HVE.out
    have hvw := HVW.out
    obtain ⟨w7, hw7⟩ : ∃ w7, w7 = w6.setCell ⟨gb, 7, none⟩ (.slice A6 (G.length + 1) c6) := ⟨_, rfl⟩
    rw [← hw7]
    have hk67 : ∀ k, k ≠ gb → w7.heap[k]? = w6.heap[k]? := fun k hk => by rw [hw7]; exact Below.heap_setCell _ _ _ _ hk
    have hgb7 : w7.heap[gb]? = some (.cells #[.slice none 0 0, .slice none 0 0, .slice none 0 0, .slice none 0 0, .slice none 0 0, .slice none 0 0, .slice A3 (G.length + 1) c3, .slice A6 (G.length + 1) c6, .slice none 0 0, .slice none 0 0] 44 (0, 0)) := by
      rw [hw7, heap_setCell_same _ _ _ _ _ _ hgb6]; rfl
    have hs7 : w7.heap.size = w6.heap.size := by rw [hw7]; simp [World.setCell]
    have hk7 : ∀ k, k < w.heap.size → k ≠ gb → ve.ownBlock ≠ some k → vw.ownBlock ≠ some k → w7.heap[k]? = w.heap[k]? := fun k hk h1 h2 h3 =>
      (hk67 k h1).trans ((HK6.out k (by omega) h3).trans ((HK4.out k h1).trans (HK3.out k hk h2)))
    have hX7 : ∀ b, (Value.slice A3 (G.length + 1) c3).ownBlock = some b → b < w4.heap.size ∧ vw.ownBlock ≠ some b := fun b hb => by
      refine ⟨(HX4.out.lt b hb).2, ?_⟩
      rcases HAT3.out with h | h
      · exact HNE.out b (h ▸ hb)
      · intro e
        have h1 := (hvw1 b e).2
        rw [hb] at h
        simp at h
        omega
    refine ⟨A2, c2, rfl, by omega, ⟨.slice A3 (G.length + 1) c3, .slice A6 (G.length + 1) c6, W ++ [⟨A5, c5, xs⟩], hgb7, hbase, ?_, ?_, ?_, ?_, ?_⟩, ⟨?_, ?_, ?_, ?_, ?_⟩, ⟨?_, ?_, ?_, ?_, ?_⟩⟩
    · rw [List.map_append]
      refine HX4.out.same fun b hb => ?_
      have hne : b ≠ gb := fun e => by
        obtain ⟨cs, h⟩ := HX4.out.cell_block hb
        rw [e, HGB4.out] at h; cases h
      exact (hk67 b hne).trans (HK6.out b (hX7 b hb).1 (hX7 b hb).2)
    · rw [List.map_append]
      refine HM6.out.same fun b hb => hk67 b fun e => by
        obtain ⟨cs, h⟩ := HM6.out.cell_block hb
        rw [e, hgb6] at h; cases h
    · intro b hb e
      rcases HAT6.out with h | h
      · exact (hX7 b hb).2 (h.symm.trans e)
      · have h1 := (hX7 b hb).1
        rw [e] at h
        simp at h
        omega
    · simp [HWG.out]
    · intro g hg
      have hold : ∀ g ∈ G ++ W, Made zcell 1 3 base w7 g.v (g.l ++ [markZ]) := fun g hg => by
        have h := HALL.out g hg
        refine h.same fun b hb => hk7 b (h.lt b hb).2 (fun e => ?_) (fun e => ?_) (fun e => ?_)
        · obtain ⟨cs, h1⟩ := h.cell_block hb; rw [e, HHGB.out] at h1; cases h1
        · obtain ⟨cs, h1⟩ := h.cell_block hb; obtain ⟨cs', h2⟩ := hve.cell_block e; rw [h2] at h1; cases h1
        · obtain ⟨cs, h1⟩ := h.cell_block hb; obtain ⟨cs', h2⟩ := hvw.cell_block e; rw [h2] at h1; cases h1
      simp only [List.mem_append, List.mem_singleton] at hg
      rcases hg with (hg | rfl) | (hg | rfl)
      · exact hold g (by simp [hg])
      · refine HM4.out.same fun b hb => ?_
        have hne : b ≠ gb := fun e => by
          obtain ⟨cs, h⟩ := HM4.out.cell_block hb
          rw [e, HGB4.out] at h; cases h
        refine (hk67 b hne).trans (HK6.out b (HM4.out.lt b hb).2 fun e => ?_)
        obtain ⟨cs, h1⟩ := HM4.out.cell_block hb
        obtain ⟨cs', h2⟩ := hv4.cell_block e
        rw [h2] at h1; cases h1
      · exact hold g (by simp [hg])
      · refine (HM5.out.base' (show base ≤ w4.heap.size by omega)).same fun b hb => ?_
        have hl : w4.heap.size ≤ b ∧ b < w5.heap.size := HM5.out.lt b hb
        refine (hk67 b (by omega)).trans ((HG6.out.block b (by simp; omega) (fun e => ?_)).trans (Below.heap_alloc _ _ _ hl.2))
        have := (hv4l b e.symm).2
        omega
    · rw [hw7]; exact HG6.out.os.trans (hb5.os.trans (show w4.os = w.os by rw [HW4.out]; exact HG3.out.os.trans (HG2.out.os.trans hb1.os)))
    · rw [hw7]; exact HG6.out.tape.trans (hb5.tape.trans (show w4.tape = w.tape by rw [HW4.out]; exact HG3.out.tape.trans (HG2.out.tape.trans hb1.tape)))
    · rw [hw7]; exact HG6.out.output.trans (hb5.output.trans (show w4.output = w.output by rw [HW4.out]; exact HG3.out.output.trans (HG2.out.output.trans hb1.output)))
    · omega
    · intro k hk hn
      refine hk7 k hk (fun e => hn (.inl e)) (fun e => ?_) (fun e => ?_)
      · obtain ⟨cs, h⟩ := hve.cell_block e; exact hn (.inr ⟨cs, h⟩)
      · obtain ⟨cs, h⟩ := hvw.cell_block e; exact hn (.inr ⟨cs, h⟩)
    · rw [hw7]; exact HG6.out.os.trans (hb5.os.trans (show w4.os = w.os by rw [HW4.out]; exact HG3.out.os.trans (HG2.out.os.trans hb1.os)))
    · rw [hw7]; exact HG6.out.tape.trans (hb5.tape.trans (show w4.tape = w.tape by rw [HW4.out]; exact HG3.out.tape.trans (HG2.out.tape.trans hb1.tape)))
    · rw [hw7]; exact HG6.out.output.trans (hb5.output.trans (show w4.output = w.output by rw [HW4.out]; exact HG3.out.output.trans (HG2.out.output.trans hb1.output)))
    · omega
    · intro k hk
      exact hk7 k (by omega) (by omega) (fun e => by have := (hve1 k e).1; omega) (fun e => by have := (hvw1 k e).1; omega)

set_option maxRecDepth 100000 in
theorem givenIntactZ (gb base : Nat) (G : List Gz) (w : World) (hg : GivenZ w gb base G) (hG : G.length ≤ 100) :
    Calls Try.prog 23 #[.pointer (some ⟨gb, 0, none⟩)] w fun e w' => e = .returned (.bool true) ∧ ∃ q, w' = w.drewN q := by
  obtain ⟨ve, vw, W, hgb, hbase, hve, hvw, hne, hWG, hall⟩ := hg
  have hWl : W.length = G.length := by have := congrArg List.length hWG; simpa using this
  have ca : ∀ i, i < 6 ∨ 8 ≤ i ∧ i < 10 → w.cell? ⟨gb, i, none⟩ = some (.slice none 0 0) := by
    intro i hi
    rw [cell_of_row w gb i _ _ _ hgb]
    rcases hi with h | h
    · match i, h with
      | 0, _ => rfl
      | 1, _ => rfl
      | 2, _ => rfl
      | 3, _ => rfl
      | 4, _ => rfl
      | 5, _ => rfl
    · match i, h with
      | 8, _ => rfl
      | 9, _ => rfl
  have c0 := ca 0 (by omega)
  have c2 := ca 2 (by omega)
  have c4 := ca 4 (by omega)
  have c8 := ca 8 (by omega)
  have c6 : w.cell? ⟨gb, 6, none⟩ = some ve := cell_of_row w gb 6 _ _ _ hgb
  have c7 : w.cell? ⟨gb, 7, none⟩ = some vw := cell_of_row w gb 7 _ _ _ hgb
  obtain ⟨Ae, ce, he, hce⟩ := hve.form
  obtain ⟨Aw, cw, hw, hcw⟩ := hvw.form
  rw [List.length_map] at he
  rw [List.length_map, hWl] at hw
  subst he hw
  have re := Made.rd' encSlc.len hve
  have rw_ := Made.rd' encSlc.len hvw
  have HWL : Hid (W.length = G.length) := hWl
  clear ca hgb hve hvw hne hce hcw hWl
  go_enter Try.func23, Try.ntmps23
  go_wp2
  refine wp_loop_rounds 1 ?_
  rw [rounds_succ]
  go_wp2
  refine wp_loop_rounds 1 ?_
  rw [rounds_succ]
  go_wp2
  have HWG := Lib.hid hWG
  clear c0 c8 hWG
  go_loopw [5] (fun i wr => ∃ k : Nat, k ≤ G.length ∧ i = .int .i64 k ∧ ∃ q, wr = w.drewN q) (fun i _ => G.length - (intOf i).toNat)
  case atStart => exact ⟨0, by omega, rfl, 0, rfl⟩
  case round =>
    obtain ⟨k, hk, rfl, q, rfl⟩ := hrel
    by_cases h1 : k < G.length
    · have h2 : k < W.length := by have := HWL.out; omega
      obtain ⟨ae, hae, _, hce⟩ := re k (Gz.x G[k]) (by simp [h1])
      obtain ⟨aw, haw, _, hcw⟩ := rw_ k (Gz.x W[k]) (by simp [h2])
      subst hae haw
      have e0 : w.cell? (ae.add (k * 1)) = some (.slice G[k].A (G[k].l.length + 1) G[k].c) := hce 0 _ rfl
      have w0 : w.cell? (aw.add (k * 1)) = some (.slice W[k].A (W[k].l.length + 1) W[k].c) := hcw 0 _ rfl
      have hl : W[k].l = G[k].l := by
        have := congrArg (fun l => l[k]?) HWG.out
        simp [h1, h2] at this
        exact this
      have mg := hall G[k] (by simp)
      have mw := hall W[k] (by simp)
      have rg : Rd zcell 1 w w.heap.size G[k].A (G[k].l ++ [markZ]) := by
        refine Made.rd encZ.len (e := 3) (base := base) (c := G[k].c) ?_
        rw [List.length_append, List.length_singleton]
        exact mg
      have rw' : Rd zcell 1 w w.heap.size W[k].A (W[k].l ++ [markZ]) := by
        refine Made.rd encZ.len (e := 3) (base := base) (c := W[k].c) ?_
        rw [List.length_append, List.length_singleton]
        exact mw
      rw [hl] at w0 rw'
      rw [Nat.mul_one] at e0 w0
      have hcap : G[k].l.length + 1 ≤ maxLen := by
        obtain ⟨A, c, hv, hc⟩ := mg.form
        rcases mg.2 with ⟨_, h0⟩ | ⟨g, cap, cur, _, _, _, hc', hm, _⟩
        · simp at h0
        · simp at hc'; omega
      unfold maxLen at hcap
      have g1 : (k:Int) < (G.length : Int) := by omega
      clear hl mg mw hce hcw re rw_ hall
      generalize G[k].l = l at *
      generalize G[k].A = A at *
      generalize G[k].c = c at *
      generalize W[k].A = B at *
      generalize W[k].c = d at *
      go_wp2_with fail
      go_quiet ((go_at_call 26; exact quiet_add (sameIntsZ A B c d _ (l ++ [markZ]) (by simp) _ (by simp; omega) (by exact rg) (by exact rw'))))
      go_wp2
      go_roundw
      case rel => exact ⟨k + 1, by omega, by go_num, by first | exact ⟨_, rfl⟩ | exact drawn2 _ _ _⟩
      case measure => simp [intOf]; omega
    · have g1 : decide ((k:Int) < (G.length : Int)) = false := by simp; omega
      go_wp2
      refine wp_loop_rounds 1 ?_
      rw [rounds_succ]
      go_wp2
      refine wp_loop_rounds 1 ?_
      rw [rounds_succ]
      go_wp2
      go_ret
      exact ⟨rfl, _, rfl⟩
end Go.Proofs.Ytjjekpkgfhcknaa

namespace Go.Proofs.Ytjjekpkgfhcknaa
open Go.RowKit
set_option linter.unusedVariables false
set_option linter.unusedSimpArgs false

def okUpto (n : Nat) (os : List Int) (k : Nat) : Prop := ∀ j (h : j < os.length), j < k → 0 ≤ os[j] ∧ os[j] < n ∧ os[j] ∉ os.take j
theorem okUpto.all {n : Nat} {os : List Int} (h : okUpto n os os.length) : okO n os := fun k hk => h k hk hk
theorem okUpto.succ {n : Nat} {os : List Int} {k : Nat} (h : okUpto n os k) (hk : k < os.length) (h1 : 0 ≤ os[k] ∧ os[k] < n ∧ os[k] ∉ os.take k) : okUpto n os (k + 1) := fun j hj hjk => by
  by_cases e : j = k
  · subst e; exact h1
  · exact h j hj (by omega)
/-- An order whose first numbers are all in range, as naturals. -/
theorem rd_nat {w : World} {B : Nat} {A : Option Addr} {os : List Int} (h : Rd zcell 1 w B A os) (hp : ∀ x ∈ os, 0 ≤ x) : Rd icell 1 w B A (os.map Int.toNat) := fun i x hx => by
  rw [List.getElem?_map, Option.map_eq_some_iff] at hx
  obtain ⟨z, hz, rfl⟩ := hx
  obtain ⟨ad, e, hb, ha⟩ := h i z hz
  refine ⟨ad, e, hb, ?_⟩
  have h0 : ((z.toNat : Nat) : Int) = z := Int.toNat_of_nonneg (hp z (List.mem_of_getElem? hz))
  have : icell z.toNat = zcell z := by unfold icell zcell; rw [h0]
  rw [this]; exact ha
theorem okUpto.nonneg {n : Nat} {os : List Int} {k : Nat} (h : okUpto n os k) : ∀ x ∈ os.take k, 0 ≤ x ∧ x < n := fun x hx => by
  obtain ⟨j, hj, rfl⟩ := List.mem_iff_getElem.1 hx
  rw [List.length_take] at hj
  rw [List.getElem_take]
  have := h j (by omega) (by omega)
  exact ⟨this.1, this.2.1⟩
theorem mem_nat {os : List Int} {k : Nat} {z : Int} (hz : 0 ≤ z) (h : ∀ x ∈ os.take k, 0 ≤ x) : (z.toNat ∈ (os.take k).map Int.toNat) ↔ z ∈ os.take k := by
  constructor
  · intro hm
    obtain ⟨x, hx, e⟩ := List.mem_map.1 hm
    have := h x hx
    have : x = z := by omega
    exact this ▸ hx
  · exact fun hm => List.mem_map.2 ⟨z, hm, rfl⟩

set_option maxRecDepth 100000 in
set_option maxHeartbeats 8000000 in
theorem holds_ref (A : Option Addr) (c n : Nat) (l : List Call) (hn : n = l.length) (Ao : Option Addr) (co no : Nat) (os : List Int) (hno : no = os.length) (w : World) (hl : l.length ≤ 9223372036854775806) (hlo : os.length ≤ 9223372036854775806) (hco : no ≤ co) (hv : ∀ x ∈ l, x.op.value.size ≤ 9223372036854775807) (ha : Rd Call.cells 10 w w.heap.size A l) (hao : Rd zcell 1 w w.heap.size Ao os) :
    Calls Try.prog 22 #[.slice A n c, .slice Ao no co] w fun e w' => e = .returned (.tuple #[.int .i64 (holdsL l os).1, .int .i64 (holdsL l os).2]) ∧ Below w.heap.size w w' := by
  subst hn hno
  obtain ⟨T0, hT0⟩ : ∃ T0 : Ending → World → Prop, T0 = fun e w' => e = .returned (.tuple #[.int .i64 (holdsL l os).1, .int .i64 (holdsL l os).2]) ∧ Below w.heap.size w w' := ⟨_, rfl⟩
  rw [← hT0]
  have HT0 := Lib.hid hT0
  have HA := Lib.hid ha
  have HAO := Lib.hid hao
  have HV := Lib.hid hv
  clear ha hao hv hT0
  go_enter Try.func22, Try.ntmps22
  go_wp2_with fail
  refine (refCheck A c l.length l rfl w hl HV.out HA.out).mono ?_
  rintro e w1 ⟨rfl, hb1⟩
  have HB1 := Lib.hid hb1
  clear hb1
  by_cases hck : checkL l = 0
  · have HCK := Lib.hid hck
    have hbad : Hid (¬ okO l.length os → holdsL l os = (0, 182)) := fun h => by unfold holdsL; rw [if_neg (by simp [hck]), if_neg h]
    have hgood : Hid (okO l.length os → holdsL l os = (walkH l (allFree l) [] (os.map Int.toNat) 0, 0)) := fun h => by unfold holdsL; rw [if_neg (by simp [hck]), if_pos h]
    rw [hck]
    clear hck
    dsimp only
    go_wp2_with fail
    go_loopw [6] (fun i wr => ∃ k : Nat, k ≤ os.length ∧ i = .int .i64 k ∧ Hid (okUpto l.length os k) ∧ ∃ q, wr = w1.drewN q) (fun i _ => os.length - (intOf i).toNat)
    case atStart => exact ⟨0, by omega, rfl, fun j hj h => absurd h (by omega), 0, rfl⟩
    case round =>
      obtain ⟨k, hk, rfl, hok, q, rfl⟩ := hrel
      by_cases h1 : k < os.length
      · have hrdo := (HAO.out.below HB1.out).more HB1.out.size
        obtain ⟨bd, hB, hbl, hcb⟩ := hrdo.at_ h1
        have hstep : Hid (0 ≤ os[k] ∧ os[k] < (l.length : Int) ∧ os[k] ∉ os.take k → okUpto l.length os (k + 1)) := fun h => hok.out.succ h1 h
        have hnot : Hid (¬ (0 ≤ os[k] ∧ os[k] < (l.length : Int) ∧ os[k] ∉ os.take k) → ¬ okO l.length os) := fun h g => h (g k h1)
        have g1 : (k:Int) < (os.length : Int) := by omega
        have i1 : (0:Int) ≤ (k:Int) := by omega
        have d0 : w1.cell? (bd.add k) = some (.int .i64 os[k]) := by have := hcb.one; rwa [Nat.mul_one] at this
        subst hB
        have HRDO := Lib.hid hrdo
        have HOK := Lib.hid hok
        have hnn : Hid (∀ x ∈ os.take k, 0 ≤ x) := fun x hx => (hok.out.nonneg x hx).1
        have hkc : (k : Int) ≤ (co : Int) := by omega
        clear hrdo hcb
        generalize os[k] = z at *
        by_cases h2 : z < 0
        · have h2' : decide (z < 0) = true := decide_eq_true h2
          have HN := Lib.hid (hbad.out (hnot.out (fun h => by omega)))
          clear hstep hnot hbad hgood hnn hok
          go_wp2_with fail
          go_quiet (fail)
          go_wp2_with fail
          rw [HT0.out, HN.out]
          exact ⟨rfl, by first | exact HB1.out | exact below_drewN HB1.out _ | exact below_drewN (below_drewN HB1.out _) _⟩
        · by_cases h3 : (l.length : Int) ≤ z
          · have h2' : decide (z < 0) = false := decide_eq_false h2
            have h3' : decide ((l.length : Int) ≤ z) = true := decide_eq_true h3
            have HN := Lib.hid (hbad.out (hnot.out (fun h => by omega)))
            clear hstep hnot hbad hgood hnn hok
            go_wp2_with fail
            go_quiet (fail)
            go_wp2_with fail
            rw [HT0.out, HN.out]
            exact ⟨rfl, by first | exact HB1.out | exact below_drewN HB1.out _ | exact below_drewN (below_drewN HB1.out _) _⟩
          · have h2' : decide (z < 0) = false := decide_eq_false h2
            have h3' : decide ((l.length : Int) ≤ z) = false := decide_eq_false h3
            have hzn : ((z.toNat : Nat) : Int) = z := Int.toNat_of_nonneg (by omega)
            have hmem := mem_nat (os := os) (k := k) (z := z) (by omega) hnn.out
            have HHAS : Hid (∀ W : World, (∃ m, W = w1.drewN m) → Calls Try.prog 51 #[.slice (some bd) k co, .int .i64 z] W fun e w' => e = .returned (.bool (decide (z.toNat ∈ (os.take k).map Int.toNat))) ∧ ∃ m, w' = W.drewN m) := fun W hW => by
              obtain ⟨m, rfl⟩ := hW
              have h0 := has_ref (some bd) co k ((os.take k).map Int.toNat) (by simp; omega) z.toNat (w1.drewN m) (by simp; omega) (rd_nat (HRDO.out.take k) hnn.out)
              rw [hzn] at h0
              refine h0.mono ?_
              rintro e w' ⟨e1, e2⟩
              exact ⟨e1, 0, e2⟩
            by_cases hm : z ∈ os.take k
            · rw [decide_eq_true (hmem.2 hm)] at HHAS
              have HN := Lib.hid (hbad.out (hnot.out (fun h => h.2.2 hm)))
              clear hstep hnot hbad hgood hnn hok hmem hm hzn
              go_wp2_with fail
              go_quiet ((go_at_call 51; first | exact quiet_add (HHAS.out _ ⟨_, rfl⟩) | exact quiet_one (HHAS.out _ ⟨_, rfl⟩) | exact quiet_add (HHAS.out _ ⟨_, by rw [World.drewN_drewN]⟩) | exact quiet_one (HHAS.out _ ⟨_, by rw [World.drewN_drewN]⟩)))
              go_wp2_with fail
              rw [HT0.out, HN.out]
              exact ⟨rfl, by first | exact HB1.out | exact below_drewN HB1.out _ | exact below_drewN (below_drewN HB1.out _) _⟩
            · rw [decide_eq_false (fun h => hm (hmem.1 h))] at HHAS
              have HN := Lib.hid (hstep.out ⟨by omega, by omega, hm⟩)
              clear hstep hnot hbad hgood hnn hok hmem hm hzn
              go_wp2_with fail
              go_quiet ((go_at_call 51; first | exact quiet_add (HHAS.out _ ⟨_, rfl⟩) | exact quiet_one (HHAS.out _ ⟨_, rfl⟩) | exact quiet_add (HHAS.out _ ⟨_, by rw [World.drewN_drewN]⟩) | exact quiet_one (HHAS.out _ ⟨_, by rw [World.drewN_drewN]⟩)))
              go_wp2_with fail
              go_roundw
              case rel => exact ⟨k + 1, by omega, by go_num, HN.out, (by first | exact ⟨_, rfl⟩ | exact drawn2 _ _ _)⟩
              case measure => simp [intOf]; omega
      · have g2 : decide ((k:Int) < (os.length : Int)) = false := decide_eq_false (by omega)
        have hke : k = os.length := by omega
        have hok' := hok.out
        rw [hke] at hok'
        have HN := Lib.hid (hgood.out hok'.all)
        have hnn : ∀ x ∈ os, 0 ≤ x := fun x hx => by obtain ⟨j, hj, rfl⟩ := List.mem_iff_getElem.1 hx; exact (hok' j hj hj).1
        have hin : ∀ i ∈ os.map Int.toNat, i < l.length := fun i hi => by
          obtain ⟨x, hx, rfl⟩ := List.mem_map.1 hi
          obtain ⟨j, hj, rfl⟩ := List.mem_iff_getElem.1 hx
          have := hok' j hj hj
          omega
        have hbr := breaks_ref A c l.length l rfl Ao co os.length (os.map Int.toNat) (by simp) (w1.drewN q) hl (by simp; omega) hco HV.out (good_self HCK.out) hin ((HA.out.below HB1.out).more HB1.out.size) (rd_nat ((HAO.out.below HB1.out).more HB1.out.size) hnn)
        have HBR := Lib.hid hbr
        clear hbr hin hnn hok' hke hbad hgood hok
        obtain ⟨r, hr⟩ : ∃ r, r = walkH l (allFree l) [] (os.map Int.toNat) 0 := ⟨_, rfl⟩
        rw [← hr] at HBR HN
        clear hr
        go_wp2_with fail
        refine HBR.out.mono ?_
        rintro e w3 ⟨rfl, hb3⟩
        have HB3 := Lib.hid ((below_drewN HB1.out q).trans (hb3.mono (below_drewN HB1.out q).size))
        clear hb3
        dsimp only
        go_wp2_with fail
        rw [HT0.out, HN.out]
        exact ⟨rfl, HB3.out⟩
  · have hck2 : (checkL l == 0) = false := by simpa using hck
    have hck3 : (checkL l != 0) = true := by simpa using hck
    have hc180 : checkL l = 180 := by
      unfold checkL at hck ⊢
      by_cases hg : GoodL l
      · rw [if_pos hg] at hck; exact absurd rfl hck
      · rw [if_neg hg]
    have hs : holdsL l os = (0, 180) := by simp [holdsL, hc180]
    have HS := Lib.hid hs
    clear hs hc180
    dsimp only
    go_wp2_with fail
    rw [HT0.out, HS.out]
    exact ⟨rfl, HB1.out⟩
end Go.Proofs.Ytjjekpkgfhcknaa

namespace Go.Proofs.Ytjjekpkgfhcknaa
open Go.ChangeShapes Go.WideShapes Go.ChangeAt Go.RowKit Go.Deep
set_option linter.unusedVariables false
set_option linter.unusedSimpArgs false
def Num.wf (x : Int) : Prop := I64 x
theorem trod_num {H : Type} {enc : TypeId × Value → H} {w : World} {base : Nat} {spare : Nat → Bool} {held : Bool} {fuel : Nat} {cs : List Value} {x : DataW H × List MemPlace} (h : DataW.trod enc Try.prog w base spare held fuel 3 cs = some x) : ∃ e : Int, cs = zcell e ∧ Num.wf e := by
  obtain ⟨k, e0, _, w0⟩ := DataW.trod_int Try.underlying3 h
  exact ⟨k, by rw [e0]; rfl, bounds_i64 w0⟩
theorem rdZ : Rdb 37 := ⟨by kernel_rfl, of_decide_eq_true (by kernel_rfl)⟩
end Go.Proofs.Ytjjekpkgfhcknaa

namespace Go.Proofs.Ytjjekpkgfhcknaa
open Go.RowKit
set_option linter.unusedVariables false
set_option linter.unusedSimpArgs false

theorem givenZ_new (w : World) (base : Nat) (hb : base ≤ w.heap.size) : GivenZ (w.alloc (.cells #[.slice none 0 0, .slice none 0 0, .slice none 0 0, .slice none 0 0, .slice none 0 0, .slice none 0 0, .slice none 0 0, .slice none 0 0, .slice none 0 0, .slice none 0 0] 44)) w.heap.size base [] :=
  ⟨.slice none 0 0, .slice none 0 0, [], heap_alloc_new w _, hb, Made.nil _ _ _, Made.nil _ _ _, fun b h => by simp [Value.ownBlock] at h, rfl, fun g hg => by simp at hg⟩
theorem GivenZ.get {w : World} {gb base : Nat} {G : List Gz} (h : GivenZ w gb base G) {g : Gz} (hg : g ∈ G) : Rd zcell 1 w w.heap.size g.A g.l := by
  obtain ⟨ve, vw, W, hgb, hbase, hve, hvw, hne, hWG, hall⟩ := h
  have hm := hall g (by simp [hg])
  have := Made.rd' (A := g.A) (n := g.l.length + 1) (c := g.c) encZ.len hm
  have h2 := this.take g.l.length
  simpa using h2
theorem GivenZ.below {w w' : World} {gb base : Nat} {G : List Gz} (h : GivenZ w gb base G) (hb : Below w.heap.size w w') : GivenZ w' gb base G := by
  obtain ⟨ve, vw, W, hgb, hbase, hve, hvw, hne, hWG, hall⟩ := h
  have hl := (Array.getElem?_eq_some_iff.1 hgb).1
  exact ⟨ve, vw, W, (hb.block _ hl).trans hgb, hbase, hve.below hb (fun b e => (hve.lt b e).2), hvw.below hb (fun b e => (hvw.lt b e).2), hne, hWG, fun g hg => (hall g hg).below hb (fun b e => ((hall g hg).lt b e).2)⟩
theorem Own18.keptZ {w W W' : World} {A : Option Addr} {l : List Call} {g c gb base : Nat} {G : List Gz} (h : Own18 w W A l g c) (hg : GivenZ W gb base G) (hk : Kept (GivenSZ W gb) W W') (hb : Below w.heap.size W W') : Own18 w W' A l g c := by
  refine ⟨h.below.trans hb, h.own.same fun b e => hk.block b (h.own.lt b e).2 fun q => ?_, h.list.below hb, h.room⟩
  obtain ⟨cs, h1⟩ := h.own.cell_block e
  rcases q with q | ⟨cs', q⟩
  · obtain ⟨ve, vw, W2, hgb, _⟩ := hg
    rw [← q, h1] at hgb
    cases hgb
  · rw [h1] at q
    cases q

set_option maxRecDepth 100000 in
set_option maxHeartbeats 8000000 in
theorem holds18_calls (A : Option Addr) (c n : Nat) (l : List Call) (hn : n = l.length) (Ao : Option Addr) (co no : Nat) (os : List Int) (hno : no = os.length) (hco : no ≤ co) (w : World) (hl : (l.length + 1) * 96 ≤ 140737488355328) (hlo : (os.length + 1) * 8 ≤ 140737488355328) (hv : ∀ x ∈ l, x.op.value.size ≤ 9223372036854775807) (ha : Rd Call.cells 10 w w.heap.size A l) (hao : Rd zcell 1 w w.heap.size Ao os) :
    Calls Try.prog 4 #[.slice A n c, .slice Ao no co] w fun e w' => e = .returned (.bool true) ∧ Below w.heap.size w w' := by
  subst hn hno
  have HA := Lib.hid ha
  have HAO := Lib.hid hao
  have HV := Lib.hid hv
  clear ha hao hv
  go_enter Try.func4, Try.ntmps4
  go_wp2_with fail
  obtain ⟨W1, hW1⟩ : ∃ W1, W1 = w.alloc (.cells #[.slice none 0 0, .slice none 0 0, .slice none 0 0, .slice none 0 0, .slice none 0 0, .slice none 0 0, .slice none 0 0, .slice none 0 0, .slice none 0 0, .slice none 0 0] 44) := ⟨_, rfl⟩
  have hb1 : Below w.heap.size w W1 := by rw [hW1]; exact (Below.refl _ _).alloc (Nat.le_refl _) _
  have hg1 : GivenZ W1 w.heap.size w.heap.size [] := by rw [hW1]; exact givenZ_new w _ (Nat.le_refl _)
  rw [← hW1]
  refine (lent_prog A c l.length l rfl W1 hl ((HA.out.below hb1).more hb1.size)).mono ?_
  rintro e w2 ⟨g, c2, rfl, hm2, hc2, hb2⟩
  have hown : Own18 w w2 A l g c2 := ⟨hb1.trans (hb2.mono hb1.size), hm2.base' hb1.size, (HA.out.below hb1).below (hb2.mono hb1.size), hc2⟩
  have HOWN := Lib.hid hown
  have HG2 := Lib.hid (hg1.below hb2)
  clear hb1 hm2 hc2 hb2 hW1 hown hg1
  dsimp only
  go_wp2_with fail
  refine (givenInts w.heap.size w.heap.size [] Ao co os w2 HG2.out (by simp) hlo (HAO.out.below HOWN.out.below)).mono ?_
  rintro e w3 ⟨A3, c3, rfl, hc3, hg3, hk3, hb3⟩
  have HO3 := Lib.hid (HOWN.out.keptZ HG2.out hk3 hb3)
  have HG3 := Lib.hid hg3
  clear hg3 hk3 hb3 hc3
  dsimp only
  go_wp2_with fail
  refine (holds_prog (some ⟨g, 0, none⟩) c2 l.length l rfl A3 c3 os.length os rfl w3 (by omega) (by omega) HV.out HO3.out.rdO (HG3.out.get (g := ⟨A3, c3, os⟩) (by simp))).mono ?_
  rintro e w4 ⟨rfl, hb4⟩
  have HO4 := Lib.hid (HO3.out.step hb4)
  have HG4 := Lib.hid (HG3.out.below hb4)
  clear hb4
  obtain ⟨r1, hr1⟩ : ∃ r, r = (holdsL l os).1 := ⟨_, rfl⟩
  obtain ⟨r2, hr2⟩ : ∃ r, r = (holdsL l os).2 := ⟨_, rfl⟩
  rw [← hr1, ← hr2]
  have HR1 := Lib.hid hr1
  have HR2 := Lib.hid hr2
  clear hr1 hr2
  dsimp only
  go_wp2_with fail
  refine (holds_ref A c l.length l rfl Ao co os.length os rfl w4 (by omega) (by omega) hco HV.out HO4.out.rdL ((HAO.out.below HO4.out.below).more HO4.out.below.size)).mono ?_
  rintro e w5 ⟨rfl, hb5⟩
  have HO5 := Lib.hid (HO4.out.step hb5)
  have HG5 := Lib.hid (HG4.out.below hb5)
  rw [← HR1.out, ← HR2.out]
  clear hb5 HR1 HR2
  dsimp only
  go_wp2_with fail
  refine (kept_prog g c2 c l.length A l rfl _ (by omega) HO5.out.room HO5.out.own HO5.out.rdL).mono ?_
  rintro e w6 ⟨rfl, q6, hw6⟩
  have hb6 : Below w5.heap.size w5 w6 := by rw [hw6]; exact below_drewN (Below.refl _ _) _
  have HO6 := Lib.hid (HO5.out.step hb6)
  have HG6 := Lib.hid (HG5.out.below hb6)
  clear hw6 hb6
  dsimp only
  go_wp2_with fail
  refine (givenIntactZ w.heap.size w.heap.size _ w6 HG6.out (by simp)).mono ?_
  rintro e w7 ⟨rfl, q7, hw7⟩
  have hb7 : Below w6.heap.size w6 w7 := by rw [hw7]; exact below_drewN (Below.refl _ _) _
  have HO7 := Lib.hid (HO6.out.step hb7)
  clear hw7 hb7
  dsimp only
  go_wp2_with fail
  refine (works18 _).mono ?_
  rintro e w8 ⟨rfl, hb8⟩
  have HO8 := Lib.hid (HO7.out.step hb8)
  clear hb8
  dsimp only
  go_wp2_with fail
  go_ret
  exact ⟨rfl, HO8.out.below⟩
theorem holds18_law (W : World) (A : Option Addr) (c n : Nat) (xs : List Call) (hn : n = xs.length) (_ : n ≤ c) (hrd : Rd Call.cells 10 W W.heap.size A xs) (hwf : ∀ o ∈ xs, o.wf) (hsz : xs.length * 96 ≤ 140737488351232)
    (Ao : Option Addr) (co no : Nat) (os : List Int) (hno : no = os.length) (hco : no ≤ co) (hrdo : Rd zcell 1 W W.heap.size Ao os) (_ : ∀ o ∈ os, Num.wf o) (hszo : os.length * 8 ≤ 140737488351232) :
    Calls Try.prog 4 #[.slice A n c, .slice Ao no co] W fun e w' => e = .returned (.bool true) ∧ Below W.heap.size W w' :=
  holds18_calls A c n xs hn Ao co no os hno hco W (by omega) (by omega) (fun o ho => (hwf o ho).op.value) hrd hrdo
end Go.Proofs.Ytjjekpkgfhcknaa
