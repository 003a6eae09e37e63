/- linear.Search answers the least witness. Conditions: Go lengths. -/
import Derived.Test.YtmfidhlhcochoaaNext
import Derived.Test.YtmfidhlhcochoaaLinCheck
namespace Go.Proofs.Ytmfidhlhcochoaa
open Go.RowKit
set_option linter.unusedVariables false
set_option linter.unusedSimpArgs false

def searchL (l : List Call) : List Nat × Bool × Int :=
  if checkL l ≠ 0 then ([], false, checkL l) else if 8 < l.length then ([], false, 181) else match best l with
    | some ks => (ks, true, 0)
    | none => ([], false, 0)
def SearchPost (l : List Call) (w : World) (e : Ending) (w' : World) : Prop :=
  ∃ v, e = .returned (.tuple #[v, .bool (searchL l).2.1, .int .i64 (searchL l).2.2]) ∧ Made icell 1 3 w.heap.size w' v (searchL l).1 ∧ Below w.heap.size w w'
theorem infoBool0 : (Try.prog.info? 4).map (fun i => (i.zero, i.size, i.bytes)) = some (some (.bool false), 1, 1) := by kernel_rfl
theorem infoBool : ∃ i, Try.prog.info? 4 = some i ∧ i.zero = some (.bool false) ∧ i.size = 1 ∧ i.bytes = 1 := by
  have h := infoBool0
  cases hq : Try.prog.info? 4 with
  | none => rw [hq] at h; cases h
  | some i =>
    rw [hq] at h
    simp only [Option.map_some, Option.some.injEq, Prod.mk.injEq] at h
    exact ⟨i, rfl, h.1, h.2.1, h.2.2⟩
theorem marks_free (n : Nat) : Array.replicate n (Value.bool false) = ((List.replicate n false).map Value.bool).toArray := by
  apply Array.ext'
  simp
theorem marks_list (n : Nat) : madeCells (Value.bool false).cells (n * 1) = Array.replicate n (Value.bool false) := by
  apply Array.ext'
  rw [Nat.mul_one, show (Value.bool false).cells = #[.bool false] from rfl, toList_madeCells_one]
  simp
/-- Marks of the call's own, none set. -/
theorem make_marks (w : World) (n : Nat) (hn : n ≤ 9223372036854775806) (hb2 : n ≤ 281474976710656) : (Instr.makeSlice 91 (.int .i64 (n : Nat)) (.int .i64 (n : Nat))).run Try.prog w = .ok (.slice (some ⟨w.heap.size, 0, none⟩) n n) (w.alloc (.cells (Array.replicate n (Value.bool false)) 4)) := by
  obtain ⟨i, hi, hz, hs, hb⟩ := infoBool
  have hr := run_make (P := Try.prog) w 91 4 i (.bool false) Try.underlying91 hi hz .i64 .i64 n n (by omega) (Int.le_refl _) (by rw [hb]; omega) (by omega)
  simp only [Int.toNat_natCast] at hr
  rw [hs, marks_list] at hr
  exact hr

theorem six_blocks (w : World) (o0 o1 o2 o3 o4 o5 : Obj) {W : World} (hW : W = (((((w.alloc o0).alloc o1).alloc o2).alloc o3).alloc o4).alloc o5) :
    W.heap[w.heap.size]? = some o0 ∧ W.heap[w.heap.size + 1]? = some o1 ∧ W.heap[w.heap.size + 2]? = some o2 ∧ W.heap[w.heap.size + 3]? = some o3 ∧ W.heap[w.heap.size + 4]? = some o4 ∧ W.heap[w.heap.size + 5]? = some o5 ∧ W.heap.size = w.heap.size + 6 ∧ Below w.heap.size w W := by
  subst hW
  have old : ∀ (v : World) (o : Obj) (k : Nat), k < v.heap.size → (v.alloc o).heap[k]? = v.heap[k]? := fun v o k h => Below.heap_alloc v o k h
  have new : ∀ (v : World) (o : Obj), (v.alloc o).heap[v.heap.size]? = some o := fun v o => World.alloc_heap_new v o
  have n1 := new (w.alloc o0) o1
  have n2 := new ((w.alloc o0).alloc o1) o2
  have n3 := new (((w.alloc o0).alloc o1).alloc o2) o3
  have n4 := new ((((w.alloc o0).alloc o1).alloc o2).alloc o3) o4
  have n5 := new (((((w.alloc o0).alloc o1).alloc o2).alloc o3).alloc o4) o5
  simp only [World.size_alloc] at n1 n2 n3 n4 n5
  refine ⟨?_, ?_, ?_, ?_, ?_, n5, by simp, ?_⟩
  · rw [old _ _ _ (by simp only [World.size_alloc]; omega), old _ _ _ (by simp only [World.size_alloc]; omega), old _ _ _ (by simp only [World.size_alloc]; omega), old _ _ _ (by simp only [World.size_alloc]; omega), old _ _ _ (by simp)]; exact new w o0
  · rw [old _ _ _ (by simp only [World.size_alloc]; omega), old _ _ _ (by simp only [World.size_alloc]; omega), old _ _ _ (by simp only [World.size_alloc]; omega), old _ _ _ (by simp)]; exact n1
  · rw [old _ _ _ (by simp only [World.size_alloc]; omega), old _ _ _ (by simp only [World.size_alloc]; omega), old _ _ _ (by simp)]; exact n2
  · rw [old _ _ _ (by simp only [World.size_alloc]; omega), old _ _ _ (by simp)]; exact n3
  · rw [old _ _ _ (by simp)]; exact n4
  · exact ((((((Below.refl _ w).alloc (Nat.le_refl _) _).alloc (by simp) _).alloc (by simp only [World.size_alloc]; omega) _).alloc (by simp only [World.size_alloc]; omega) _).alloc (by simp only [World.size_alloc]; omega) _).alloc (by simp only [World.size_alloc]; omega) _

set_option maxRecDepth 100000 in
set_option maxHeartbeats 4000000 in
theorem search_prog (A : Option Addr) (c n : Nat) (l : List Call) (hn : n = l.length) (w : World) (hl : l.length ≤ 9223372036854775806) (hv : ∀ x ∈ l, x.op.value.size ≤ 9223372036854775807) (ha : Rd Call.cells 10 w w.heap.size A l) :
    Calls Try.prog 11 #[.slice A n c] w (SearchPost l w) := by
  subst hn
  obtain ⟨T0, hT0⟩ : ∃ T0 : Ending → World → Prop, T0 = SearchPost l w := ⟨_, rfl⟩
  rw [← hT0]
  have HT0 := Lib.hid hT0
  have HA := Lib.hid ha
  have HV := Lib.hid hv
  clear ha hv hT0
  have hmm := @run_makeMap Try.prog
  go_enter Try.func11, Try.ntmps11
  go_wp2_with fail
  obtain ⟨W0, hW0⟩ : ∃ W0, W0 = w.alloc (.cells #[.slice A l.length c] 22) := ⟨_, rfl⟩
  have hb0 : Below w.heap.size w W0 := by rw [hW0]; exact (Below.refl _ _).alloc (Nat.le_refl _) _
  have hr0 : W0.heap[w.heap.size]? = some (.cells #[.slice A l.length c] 22 (0, 0)) := by rw [hW0]; exact heap_alloc_new _ _
  rw [← hW0]
  refine (linCheck A c l.length l rfl W0 hl HV.out ((HA.out.below hb0).more hb0.size)).mono ?_
  rintro e w1 ⟨rfl, hb1⟩
  have hr1 := (hb1.block _ (Array.getElem?_eq_some_iff.1 hr0).1).trans hr0
  have m0 : w1.cell? ⟨w.heap.size, 0, none⟩ = some (.slice A l.length c) := cell_of_row _ _ 0 _ _ _ hr1
  have HB1 := Lib.hid (hb0.trans (hb1.mono hb0.size))
  have HR1 := Lib.hid hr1
  have hsz1 := hb1.size
  have hz0 : W0.heap.size = w.heap.size + 1 := by rw [hW0]; simp
  clear hb0 hr0 hb1 hr1 hW0
  by_cases hck : checkL l = 0
  · have hck2 : (checkL l == 0) = true := by simpa using hck
    have hck3 : (checkL l != 0) = false := by simpa using hck
    rw [hck]
    by_cases h8 : 8 < l.length
    · have h8' : decide (8 < l.length) = true := decide_eq_true h8
      have h8i : decide ((8:Int) < (l.length : Int)) = true := decide_eq_true (by omega)
      have hs : searchL l = ([], false, 181) := by simp [searchL, hck, h8]
      dsimp only
      go_wp2_with fail
      go_ret3
      rw [HT0.out]
      exact ⟨.slice none 0 0, by rw [hs]; rfl, by rw [hs]; exact Made.nil _ _ _, HB1.out⟩
    · have h8' : decide (8 < l.length) = false := decide_eq_false h8
      have h8i : decide ((8:Int) < (l.length : Int)) = false := decide_eq_false (by omega)
      have hmk := make_marks w1 l.length (by omega) (by omega)
      obtain ⟨W6, hW6⟩ : ∃ W6, W6 = (((((w1.alloc (.cells (Array.replicate l.length (Value.bool false)) 4)).alloc (.cells #[.slice (some ⟨w1.heap.size, 0, none⟩) l.length l.length] 91)).alloc (.map #[] 0)).alloc (.cells #[.map (some (w1.heap.size + 1 + 1))] 92)).alloc (.cells #[.slice none 0 0] 23)).alloc (.cells #[.nilFunc] 93) := ⟨_, rfl⟩
      have hz6 : W6.heap.size = w1.heap.size + 6 := by rw [hW6]; simp
      have hr6 : W6.heap[w1.heap.size + 1 + 1 + 1 + 1 + 1]? = some (.cells #[.nilFunc] 93 (0, 0)) := by
        rw [hW6]
        have := heap_alloc_new ((((((w1.alloc (.cells (Array.replicate l.length (Value.bool false)) 4)).alloc (.cells #[.slice (some ⟨w1.heap.size, 0, none⟩) l.length l.length] 91)).alloc (.map #[] 0)).alloc (.cells #[.map (some (w1.heap.size + 1 + 1))] 92)).alloc (.cells #[.slice none 0 0] 23))) (.cells #[.nilFunc] 93)
        simpa using this
      have x6 : W6.cell? ⟨w1.heap.size + 1 + 1 + 1 + 1 + 1, 0, none⟩ = some .nilFunc := cell_of_row _ _ 0 _ _ _ hr6
      have f6 : W6.frozen? ⟨w1.heap.size + 1 + 1 + 1 + 1 + 1, 0, none⟩ = false := frozen_of_row _ _ _ _ _ hr6
      have hstore : (store ⟨w1.heap.size + 1 + 1 + 1 + 1 + 1, 0, none⟩ (.func (.func 40) #[] #[.pointer (some ⟨w.heap.size, 0, none⟩), .pointer (some ⟨w1.heap.size + 1, 0, none⟩), .pointer (some ⟨w1.heap.size + 1 + 1 + 1, 0, none⟩), .pointer (some ⟨w1.heap.size + 1 + 1 + 1 + 1, 0, none⟩), .pointer (some ⟨w1.heap.size + 1 + 1 + 1 + 1 + 1, 0, none⟩)])).run Try.prog W6 = .ok () (W6.setCell ⟨w1.heap.size + 1 + 1 + 1 + 1 + 1, 0, none⟩ (srchFn w.heap.size w1.heap.size)) := by
        rw [run_store _ _ _ _ _ rfl, x6]
        simp only [f6]
        rfl
      have HW6 := Lib.hid hW6
      have HZ6 := Lib.hid hz6
      have HR6 := Lib.hid hr6
      rw [hW6] at hstore
      clear hW6 hz6 hr6 x6 f6
      dsimp only
      go_wp2_with (first | (rw [hmk]) | (rw [hstore]) | fail)
      obtain ⟨W7, hW7⟩ : ∃ W7, W7 = (((((w1.alloc (.cells (Array.replicate l.length (Value.bool false)) 4)).alloc (.cells #[.slice (some ⟨w1.heap.size, 0, none⟩) l.length l.length] 91)).alloc (.map #[] 0)).alloc (.cells #[.map (some (w1.heap.size + 1 + 1))] 92)).alloc (.cells #[.slice none 0 0] 23)).alloc (.cells #[srchFn w.heap.size w1.heap.size] 93) := ⟨_, rfl⟩
      obtain ⟨s0, s1, s2, s3, s4, s5, hz7, hb7⟩ := six_blocks w1 _ _ _ _ _ _ hW7
      have hst7 : SrchSt W7 l A c w.heap.size w.heap.size w1.heap.size (allFree l) (.slice none 0 0) [] [] := by
        refine ⟨by omega, Nat.le_refl _, (hb7.block _ (by omega)).trans HR1.out, ?_, s1, ⟨#[], 0, s2, rfl⟩, s3, s4, s5, ((HA.out.below HB1.out).below (hb7.mono (by omega))), Made.nil _ _ _, by simp [allFree], Vain.nil l⟩
        rw [s0, marks_free]
        rfl
      have HST7 := Lib.hid hst7
      have HB7 := Lib.hid hb7
      have HZ7 := Lib.hid hz7
      rw [← hW7]
      clear s0 s1 s2 s3 s4 s5 hz7 hb7 hst7 hW7 hstore hmk m0 hmm
      obtain ⟨m0, m1, m2, m3, m4, n3⟩ := HST7.out.cells
      simp only [srchFn] at m4
      have HNX : Hid (∀ (b mb : Nat) (W : World), SrchSt W l A c w.heap.size w.heap.size w1.heap.size (allFree l) (.slice none 0 0) [] [] → Ledger W b mb [] → w1.heap.size + 6 ≤ b → w1.heap.size + 6 ≤ mb →
          Calls Try.prog 40 #[.int .i64 0, .pointer (some ⟨b, 0, none⟩), .pointer (some ⟨w.heap.size, 0, none⟩), .pointer (some ⟨w1.heap.size + 1, 0, none⟩), .pointer (some ⟨w1.heap.size + 3, 0, none⟩), .pointer (some ⟨w1.heap.size + 4, 0, none⟩), .pointer (some ⟨w1.heap.size + 5, 0, none⟩)] W (NextPost (l.length + 1) l (allFree l) [] (.slice none 0 0) [] A c w.heap.size w.heap.size w1.heap.size W)) := fun b mb W h1 h2 h3 h4 => by
        have h := next_prog l A c w.heap.size w.heap.size w1.heap.size (by omega) HV.out (l.length + 1) (allFree l) (.slice none 0 0) [] [] b mb [] W (by rw [falses_free]; omega) (by rw [falses_free]; simp; omega) h1 h2 h3 h4 (fun j e => by cases e)
        rw [show bitsN (allFree l) = 0 from bitsN_free _] at h
        exact h
      have KEY : Hid (∀ W, Below W7.heap.size W7 W → W.cell? ⟨w1.heap.size + 5, 0, none⟩ = some (.func (.func 40) #[] #[.pointer (some ⟨w.heap.size, 0, none⟩), .pointer (some ⟨w1.heap.size + 1, 0, none⟩), .pointer (some ⟨w1.heap.size + 3, 0, none⟩), .pointer (some ⟨w1.heap.size + 4, 0, none⟩), .pointer (some ⟨w1.heap.size + 5, 0, none⟩)])) := fun W hW => (hW.cell (p := ⟨w1.heap.size + 5, 0, none⟩) (by show w1.heap.size + 5 < W7.heap.size; have := HZ7.out; omega)).trans m4
      go_region_held3 (fun W => W.cell? ⟨w1.heap.size + 5, 0, none⟩ = some (.func (.func 40) #[] #[.pointer (some ⟨w.heap.size, 0, none⟩), .pointer (some ⟨w1.heap.size + 1, 0, none⟩), .pointer (some ⟨w1.heap.size + 3, 0, none⟩), .pointer (some ⟨w1.heap.size + 4, 0, none⟩), .pointer (some ⟨w1.heap.size + 5, 0, none⟩)]))
        (first
          | exact HST9.out.cells.m4
          | exact KEY.out _ HB8.out
          | go_keep)
        (first
          | (go_at_call 46
             refine (newLedger _).mono ?_
             rintro e w8 ⟨b, mb, rfl, hl8, hb8, hmb8, hB8⟩
             have hB8' : Below W7.heap.size W7 w8 := ⟨hB8.os, hB8.tape, hB8.output, hB8.size, hB8.block⟩
             have HB8 := Lib.hid hB8'
             have HL8 := Lib.hid hl8
             have HST8 := Lib.hid (HST7.out.below hB8')
             have HBB : Hid (w1.heap.size + 6 ≤ b) := by show _ ≤ _; rw [← HZ7.out]; exact hb8
             have HMB : Hid (w1.heap.size + 6 ≤ mb) := by show _ ≤ _; rw [← HZ7.out]; exact hmb8
             clear hl8 hb8 hmb8 hB8 hB8')
          | (go_at_call 40
             refine (HNX.out b mb _ HST8.out HL8.out HBB.out HMB.out).mono ?_
             rintro e w9 ⟨v, S2, vo2, ord2, ps2, rfl, hst9, hk9, hown9, hcase⟩
             have HST9 := Lib.hid hst9
             have HK9 := Lib.hid hk9
             have HCASE := Lib.hid hcase
             clear hst9 hk9 hown9 hcase))
      have hz7 := HZ7.out
      have hbw : Below w.heap.size w W7 := HB1.out.trans (HB7.out.mono HB1.out.size)
      have hk79 : Below w.heap.size W7 w9 := by
        have h1 := HB1.out.size
        exact (HB8.out.mono (by omega)).trans (HK9.out.below (by have := HB8.out.size; omega) fun j e => by
          rcases e with e | e | e | e
          · omega
          · omega
          · omega
          · cases e)
      have HW9 := Lib.hid (hbw.trans hk79)
      have hmo : Made icell 1 3 w.heap.size w9 vo2 ord2 := HST9.out.ho.base' (by have := HB1.out.size; omega)
      have HMO := Lib.hid hmo
      have c9 := HST9.out.cells.m3
      have hsr : searchL l = (match best l with | some ks => (ks, true, (0:Int)) | none => ([], false, 0)) := by simp [searchL, hck, h8]
      have HSR := Lib.hid hsr
      clear hbw hk79 hmo hsr KEY HNX
      rcases HCASE.out with ⟨rfl, ks, hks, hord⟩ | ⟨rfl, hno, _, _⟩
      · have hord' : ord2 = ks := by simpa using hord
        clear hord
        rw [← hord'] at hks
        have hs : searchL l = (ord2, true, 0) := by rw [HSR.out]; rw [show best l = some ord2 from hks]
        clear hord'
        clear hks
        go_wp2_with fail
        go_ret3
        rw [HT0.out]
        exact ⟨vo2, by rw [hs]; rfl, by rw [hs]; exact HMO.out, HW9.out⟩
      · have hs : searchL l = ([], false, 0) := by rw [HSR.out]; rw [show best l = none from hno]
        clear hno
        go_wp2_with fail
        go_ret3
        rw [HT0.out]
        exact ⟨.slice none 0 0, by rw [hs]; rfl, by rw [hs]; exact Made.nil _ _ _, HW9.out⟩
  · have hck2 : (checkL l == 0) = false := by simpa using hck
    have hck3 : (checkL l != 0) = true := by simpa using hck
    have hs : searchL l = ([], false, checkL l) := by simp [searchL, hck]
    dsimp only
    go_wp2_with fail
    go_ret3
    rw [HT0.out]
    exact ⟨.slice none 0 0, by rw [hs]; rfl, by rw [hs]; exact Made.nil _ _ _, HB1.out⟩
end Go.Proofs.Ytmfidhlhcochoaa
