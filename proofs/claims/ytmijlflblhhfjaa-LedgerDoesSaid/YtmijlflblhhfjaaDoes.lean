/- LedgerDoes answers true, whatever the arguments. Conditions: Go lengths. -/
import Derived.Test.YtmijlflblhhfjaaPlays
import Derived.Test.YtmijlflblhhfjaaClone
namespace Go.Proofs.Ytmijlflblhhfjaa
open Go.RowKit
set_option linter.unusedVariables false
set_option linter.unusedSimpArgs false

theorem Below.kept_new {S : Nat → Prop} {B : Nat} {w w1 w2 : World} (h : Below B w w1) (k : Kept S w1 w2) (hs : ∀ j, S j → B ≤ j) (hB : B ≤ w.heap.size) : Below B w w2 :=
  ⟨k.os.trans h.os, k.tape.trans h.tape, k.output.trans h.output, Nat.le_trans h.size k.size, fun j hj => (k.block j (by have := h.size; omega) (fun q => by have := hs j q; omega)).trans (h.block j hj)⟩

set_option maxRecDepth 100000 in
set_option maxHeartbeats 4000000 in
theorem does_calls (A1 A2 A3 : Option Addr) (c1 n1 c2 n2 c3 n3 : Nat) (xs ys zs : List Op) (hn1 : n1 = xs.length) (hn2 : n2 = ys.length) (hn3 : n3 = zs.length) (s : Int) (w : World)
    (hl1 : xs.length ≤ 9223372036854775806) (hl2 : ys.length ≤ 9223372036854775806) (hl3 : zs.length ≤ 9223372036854775806)
    (hv1 : ∀ o ∈ xs, o.value.size ≤ 9223372036854775807) (hv2 : ∀ o ∈ ys, o.value.size ≤ 9223372036854775807) (hv3 : ∀ o ∈ zs, o.value.size ≤ 9223372036854775807)
    (h1 : Rd Op.cells 3 w w.heap.size A1 xs) (h2 : Rd Op.cells 3 w w.heap.size A2 ys) (h3 : Rd Op.cells 3 w w.heap.size A3 zs) :
    Calls Try.prog 9 #[.slice A1 n1 c1, .slice A2 n2 c2, .slice A3 n3 c3, .int .i64 s] w fun e w' => e = .returned (.bool true) ∧ Below w.heap.size w w' := by
  have H1 := Lib.hid h1
  have H2 := Lib.hid h2
  have H3 := Lib.hid h3
  have HV1 := Lib.hid hv1
  have HV2 := Lib.hid hv2
  have HV3 := Lib.hid hv3
  have HN1 := Lib.hid hn1
  have HN2 := Lib.hid hn2
  have HN3 := Lib.hid hn3
  have HLL := Lib.hid (And.intro hl1 (And.intro hl2 hl3))
  clear h1 h2 h3 hv1 hv2 hv3 hn1 hn2 hn3 hl1 hl2 hl3
  go_enter Try.func9, Try.ntmps9
  go_wp2_with fail
  refine (newLedger w).mono ?_
  rintro e w1 ⟨b, mb, rfl, hl, hbb, hmb, hB⟩
  have HL1 := Lib.hid hl
  have HB1 := Lib.hid hB
  have HBB := Lib.hid (And.intro hbb hmb)
  clear hl hB hbb hmb
  dsimp only
  go_wp2_with fail
  refine (asks_true b mb none 0 0 [] s rfl w1 HL1.out Rd.nil).mono ?_
  rintro e w2 ⟨rfl, hb2⟩
  have HL2 := Lib.hid (HL1.out.below hb2)
  have HB2 := Lib.hid (HB1.out.trans (hb2.mono HB1.out.size))
  clear hb2 HL1 HB1
  dsimp only
  go_wp2_with fail
  refine (plays_true b mb none A1 0 0 c1 n1 [] xs s rfl HN1.out w2 HL2.out Rd.nil (fun ad e => by cases e) ((H1.out.below HB2.out).more HB2.out.size) (ApartL.of_rd H1.out HBB.out.1 HBB.out.2) HV1.out HLL.out.1).mono ?_
  rintro e w3 ⟨A', c', rfl, hl3, hr3, ha3, hk3⟩
  have HL3 := Lib.hid hl3
  have HR3 := Lib.hid hr3
  have HA3 := Lib.hid ha3
  have HB3 := Lib.hid (Below.kept_new HB2.out hk3 (fun j q => by have := HBB.out; rcases q with q | q <;> omega) (Nat.le_refl _))
  clear hl3 hr3 ha3 hk3 HB2 HL2
  generalize playC [] xs = cs at *
  dsimp only
  go_wp2_with fail
  refine (cloneLedger b mb cs w3 HL3.out).mono ?_
  rintro e w4 ⟨b2, mb2, rfl, hl4, hbb2, hmb2, hB4⟩
  have HBB2 := Lib.hid (And.intro hbb2 hmb2)
  have HL4 := Lib.hid hl4
  have HB4 := Lib.hid (HB3.out.trans (hB4.mono HB3.out.size))
  have HLB := Lib.hid (HL3.out.below hB4)
  have HR4 := Lib.hid ((HR3.out.below hB4).more hB4.size)
  have HRX := Lib.hid (HA3.out.new hbb2 hmb2)
  have HS34 := Lib.hid hB4.size
  have HLT := Lib.hid HL3.out.lt
  clear hl4 hbb2 hmb2 hB4 HL3 HR3
  dsimp only
  go_wp2_with fail
  refine (asks_true b2 mb2 A' c' cs.length cs s rfl w4 HL4.out HR4.out).mono ?_
  rintro e w5 ⟨rfl, hb5⟩
  have HL5 := Lib.hid (HL4.out.below hb5)
  have HB5 := Lib.hid (HB4.out.trans (hb5.mono HB4.out.size))
  have HLB5 := Lib.hid (HLB.out.below hb5)
  have HR5 := Lib.hid ((HR4.out.below hb5).more hb5.size)
  have HS45 := Lib.hid hb5.size
  clear hb5 HL4 HB4 HLB HR4
  dsimp only
  go_wp2_with fail
  refine (plays_true b2 mb2 A' A3 c' cs.length c3 n3 cs zs s rfl HN3.out w5 HL5.out HR5.out (HRX.out.more (by have := HS34.out; have := HS45.out; omega)) ((H3.out.below HB5.out).more HB5.out.size) (ApartL.of_rd H3.out (by have := HBB2.out; have := HB3.out.size; omega) (by have := HBB2.out; have := HB3.out.size; omega)) HV3.out HLL.out.2.2).mono ?_
  rintro e w6 ⟨A6, c6, rfl, hl6, hr6, ha6, hk6⟩
  have HB6 := Lib.hid (Below.kept_new HB5.out hk6 (fun j q => by have := HBB2.out; have := HB3.out.size; rcases q with q | q <;> omega) (Nat.le_refl _))
  have HL6 : Hid (Ledger w6 b mb cs) := HLB5.out.same (hk6.block b HLB5.out.lt.1 (fun q => by have := HBB2.out; have := HLT.out; rcases q with q | q <;> omega)) (hk6.block mb HLB5.out.lt.2 (fun q => by have := HBB2.out; have := HLT.out; rcases q with q | q <;> omega))
  have HR6 := Lib.hid (HR5.out.kept hk6 (fun ad e => HRX.out.of e))
  have HS56 := Lib.hid hk6.size
  clear hl6 hr6 ha6 hk6 HB5 HL5 HR5 HLB5
  dsimp only
  go_wp2_with fail
  refine (plays_true b mb A' A2 c' cs.length c2 n2 cs ys s rfl HN2.out w6 HL6.out HR6.out (HA3.out.more (by have := HS34.out; have := HS45.out; have := HS56.out; omega)) ((H2.out.below HB6.out).more HB6.out.size) (ApartL.of_rd H2.out HBB.out.1 HBB.out.2) HV2.out HLL.out.2.1).mono ?_
  rintro e w7 ⟨A7, c7, rfl, hl7, hr7, ha7, hk7⟩
  have HB7 := Lib.hid (Below.kept_new HB6.out hk7 (fun j q => by have := HBB.out; rcases q with q | q <;> omega) (Nat.le_refl _))
  clear hl7 hr7 ha7 hk7
  dsimp only
  go_wp2_with fail
  go_ret
  exact ⟨rfl, HB7.out⟩

theorem does_law (W : World) (A1 : Option Addr) (c1 n1 : Nat) (xs : List Op) (hn1 : n1 = xs.length) (_ : n1 ≤ c1) (h1 : Rd Op.cells 3 W W.heap.size A1 xs) (hw1 : ∀ o ∈ xs, o.wf) (hs1 : xs.length * 32 ≤ 140737488351232)
    (A2 : Option Addr) (c2 n2 : Nat) (ys : List Op) (hn2 : n2 = ys.length) (_ : n2 ≤ c2) (h2 : Rd Op.cells 3 W W.heap.size A2 ys) (hw2 : ∀ o ∈ ys, o.wf) (hs2 : ys.length * 32 ≤ 140737488351232)
    (A3 : Option Addr) (c3 n3 : Nat) (zs : List Op) (hn3 : n3 = zs.length) (_ : n3 ≤ c3) (h3 : Rd Op.cells 3 W W.heap.size A3 zs) (hw3 : ∀ o ∈ zs, o.wf) (hs3 : zs.length * 32 ≤ 140737488351232) (s : Int) (_ : I64 s) :
    Calls Try.prog 9 #[.slice A1 n1 c1, .slice A2 n2 c2, .slice A3 n3 c3, .int .i64 s] W fun e w' => e = .returned (.bool true) ∧ Below W.heap.size W w' :=
  does_calls A1 A2 A3 c1 n1 c2 n2 c3 n3 xs ys zs hn1 hn2 hn3 s W (by omega) (by omega) (by omega) (fun o ho => (hw1 o ho).value) (fun o ho => (hw2 o ho).value) (fun o ho => (hw3 o ho).value) h1 h2 h3
end Go.Proofs.Ytmijlflblhhfjaa
