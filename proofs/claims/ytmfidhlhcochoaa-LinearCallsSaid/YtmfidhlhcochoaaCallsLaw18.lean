/- LinearCalls answers true. Conditions: sizes within the form's own reach. -/
import Derived.Test.YtmfidhlhcochoaaCopySeen18
import Derived.Test.YtmfidhlhcochoaaSameSeen18
import Derived.Test.YtmfidhlhcochoaaCallsRef18
import Derived.Test.YtmfidhlhcochoaaLent
import Derived.Test.YtmfidhlhcochoaaWorks18
namespace Go.Proofs.Ytmfidhlhcochoaa
open Go.RowKit
set_option linter.unusedVariables false
set_option linter.unusedSimpArgs false

def Seen.strip (x : Seen) : Seen := { x with lA := none, lc := 0, bA := none, bc := 0 }
theorem callsW_strip : ∀ (rs : List Seen) (i : Nat) (l : List Call), callsW i l (rs.map Seen.strip) = callsW i l rs := by
  intro rs
  induction rs with
  | nil => intro i l; rfl
  | cons r rs ih =>
    intro i l
    simp only [List.map_cons, callsW, ih]
    rfl
theorem calls_plain {xs ys : List DSeen} (h : ys.map DSeen.plain = xs.map DSeen.plain) : callsL (ys.map DSeen.s) = callsL (xs.map DSeen.s) := by
  unfold callsL
  rw [← callsW_strip (ys.map DSeen.s), ← callsW_strip (xs.map DSeen.s)]
  have h2 := congrArg (List.map DSeen.s) h
  simp only [List.map_map] at h2 ⊢
  have e : (DSeen.s ∘ DSeen.plain) = (Seen.strip ∘ DSeen.s) := rfl
  rw [e] at h2
  rw [h2]
theorem plain_all {p : DSeen → Prop} (hp : ∀ x y : DSeen, x.plain = y.plain → p x → p y) {xs ys : List DSeen} (h : ys.map DSeen.plain = xs.map DSeen.plain) (hx : ∀ x ∈ xs, p x) : ∀ y ∈ ys, p y := fun y hy => by
  have h1 : y.plain ∈ xs.map DSeen.plain := by rw [← h]; exact List.mem_map_of_mem hy
  obtain ⟨x, hx1, hx2⟩ := List.mem_map.1 h1
  exact hp x y hx2 (hx x hx1)
theorem Rd.seen {w : World} {B : Nat} {A : Option Addr} {rows : List DSeen} (h : Rd DSeen.cells 19 w B A rows) : Rd Seen.cells 19 w B A (rows.map DSeen.s) := fun i x hx => by
  rw [List.getElem?_map] at hx
  cases hy : rows[i]? with
  | none => rw [hy] at hx; cases hx
  | some y =>
    rw [hy] at hx
    simp at hx
    subst hx
    exact h i y hy

set_option maxRecDepth 100000 in
set_option maxHeartbeats 8000000 in
theorem calls18_calls (A : Option Addr) (c n : Nat) (rows : List DSeen) (hn : n = rows.length) (w : World) (hl : (rows.length + 1) * 200 ≤ 140737488355328) (hle : ∀ x ∈ rows, x.log.length * 48 ≤ 140737488355328) (hlb : ∀ x ∈ rows, x.bytes.length ≤ 140737488355328) (hv : ∀ x ∈ rows, x.s.ent.op.value.size ≤ 9223372036854775807)
    (ha : Rd DSeen.cells 19 w w.heap.size A rows) (hd : ∀ x ∈ rows, NestD w w.heap.size x) :
    Calls Try.prog 7 #[.slice A n c] w fun e w' => e = .returned (.bool true) ∧ Below w.heap.size w w' := by
  subst hn
  have HA := Lib.hid ha
  have HV := Lib.hid hv
  have HD := Lib.hid hd
  have HLE := Lib.hid hle
  have HLB := Lib.hid hlb
  clear ha hv hd hle hlb
  go_enter Try.func7, Try.ntmps7
  go_wp2_with fail
  refine (copySeen A c rows.length rows rfl w hl HLE.out HLB.out HA.out HD.out).mono ?_
  rintro e w1 ⟨A1, c1, out, rfl, hol, hpl, hm1, hi1, hb1⟩
  have HB1 := Lib.hid hb1
  have HOL := Lib.hid hol
  have HPL := Lib.hid hpl
  have HR1 := Lib.hid (hm1.rd' encD.len)
  have HN1 : Hid (∀ x ∈ out, NestD w1 w1.heap.size x) := Lib.hid fun x hx => (hi1 x hx).nest
  have HV1 : Hid (∀ x ∈ out.map DSeen.s, x.ent.op.value.size ≤ 9223372036854775807) := Lib.hid fun x hx => by
    obtain ⟨y, hy, rfl⟩ := List.mem_map.1 hx
    exact plain_all (p := fun x => x.s.ent.op.value.size ≤ 9223372036854775807) (fun x y e h => by
      have : x.s.ent = y.s.ent := congrArg (fun z => z.s.ent) e
      show y.s.ent.op.value.size ≤ _
      rw [← this]; exact h) hpl HV.out y hy
  have HCL := Lib.hid (calls_plain hpl)
  have hbd := calls_len (rows.map DSeen.s) 0 []
  have HBD : Hid ((callsL (rows.map DSeen.s)).1.length ≤ rows.length) := Lib.hid (by simpa [callsL] using hbd)
  clear hb1 hol hpl hm1 hi1 hbd
  dsimp only
  go_wp2_with fail
  refine (calls_prog A1 c1 rows.length (out.map DSeen.s) (by rw [List.length_map]; exact HOL.out) w1 (by rw [List.length_map, ← HOL.out]; omega) HV1.out HR1.out.seen).mono ?_
  rintro e w2 ⟨A2, c2, rfl, hr2, hb2⟩
  rw [HCL.out] at hr2 ⊢
  have HB2 := Lib.hid (HB1.out.trans (hb2.mono HB1.out.size))
  have HR2 := Lib.hid hr2
  have HO2 := Lib.hid ((HR1.out.below hb2).more hb2.size)
  have HN2 : Hid (∀ x ∈ out, NestD w2 w2.heap.size x) := Lib.hid fun x hx => ((HN1.out x hx).below hb2).more hb2.size
  have HA2 := Lib.hid ((HA.out.below HB2.out).more HB2.out.size)
  clear hr2 hb2
  obtain ⟨res, hres⟩ : ∃ res, res = callsL (rows.map DSeen.s) := ⟨_, rfl⟩
  rw [← hres] at HR2 HBD ⊢
  have HRES := Lib.hid hres
  clear hres
  dsimp only
  go_wp2_with fail
  refine (calls_ref A c rows.length (rows.map DSeen.s) (by rw [List.length_map]) w2 (by rw [List.length_map]; omega) (fun x hx => by obtain ⟨y, hy, rfl⟩ := List.mem_map.1 hx; exact HV.out y hy) HA2.out.seen).mono ?_
  rintro e w3 ⟨A3, c3, rfl, hr3, hb3⟩
  rw [← HRES.out] at hr3 ⊢
  have HB3 := Lib.hid (HB2.out.trans (hb3.mono HB2.out.size))
  have HR3 := Lib.hid hr3
  have HQ3 := Lib.hid ((HR2.out.below hb3).more hb3.size)
  have HO3 := Lib.hid ((HO2.out.below hb3).more hb3.size)
  have HN3 : Hid (∀ x ∈ out, NestD w3 w3.heap.size x) := Lib.hid fun x hx => ((HN2.out x hx).below hb3).more hb3.size
  have HA3 := Lib.hid ((HA.out.below HB3.out).more HB3.out.size)
  have HD3 : Hid (∀ x ∈ rows, NestD w3 w3.heap.size x) := Lib.hid fun x hx => ((HD.out x hx).below HB3.out).more HB3.out.size
  clear hr3 hb3
  dsimp only
  go_wp2_with fail
  refine (sameCalls A2 A3 c2 c3 res.1.length res.1 rfl w3 (by have := HBD.out; omega) HQ3.out HR3.out).mono ?_
  rintro e w4 ⟨rfl, q, rfl⟩
  dsimp only
  go_wp2_with fail
  refine (sameSeen A1 A c1 c rows.length out rows HOL.out HPL.out.symm (w3.drewN q) (by rw [← HOL.out]; exact hl) (plain_all (p := fun x => x.log.length * 48 ≤ 140737488355328) (fun x y e h => by
    have : x.log = y.log := congrArg (fun z => z.log) e
    show y.log.length * 48 ≤ _
    rw [← this]; exact h) HPL.out HLE.out) ((HO3.out.drewN q).more (by simp)) ((HA3.out.drewN q).more (by simp)) (fun x hx => ((HN3.out x hx).below (below_drewN (Below.refl _ _) q)).more (by simp)) (fun x hx => ((HD3.out x hx).below (below_drewN (Below.refl _ _) q)).more (by simp))).mono ?_
  rintro e w5 ⟨rfl, hb5⟩
  have HB5 := Lib.hid ((below_drewN HB3.out q).trans (hb5.mono (by simpa using HB3.out.size)))
  clear hb5
  dsimp only
  go_wp2_with fail
  refine (works18 _).mono ?_
  rintro e w6 ⟨rfl, hb6⟩
  have HB6 := Lib.hid (HB5.out.trans (hb6.mono HB5.out.size))
  clear hb6
  dsimp only
  go_wp2_with fail
  go_ret
  exact ⟨rfl, HB6.out⟩
end Go.Proofs.Ytmfidhlhcochoaa
