/- LinearOrders answers true. Conditions: sizes within the form's own reach. -/
import Derived.Test.YtmfidhlhcochoaaOrderRef18
import Derived.Test.YtmfidhlhcochoaaChecks18
import Derived.Test.YtmfidhlhcochoaaSearches18
import Derived.Test.YtmfidhlhcochoaaIntact
namespace Go.Proofs.Ytmfidhlhcochoaa
open Go.RowKit
set_option linter.unusedVariables false
set_option linter.unusedSimpArgs false

theorem given_new (w : World) (base : Nat) (hb : base ≤ w.heap.size) : Given (w.alloc (.cells #[.slice none 0 0, .slice none 0 0, .slice none 0 0, .slice none 0 0, .slice none 0 0, .slice none 0 0, .slice none 0 0, .slice none 0 0, .slice none 0 0, .slice none 0 0] 78)) w.heap.size base [] :=
  ⟨.slice none 0 0, .slice none 0 0, [], heap_alloc_new w _, hb, Made.nil _ _ _, Made.nil _ _ _, fun b h => by simp [Value.ownBlock] at h, rfl, fun g hg => by simp at hg⟩
theorem Given.get {w : World} {gb base : Nat} {G : List Gv} (h : Given w gb base G) {g : Gv} (hg : g ∈ G) : Rd Entry.cells 5 w w.heap.size g.A g.l := by
  obtain ⟨ve, vw, W, hgb, hbase, hve, hvw, hne, hWG, hall⟩ := h
  have hm := hall g (by simp [hg])
  have := Made.rd' (A := g.A) (n := g.l.length + 1) (c := g.c) encEntry.len hm
  have h2 := this.take g.l.length
  simpa using h2
theorem Given.below {w w' : World} {gb base : Nat} {G : List Gv} (h : Given w gb base G) (hb : Below w.heap.size w w') : Given w' gb base G := by
  obtain ⟨ve, vw, W, hgb, hbase, hve, hvw, hne, hWG, hall⟩ := h
  have hl := (Array.getElem?_eq_some_iff.1 hgb).1
  exact ⟨ve, vw, W, (hb.block _ hl).trans hgb, hbase, hve.below hb (fun b e => (hve.lt b e).2), hvw.below hb (fun b e => (hvw.lt b e).2), hne, hWG, fun g hg => (hall g hg).below hb (fun b e => ((hall g hg).lt b e).2)⟩
theorem Own18.keptE {w W W' : World} {A : Option Addr} {l : List Call} {g c gb base : Nat} {G : List Gv} (h : Own18 w W A l g c) (hg : Given W gb base G) (hk : Kept (GivenS W gb) W W') (hb : Below w.heap.size W W') : Own18 w W' A l g c := by
  refine ⟨h.below.trans hb, h.own.same fun b e => hk.block b (h.own.lt b e).2 fun q => ?_, h.list.below hb, h.room⟩
  obtain ⟨cs, h1⟩ := h.own.cell_block e
  rcases q with q | ⟨cs', q⟩
  · obtain ⟨ve, vw, W2, hgb, _⟩ := hg
    rw [← q, h1] at hgb
    cases hgb
  · rw [h1] at q
    cases q
theorem ordersW_len {l : List Call} : ∀ (xs : List Entry) (S : List Bool) (out o : List Nat), ordersW l S out xs = some o → o.length ≤ out.length + xs.length := by
  intro xs
  induction xs with
  | nil => intro S out o h; simp only [ordersW] at h; split at h; cases h; cases h; simp
  | cons x xs ih =>
    intro S out o h
    simp only [ordersW] at h
    split at h
    · have := ih _ _ _ h; simp only [List.length_cons]; omega
    · split at h
      · cases h
      · have := ih _ _ _ h
        simp only [List.length_append, List.length_cons, List.length_nil] at this ⊢
        omega
theorem order_len (l : List Call) (seq : List Entry) : (orderL l seq).1.length ≤ seq.length := by
  unfold orderL
  split
  · exact Nat.zero_le _
  · split
    · rename_i o h
      have := ordersW_len _ _ _ _ h
      simpa using this
    · exact Nat.zero_le _

set_option maxRecDepth 100000 in
set_option maxHeartbeats 8000000 in
theorem orders18_calls (A : Option Addr) (c n : Nat) (l : List Call) (hn : n = l.length) (As : Option Addr) (cs ns : Nat) (seq : List Entry) (hns : ns = seq.length) (w : World) (hl : (l.length + 1) * 96 ≤ 140737488355328) (hls : (seq.length + 1) * 48 ≤ 140737488355328) (hv : ∀ x ∈ l, x.op.value.size ≤ 9223372036854775807) (ha : Rd Call.cells 10 w w.heap.size A l) (has : Rd Entry.cells 5 w w.heap.size As seq) :
    Calls Try.prog 8 #[.slice A n c, .slice As ns cs] w fun e w' => e = .returned (.bool true) ∧ Below w.heap.size w w' := by
  subst hn hns
  have HA := Lib.hid ha
  have HAS := Lib.hid has
  have HV := Lib.hid hv
  clear ha has hv
  go_enter Try.func8, Try.ntmps8
  go_wp2_with fail
  obtain ⟨W1, hW1⟩ : ∃ W1, W1 = w.alloc (.cells #[.slice none 0 0, .slice none 0 0, .slice none 0 0, .slice none 0 0, .slice none 0 0, .slice none 0 0, .slice none 0 0, .slice none 0 0, .slice none 0 0, .slice none 0 0] 78) := ⟨_, rfl⟩
  have hb1 : Below w.heap.size w W1 := by rw [hW1]; exact (Below.refl _ _).alloc (Nat.le_refl _) _
  have hg1 : Given W1 w.heap.size w.heap.size [] := by rw [hW1]; exact given_new w _ (Nat.le_refl _)
  rw [← hW1]
  refine (lent_prog A c l.length l rfl W1 hl ((HA.out.below hb1).more hb1.size)).mono ?_
  rintro e w2 ⟨g, c2, rfl, hm2, hc2, hb2⟩
  have hown : Own18 w w2 A l g c2 := ⟨hb1.trans (hb2.mono hb1.size), hm2.base' hb1.size, (HA.out.below hb1).below (hb2.mono hb1.size), hc2⟩
  have HOWN := Lib.hid hown
  have HG2 := Lib.hid (hg1.below hb2)
  clear hb1 hm2 hc2 hb2 hW1 hown hg1
  dsimp only
  go_wp2_with fail
  refine (givenEntries w.heap.size w.heap.size [] As cs seq w2 HG2.out (by simp) hls (HAS.out.below HOWN.out.below)).mono ?_
  rintro e w3 ⟨A3, c3, rfl, hc3, hg3, hk3, hb3⟩
  have HO3 := Lib.hid (HOWN.out.keptE HG2.out hk3 hb3)
  have HG3 := Lib.hid hg3
  clear hg3 hk3 hb3 hc3
  dsimp only
  go_wp2_with fail
  refine (order_prog (some ⟨g, 0, none⟩) c2 l.length l rfl A3 c3 seq.length seq rfl w3 (by omega) (by omega) HV.out HO3.out.rdO (HG3.out.get (g := ⟨A3, c3, seq⟩) (by simp))).mono ?_
  rintro e w4 ⟨A4, c4, rfl, hr4, hb4⟩
  have HO4 := Lib.hid (HO3.out.step hb4)
  have HG4 := Lib.hid (HG3.out.below hb4)
  have HR4 := Lib.hid hr4
  have hol := order_len l seq
  have HOL := Lib.hid hol
  have ho2 := order_ref A c l.length l rfl As cs seq.length seq rfl w4 (by omega) (by omega) HV.out HO4.out.rdL ((HAS.out.below HO4.out.below).more HO4.out.below.size)
  unfold OrderPost at ho2
  generalize orderL l seq = r at *
  obtain ⟨os, z⟩ := r
  have HO2 := Lib.hid ho2
  clear hb4 hr4 hol ho2
  dsimp only
  go_wp2_with fail
  refine (HO2.out).mono ?_
  rintro e w5 ⟨A5, c5, rfl, hr5, hb5⟩
  have HO5 := Lib.hid (HO4.out.step hb5)
  have HG5 := Lib.hid (HG4.out.below hb5)
  have HR5 := Lib.hid hr5
  have HR45 := Lib.hid ((HR4.out.below hb5).more hb5.size)
  have hpe : ∀ p q : Bool, (p == q) = decide (p = q) := fun p q => by cases p <;> cases q <;> rfl
  clear hb5 hr5 HO2
  dsimp only
  go_wp2_with fail
  refine (sameInts A4 A5 c4 c5 os.length os rfl w5 (by have := HOL.out; omega) HR45.out HR5.out).mono ?_
  rintro e w6 ⟨rfl, q6, hw6⟩
  have hb6 : Below w5.heap.size w5 w6 := by rw [hw6]; exact below_drewN (Below.refl _ _) _
  have HO6 := Lib.hid (HO5.out.step hb6)
  have HG6 := Lib.hid (HG5.out.below hb6)
  clear hw6 hb6
  dsimp only
  go_wp2_with fail
  refine (kept_prog g c2 c l.length A l rfl _ (by omega) HO6.out.room HO6.out.own HO6.out.rdL).mono ?_
  rintro e w7 ⟨rfl, q7, hw7⟩
  have hb7 : Below w6.heap.size w6 w7 := by rw [hw7]; exact below_drewN (Below.refl _ _) _
  have HO7 := Lib.hid (HO6.out.step hb7)
  have HG7 := Lib.hid (HG6.out.below hb7)
  clear hw7 hb7
  dsimp only
  go_wp2_with fail
  refine (givenIntact w.heap.size w.heap.size _ w7 HG7.out (by simp)).mono ?_
  rintro e w8 ⟨rfl, q8, hw8⟩
  have hb8 : Below w7.heap.size w7 w8 := by rw [hw8]; exact below_drewN (Below.refl _ _) _
  have HO8 := Lib.hid (HO7.out.step hb8)
  clear hw8 hb8
  dsimp only
  go_wp2_with fail
  refine (works18 _).mono ?_
  rintro e w9 ⟨rfl, hb9⟩
  have HO9 := Lib.hid (HO8.out.step hb9)
  clear hb9
  dsimp only
  go_wp2_with fail
  go_ret
  exact ⟨rfl, HO9.out.below⟩
theorem orders18_law (W : World) (A : Option Addr) (c n : Nat) (xs : List Call) (hn : n = xs.length) (_ : n ≤ c) (hrd : Rd Call.cells 10 W W.heap.size A xs) (hwf : ∀ o ∈ xs, o.wf) (hsz : xs.length * 96 ≤ 140737488351232)
    (As : Option Addr) (cs ns : Nat) (seq : List Entry) (hns : ns = seq.length) (_ : ns ≤ cs) (hrds : Rd Entry.cells 5 W W.heap.size As seq) (_ : ∀ o ∈ seq, o.wf) (hszs : seq.length * 48 ≤ 140737488351232) :
    Calls Try.prog 8 #[.slice A n c, .slice As ns cs] W fun e w' => e = .returned (.bool true) ∧ Below W.heap.size W w' :=
  orders18_calls A c n xs hn As cs ns seq hns W (by omega) (by omega) (fun o ho => (hwf o ho).op.value) hrd hrds
end Go.Proofs.Ytmfidhlhcochoaa
