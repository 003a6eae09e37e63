/- LedgerFroms answers true, whatever the arguments. Conditions: sizes within the form's own reach. -/
import Derived.Test.YtmijlflblhhfjaaPlays
import Derived.Test.YtmijlflblhhfjaaFrom
import Derived.Test.YtmijlflblhhfjaaStore
namespace Go.Proofs.Ytmijlflblhhfjaa
open Go.RowKit
set_option linter.unusedVariables false
set_option linter.unusedSimpArgs false

def cellMark : Cell := ⟨-7, ⟨#[109, 97, 114, 107]⟩⟩
def spoilt : Cell := ⟨3, ⟨#[115, 112, 111, 105, 108, 116]⟩⟩
theorem Rd.begin {α : Type} {enc : α → List Value} {k : Nat} {w : World} {B : Nat} {A : Option Addr} {xs : List α} {m : α} (h : Rd enc k w B A (xs ++ [m])) : Rd enc k w B A xs := by
  have := h.take xs.length
  rwa [List.take_left] at this

theorem Below.kept_newF {S : Nat → Prop} {B : Nat} {w w1 w2 : World} (h : Below B w w1) (k : Kept S w1 w2) (hs : ∀ j, S j → B ≤ j) (hB : B ≤ w.heap.size) : Below B w w2 :=
  ⟨k.os.trans h.os, k.tape.trans h.tape, k.output.trans h.output, Nat.le_trans h.size k.size, fun j hj => (k.block j (by have := h.size; omega) (fun q => by have := hs j q; omega)).trans (h.block j hj)⟩
set_option maxRecDepth 100000 in
set_option maxHeartbeats 4000000 in
theorem froms_calls (A A2 : Option Addr) (c n c2 n2 : Nat) (cs : List Cell) (os : List Op) (hn : n = cs.length) (hn2 : n2 = os.length) (s : Int) (w : World) (hb : (cs.length + 1) * 24 ≤ 140737488355328) (hl2 : os.length ≤ 9223372036854775806) (hv : ∀ o ∈ os, o.value.size ≤ 9223372036854775807)
    (ha : Rd Cell.cells 2 w w.heap.size A cs) (ho : Rd Op.cells 3 w w.heap.size A2 os) :
    Calls Try.prog 8 #[.slice A n c, .slice A2 n2 c2, .int .i64 s] w fun e w' => e = .returned (.bool true) ∧ Below w.heap.size w w' := by
  subst hn
  have HA := Lib.hid ha
  have HO := Lib.hid ho
  have HV := Lib.hid hv
  have HN2 := Lib.hid hn2
  have HL2 := Lib.hid hl2
  clear hv ho hn2 hl2
  have hlm : cs.length + 1 ≤ maxLen := by unfold maxLen; omega
  go_enter Try.func8, Try.ntmps8
  go_wp2_with (first
    | (at_builtin; refine wpList_app (v := .slice none 0 0) (xs := []) rowCell encCell rfl (.tmp 14) (.tmp 15) rfl w.heap.size rfl (Made.nil _ _ _) rfl rfl ha (by simp only [List.length_nil]; omega) (by simp only [List.length_nil]; unfold maxLen at *; omega) (Nat.le_refl _) ?_
       intro v1 w1 hm1 hg1 hat1
       simp only [List.nil_append] at hm1
       obtain ⟨A1, c1, hv1, hc1⟩ := hm1.form
       subst hv1
       have hm1' := Lib.hid (hm1.alloc (.cells #[.int .i64 (-7), .string ⟨#[109, 97, 114, 107]⟩] 29))
       have hr1' := Lib.hid (rd_one encCell w1 cellMark #[.int .i64 (-7), .string ⟨#[109, 97, 114, 107]⟩] rfl 29)
       have hb1 := Lib.hid ((Below.refl w.heap.size w).grown hg1 (Nat.le_refl _) (by simp [Value.ownBlock]))
       clear hm1 hg1 hat1 ha)
    | (at_builtin; refine wpList_app (v := .slice A1 cs.length c1) (xs := cs) (ys := [cellMark]) rowCell encCell rfl (.tmp 17) (.tmp 19) rfl w.heap.size rfl hm1'.out rfl rfl hr1'.out (by simp only [List.length_singleton]; omega) (by simp only [List.length_singleton]; omega) (by have := hb1.out.size; simp; omega) ?_
       intro v2 w2 hm2 hg2 hat2
       obtain ⟨A3, c3, hv2, hc3⟩ := hm2.form
       subst hv2
       have hlen : (cs ++ [cellMark]).length = cs.length + 1 := by simp
       have hb2 := Lib.hid ((hb1.out.alloc hb1.out.size _).grown hg2 (by have := hb1.out.size; simp; omega) (fun q e => (hm1'.out.lt q e).1))
       have hsl : cs.length ≤ c3 := by omega
       have HM2 := Lib.hid hm2
       rw [hlen] at hc3 ⊢
       clear hlen
       clear hm1' hr1' hm2 hg2 hat2 hc1 hb1)
    | fail)
  obtain ⟨ad, g, hA3, hadg, hg1, hg2⟩ : ∃ ad g, A3 = some ad ∧ ad = ⟨g, 0, none⟩ ∧ w.heap.size ≤ g ∧ g < w2.heap.size := by
    rcases HM2.out.2 with ⟨_, h0⟩ | ⟨g, cap, cur, hv, hb, hg, _⟩
    · simp at h0
    · injection hv with h1
      exact ⟨_, g, h1, rfl, hb, (Array.getElem?_eq_some_iff.1 hg).1⟩
  subst hA3
  have HADG := Lib.hid hadg
  clear hadg
  obtain ⟨N1, hN1⟩ : ∃ N1, N1 = cs.length + 1 := ⟨_, rfl⟩
  rw [← hN1] at hc3 ⊢
  have HN1 := Lib.hid hN1
  have g0 : (cs.length : Int) < (N1 : Int) := by omega
  have g0' : cs.length < N1 := by omega
  have hN63 : N1 ≤ 9223372036854775806 := by omega
  have hneq := neq_cell cellMark cellMark
  simp only [decide_true, Bool.not_true, cellMark] at hneq
  have hgc := guard_cell
  have HR2 := Lib.hid ((HM2.out.rd' encCell.len).begin)
  have HMK : Hid (∀ W, Below w2.heap.size w2 W → W.cell? (ad.add (cs.length * 2)) = some (.int .i64 (-7)) ∧ W.cell? ⟨(ad.add (cs.length * 2)).block, (ad.add (cs.length * 2)).off + 1, none⟩ = some (.string ⟨#[109, 97, 114, 107]⟩)) := fun W hW => by
    have h1 := (HM2.out.rd' encCell.len).below hW
    obtain ⟨ad, e, _, hc⟩ := h1 cs.length cellMark (by simp)
    cases e
    exact hc.two
  have HBB := Lib.hid hb
  have HLM := Lib.hid hlm
  clear hN1 hb hlm
  refine (from_prog _ c3 cs.length cs rfl w2 (by have := HBB.out; omega) HR2.out).mono ?_
  rintro e w3 (⟨hri, b, mb, rfl, hl3, hbb, hmb, hb3⟩ | ⟨hri, rfl, hb3⟩)
  · have HRI := Lib.hid hri
    have HL3 := Lib.hid hl3
    have HBM := Lib.hid (And.intro hbb hmb)
    have HB23 := Lib.hid hb3
    have HB3 := Lib.hid (hb2.out.trans (hb3.mono hb2.out.size))
    clear hri hl3 hbb hmb hb3
    dsimp only
    go_wp2_with fail
    refine (from_ref A c cs.length cs rfl w3 (by have := HBB.out; omega) ((HA.out.below HB3.out).more HB3.out.size)).mono ?_
    rintro e w' ⟨x, rfl, hx, q, rfl⟩
    have hx0 : x = 0 := by rcases hx with ⟨h, _⟩ | ⟨_, h⟩; exact h; exact absurd HRI.out h
    subst hx0
    clear hx
    have HSC := Lib.hid (sameCellsTrue (some ad) A c3 c cs.length cs rfl (w3.drewN q) (by have := HBB.out; omega) ((HR2.out.below HB23.out).more HB23.out.size) ((HA.out.below HB3.out).more HB3.out.size))
    dsimp only
    go_wp2_with fail
    refine HSC.out.mono ?_
    rintro e w' ⟨rfl, q2, rfl⟩
    clear HSC
    obtain ⟨m0, m1⟩ := HMK.out w3 HB23.out
    have hq : (w3.drewN q).drewN q2 = w3.drewN (q + q2) := World.drewN_drewN _ _ _
    rw [hq]
    clear hq
    generalize q + q2 = q at *
    dsimp only
    go_wp2_with fail
    have HM3 : Hid (∃ ys : List Cell, ys.length = N1 ∧ Made Cell.cells 2 29 w.heap.size (w3.drewN q) (.slice (some ad) N1 c3) ys) := ⟨cs ++ [cellMark], by rw [HN1.out]; simp, by
      have h := HM2.out.below (w' := w3.drewN q) (B := w2.heap.size) ⟨HB23.out.os, HB23.out.tape, HB23.out.output, HB23.out.size, HB23.out.block⟩ (fun b e => (HM2.out.lt b e).2)
      have e : (cs ++ [cellMark]).length = N1 := by rw [HN1.out]; simp
      rwa [e] at h⟩
    clear m0 m1 hneq hgc
    go_loopw [11] (fun i wr => ∃ k : Nat, k ≤ N1 ∧ i = .int .i64 k ∧ Hid (∃ ys : List Cell, ys.length = N1 ∧ Made Cell.cells 2 29 w.heap.size wr (.slice (some ad) N1 c3) ys) ∧ Hid (Kept (fun j => j = g) w3 wr)) (fun i _ => N1 - (intOf i).toNat)
    case atStart => exact ⟨0, by omega, rfl, HM3.out, (Kept.refl _ _).drewN _⟩
    case round =>
      obtain ⟨k, hk, rfl, hmd, hkr⟩ := hrel
      by_cases h1 : k < N1
      · obtain ⟨ys, hyl, hmy⟩ := hmd.out
        have HYL := Lib.hid hyl
        rw [← hyl, HADG.out] at hmy
        obtain ⟨⟨u0, e0⟩, f0⟩ := hmy.place encCell.len (show k < ys.length by omega) 0 (by omega)
        obtain ⟨⟨u1, e1⟩, f1⟩ := hmy.place encCell.len (show k < ys.length by omega) 1 (by omega)
        have hput := hmy.put encCell.len (by omega) (show k < ys.length by omega) spoilt
        have hpk : Kept (fun j => j = g) wr (putCells wr g (k * 2) spoilt.cells) := putCells_kept
        have ea : ad.add (k * 2) = ⟨g, k * 2, none⟩ := by rw [HADG.out]; exact addr_at g _
        have eb : (⟨(ad.add (k * 2)).block, (ad.add (k * 2)).off + 1, none⟩ : Addr) = ⟨g, k * 2 + 1, none⟩ := by rw [ea]
        simp only [Nat.add_zero] at e0 f0
        have e1' : (wr.setCell ⟨g, k * 2, none⟩ (.int .i64 3)).cell? ⟨g, k * 2 + 1, none⟩ = some u1 := (World.cell?_setCell_other _ _ _ _ (by simp)).trans e1
        have f1' : (wr.setCell ⟨g, k * 2, none⟩ (.int .i64 3)).frozen? ⟨g, k * 2 + 1, none⟩ = false := by rw [World.frozen?_setCell]; exact f1
        have g1 : (k : Int) < (N1 : Int) := by omega
        rw [← ea] at e0 f0 e1' f1'
        rw [← eb] at e1 f1 e1' f1'
        obtain ⟨W6, hW6⟩ : ∃ W6, W6 = putCells wr g (k * 2) spoilt.cells := ⟨_, rfl⟩
        have hW7 : W6 = (wr.setCell (ad.add (k * 2)) (.int .i64 3)).setCell ⟨(ad.add (k * 2)).block, (ad.add (k * 2)).off + 1, none⟩ (.string ⟨#[115, 112, 111, 105, 108, 116]⟩) := by rw [eb, ea]; exact hW6
        rw [← hW6] at hput hpk
        have HW7 := Lib.hid hW7
        clear hW6 hW7 ea eb
        have HPUT := Lib.hid hput
        have HPK := Lib.hid hpk
        clear hyl hmy hput hpk hmd
        go_wp2_with fail
        rw [← HW7.out]
        go_roundw
        case rel => exact ⟨k + 1, by omega, by go_num, ⟨ys.set k spoilt, by simp [HYL.out], by
          have h := HPUT.out
          rw [List.length_set, HYL.out] at h
          rwa [HADG.out]⟩, hkr.out.trans HPK.out⟩
        case measure => simp [intOf]; omega
      · have g1 : decide ((k:Int) < (N1 : Int)) = false := by simp; omega
        have g2 : decide (k < N1) = false := by simp; omega
        have HBW : Hid (Below w.heap.size w wr) := Below.kept_newF HB3.out hkr.out (fun j q => by omega) (Nat.le_refl _)
        have HLR : Hid (Ledger wr b mb cs) := HL3.out.same (hkr.out.block b HL3.out.lt.1 (by have := HBM.out; omega)) (hkr.out.block mb HL3.out.lt.2 (by have := HBM.out; omega))
        have HAR := Lib.hid ((HA.out.below HBW.out).more HBW.out.size)
        clear hmd HM3 HMK HM2
        go_wp2_with fail
        refine (asks_true b mb A c cs.length cs s rfl wr HLR.out HAR.out).mono ?_
        rintro e w6 ⟨rfl, hb6⟩
        have HB6 := Lib.hid (HBW.out.trans (hb6.mono HBW.out.size))
        have HL6 := Lib.hid (HLR.out.below hb6)
        clear hb6 HLR HBW HAR
        dsimp only
        go_wp2_with fail
        refine (copyCells_ref A c cs.length cs rfl w6 (by have := HBB.out; omega) ((HA.out.below HB6.out).more HB6.out.size)).mono ?_
        rintro e w7 ⟨A7, c7, rfl, hm7, hb7⟩
        have HB7 := Lib.hid (HB6.out.trans (hb7.mono HB6.out.size))
        have HL7 := Lib.hid (HL6.out.below hb7)
        have HR7 := Lib.hid (hm7.rd' encCell.len)
        have HA7 : Hid (Apart2 b mb w7.heap.size A7) := fun ad e => by
          subst e
          have h1 := hm7.lt ad.block rfl
          have h2 := HL6.out.lt
          omega
        clear hm7 hb7 HB6 HL6
        dsimp only
        go_wp2_with fail
        refine (plays_true b mb A7 A2 c7 cs.length c2 n2 cs os s rfl HN2.out w7 HL7.out HR7.out HA7.out ((HO.out.below HB7.out).more HB7.out.size) (ApartL.of_rd HO.out (by have := HBM.out; have := hb2.out.size; omega) (by have := HBM.out; have := hb2.out.size; omega)) HV.out HL2.out).mono ?_
        rintro e w8 ⟨A8, c8, rfl, hl8, hr8, ha8, hk8⟩
        have HB8 := Lib.hid (Below.kept_newF HB7.out hk8 (fun j q => by have := HBM.out; have := hb2.out.size; rcases q with q | q <;> omega) (Nat.le_refl _))
        clear hl8 hr8 ha8 hk8
        dsimp only
        go_wp2_with fail
        go_ret
        exact ⟨rfl, HB8.out⟩
  · have HRI := Lib.hid hri
    have HB23 := Lib.hid hb3
    have HB3 := Lib.hid (hb2.out.trans (hb3.mono hb2.out.size))
    clear hri hb3
    dsimp only
    go_wp2_with fail
    refine (from_ref A c cs.length cs rfl w3 (by have := HBB.out; omega) ((HA.out.below HB3.out).more HB3.out.size)).mono ?_
    rintro e w' ⟨x, rfl, hx, q, rfl⟩
    have hx0 : x = 43 := by rcases hx with ⟨_, h⟩ | ⟨h, _⟩; exact absurd h HRI.out; exact h
    subst hx0
    clear hx
    have HSC := Lib.hid (sameCellsTrue (some ad) A c3 c cs.length cs rfl (w3.drewN q) (by have := HBB.out; omega) ((HR2.out.below HB23.out).more HB23.out.size) ((HA.out.below HB3.out).more HB3.out.size))
    dsimp only
    go_wp2_with fail
    refine HSC.out.mono ?_
    rintro e w' ⟨rfl, q2, rfl⟩
    clear HSC
    obtain ⟨m0, m1⟩ := HMK.out w3 HB23.out
    have hq : (w3.drewN q).drewN q2 = w3.drewN (q + q2) := World.drewN_drewN _ _ _
    rw [hq]
    clear hq
    generalize q + q2 = q at *
    dsimp only
    go_wp2_with fail
    have HM3 : Hid (∃ ys : List Cell, ys.length = N1 ∧ Made Cell.cells 2 29 w.heap.size (w3.drewN q) (.slice (some ad) N1 c3) ys) := ⟨cs ++ [cellMark], by rw [HN1.out]; simp, by
      have h := HM2.out.below (w' := w3.drewN q) (B := w2.heap.size) ⟨HB23.out.os, HB23.out.tape, HB23.out.output, HB23.out.size, HB23.out.block⟩ (fun b e => (HM2.out.lt b e).2)
      have e : (cs ++ [cellMark]).length = N1 := by rw [HN1.out]; simp
      rwa [e] at h⟩
    clear m0 m1 hneq hgc
    go_loopw [11] (fun i wr => ∃ k : Nat, k ≤ N1 ∧ i = .int .i64 k ∧ Hid (∃ ys : List Cell, ys.length = N1 ∧ Made Cell.cells 2 29 w.heap.size wr (.slice (some ad) N1 c3) ys) ∧ Hid (Kept (fun j => j = g) w3 wr)) (fun i _ => N1 - (intOf i).toNat)
    case atStart => exact ⟨0, by omega, rfl, HM3.out, (Kept.refl _ _).drewN _⟩
    case round =>
      obtain ⟨k, hk, rfl, hmd, hkr⟩ := hrel
      by_cases h1 : k < N1
      · obtain ⟨ys, hyl, hmy⟩ := hmd.out
        have HYL := Lib.hid hyl
        rw [← hyl, HADG.out] at hmy
        obtain ⟨⟨u0, e0⟩, f0⟩ := hmy.place encCell.len (show k < ys.length by omega) 0 (by omega)
        obtain ⟨⟨u1, e1⟩, f1⟩ := hmy.place encCell.len (show k < ys.length by omega) 1 (by omega)
        have hput := hmy.put encCell.len (by omega) (show k < ys.length by omega) spoilt
        have hpk : Kept (fun j => j = g) wr (putCells wr g (k * 2) spoilt.cells) := putCells_kept
        have ea : ad.add (k * 2) = ⟨g, k * 2, none⟩ := by rw [HADG.out]; exact addr_at g _
        have eb : (⟨(ad.add (k * 2)).block, (ad.add (k * 2)).off + 1, none⟩ : Addr) = ⟨g, k * 2 + 1, none⟩ := by rw [ea]
        simp only [Nat.add_zero] at e0 f0
        have e1' : (wr.setCell ⟨g, k * 2, none⟩ (.int .i64 3)).cell? ⟨g, k * 2 + 1, none⟩ = some u1 := (World.cell?_setCell_other _ _ _ _ (by simp)).trans e1
        have f1' : (wr.setCell ⟨g, k * 2, none⟩ (.int .i64 3)).frozen? ⟨g, k * 2 + 1, none⟩ = false := by rw [World.frozen?_setCell]; exact f1
        have g1 : (k : Int) < (N1 : Int) := by omega
        rw [← ea] at e0 f0 e1' f1'
        rw [← eb] at e1 f1 e1' f1'
        obtain ⟨W6, hW6⟩ : ∃ W6, W6 = putCells wr g (k * 2) spoilt.cells := ⟨_, rfl⟩
        have hW7 : W6 = (wr.setCell (ad.add (k * 2)) (.int .i64 3)).setCell ⟨(ad.add (k * 2)).block, (ad.add (k * 2)).off + 1, none⟩ (.string ⟨#[115, 112, 111, 105, 108, 116]⟩) := by rw [eb, ea]; exact hW6
        rw [← hW6] at hput hpk
        have HW7 := Lib.hid hW7
        clear hW6 hW7 ea eb
        have HPUT := Lib.hid hput
        have HPK := Lib.hid hpk
        clear hyl hmy hput hpk hmd
        go_wp2_with fail
        rw [← HW7.out]
        go_roundw
        case rel => exact ⟨k + 1, by omega, by go_num, ⟨ys.set k spoilt, by simp [HYL.out], by
          have h := HPUT.out
          rw [List.length_set, HYL.out] at h
          rwa [HADG.out]⟩, hkr.out.trans HPK.out⟩
        case measure => simp [intOf]; omega
      · have g1 : decide ((k:Int) < (N1 : Int)) = false := by simp; omega
        have g2 : decide (k < N1) = false := by simp; omega
        have HBW : Hid (Below w.heap.size w wr) := Below.kept_newF HB3.out hkr.out (fun j q => by omega) (Nat.le_refl _)
        clear hmd HM3 HMK HM2
        go_wp2_with fail
        refine (works04 _).mono ?_
        rintro e w6 ⟨rfl, hb6⟩
        have HB6 := Lib.hid (HBW.out.trans (hb6.mono HBW.out.size))
        clear hb6 HBW
        dsimp only
        go_wp2_with fail
        go_ret
        exact ⟨rfl, HB6.out⟩

theorem froms_law (W : World) (A : Option Addr) (c n : Nat) (xs : List Cell) (hn : n = xs.length) (_ : n ≤ c) (hrd : Rd Cell.cells 2 W W.heap.size A xs) (_ : ∀ o ∈ xs, o.wf) (hsz : xs.length * 24 ≤ 140737488351232)
    (A2 : Option Addr) (c2 n2 : Nat) (ys : List Op) (hn2 : n2 = ys.length) (_ : n2 ≤ c2) (h2 : Rd Op.cells 3 W W.heap.size A2 ys) (hw2 : ∀ o ∈ ys, o.wf) (hs2 : ys.length * 32 ≤ 140737488351232) (s : Int) (_ : I64 s) :
    Calls Try.prog 8 #[.slice A n c, .slice A2 n2 c2, .int .i64 s] W fun e w' => e = .returned (.bool true) ∧ Below W.heap.size W w' :=
  froms_calls A A2 c n c2 n2 xs ys hn hn2 s W (by omega) (by omega) (fun o ho => (hw2 o ho).value) hrd h2
end Go.Proofs.Ytmijlflblhhfjaa
