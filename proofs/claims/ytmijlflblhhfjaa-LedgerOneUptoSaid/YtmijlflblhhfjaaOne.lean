/- LedgerOne answers true, whatever the two scripts. Conditions: sizes within the form's own reach. -/
import Derived.Test.YtmijlflblhhfjaaApart
import Derived.Test.YtmijlflblhhfjaaPlays
import Derived.Test.YtmijlflblhhfjaaFrom
import Derived.Test.YtmijlflblhhfjaaClone
import Derived.Test.YtmijlflblhhfjaaReplay
import Derived.IntWalk
namespace Go.Proofs.Ytmijlflblhhfjaa
open Go.RowKit
set_option linter.unusedVariables false
set_option linter.unusedSimpArgs false

/-- Three ledgers of the same cells. -/
structure Three (W : World) (B : Nat) (p q r : Nat × Nat) (cs ds es : List Cell) : Prop where
  one : Ledger W p.1 p.2 cs
  two : Ledger W q.1 q.2 ds
  three : Ledger W r.1 r.2 es
  hb : B ≤ p.1 ∧ B ≤ p.2 ∧ B ≤ q.1 ∧ B ≤ q.2 ∧ B ≤ r.1 ∧ B ≤ r.2
  ne : p.1 ≠ q.1 ∧ p.1 ≠ q.2 ∧ p.2 ≠ q.1 ∧ p.2 ≠ q.2
  ne2 : p.1 ≠ r.1 ∧ p.1 ≠ r.2 ∧ p.2 ≠ r.1 ∧ p.2 ≠ r.2
  ne3 : q.1 ≠ r.1 ∧ q.1 ≠ r.2 ∧ q.2 ≠ r.1 ∧ q.2 ≠ r.2
section
variable {W W' : World} {B : Nat} {p q r : Nat × Nat} {cs ds es fs : List Cell}
theorem Three.below (h : Three W B p q r cs ds es) (hb : Below W.heap.size W W') : Three W' B p q r cs ds es := ⟨h.one.below hb, h.two.below hb, h.three.below hb, h.hb, h.ne, h.ne2, h.ne3⟩
theorem led_other {a b a' b' : Nat} (h : Ledger W a b cs) (hk : Kept (LedS a' b') W W') (hn : a ≠ a' ∧ a ≠ b' ∧ b ≠ a' ∧ b ≠ b') : Ledger W' a b cs :=
  h.same (hk.block a h.lt.1 (fun q => by rcases q with q | q <;> omega)) (hk.block b h.lt.2 (fun q => by rcases q with q | q <;> omega))
theorem Three.at1 (h : Three W B p q r cs ds es) (hl : Ledger W' p.1 p.2 fs) (hk : Kept (LedS p.1 p.2) W W') : Three W' B p q r fs ds es :=
  ⟨hl, led_other h.two hk (by have := h.ne; omega), led_other h.three hk (by have := h.ne2; omega), h.hb, h.ne, h.ne2, h.ne3⟩
theorem Three.at2 (h : Three W B p q r cs ds es) (hl : Ledger W' q.1 q.2 fs) (hk : Kept (LedS q.1 q.2) W W') : Three W' B p q r cs fs es :=
  ⟨led_other h.one hk (by have := h.ne; omega), hl, led_other h.three hk (by have := h.ne3; omega), h.hb, h.ne, h.ne2, h.ne3⟩
theorem Three.at3 (h : Three W B p q r cs ds es) (hl : Ledger W' r.1 r.2 fs) (hk : Kept (LedS r.1 r.2) W W') : Three W' B p q r cs ds fs :=
  ⟨led_other h.one hk (by have := h.ne2; omega), led_other h.two hk (by have := h.ne3; omega), hl, h.hb, h.ne, h.ne2, h.ne3⟩
end

theorem playR_get (cs : List Cell) (ys : List Op) : ∀ (j : Nat) (h : j < ys.length), (playR cs ys)[j]? = some (would (playC cs (ys.take j)) ys[j]) := by
  induction ys generalizing cs with
  | nil => intro j h; simp at h
  | cons y ys ih =>
    intro j h
    cases j with
    | zero => simp [playR, playC]
    | succ j =>
      simp only [playR, List.getElem?_cons_succ, List.take_succ_cons, playC, List.getElem_cons_succ]
      exact ih (after cs y) j (by simpa using h)
def S3 (p q r : Nat × Nat) (k : Nat) : Prop := LedS p.1 p.2 k ∨ LedS q.1 q.2 k ∨ LedS r.1 r.2 k
theorem Three.lt {W : World} {B : Nat} {p q r : Nat × Nat} {cs ds es : List Cell} (h : Three W B p q r cs ds es) : ∀ k, S3 p q r k → B ≤ k ∧ k < W.heap.size := fun k hk => by
  have h1 := h.one.lt
  have h2 := h.two.lt
  have h3 := h.three.lt
  have h4 := h.hb
  rcases hk with (hk | hk) | (hk | hk) | (hk | hk) <;> omega

set_option maxRecDepth 100000 in
set_option maxHeartbeats 8000000 in
theorem one_calls (A A2 : Option Addr) (c n c2 n2 : Nat) (xs ys : List Op) (hn : n = xs.length) (hn2 : n2 = ys.length) (w : World) (hl : xs.length * 32 ≤ 140737488351232) (hl2 : ys.length * 32 ≤ 140737488351232) (hsum : (xs.length + ys.length) * 32 ≤ 140737488355328) (ha : Rd Op.cells 3 w w.heap.size A xs) (ha2 : Rd Op.cells 3 w w.heap.size A2 ys)
    (hv : ∀ o ∈ xs, o.value.size ≤ 9223372036854775807) (hv2 : ∀ o ∈ ys, o.value.size ≤ 9223372036854775807) :
    Calls Try.prog 11 #[.slice A n c, .slice A2 n2 c2] w fun e w' => e = .returned (.bool true) ∧ Below w.heap.size w w' := by
  subst hn; subst hn2
  have HA := Lib.hid ha
  have HA2 := Lib.hid ha2
  have HV := Lib.hid hv
  have HV2 := Lib.hid hv2
  clear ha ha2 hv hv2
  have hgr := guard_res
  go_enter Try.func11, Try.ntmps11
  go_wp2_with fail
  refine (newLedger w).mono ?_
  rintro e w1 ⟨b, mb, rfl, hl1, hbb, hmb, hB1⟩
  have HL1 := Lib.hid hl1
  have HB1 := Lib.hid hB1
  have HBM := Lib.hid (And.intro hbb hmb)
  clear hl1 hB1 hbb hmb
  dsimp only
  go_wp2_with fail
  refine (works04 w1).mono ?_
  rintro e w2 ⟨rfl, hb2⟩
  have HL2 := Lib.hid (HL1.out.below hb2)
  have HB2 := Lib.hid (HB1.out.trans (hb2.mono HB1.out.size))
  clear HL1 HB1 hb2
  dsimp only
  go_wp2_with fail
  go_loopw [6] (fun i wr => ∃ k : Nat, k ≤ xs.length ∧ i = .int .i64 k ∧ Hid (Ledger wr b mb (playC [] (xs.take k))) ∧ Hid (Below w.heap.size w wr)) (fun i _ => xs.length - (intOf i).toNat)
  case atStart => exact ⟨0, by omega, rfl, (by show Ledger _ _ _ _; simpa [playC] using HL2.out), HB2.out⟩
  case round =>
    obtain ⟨k, hk, rfl, hlr, hbr⟩ := hrel
    by_cases h1 : k < xs.length
    · obtain ⟨ad, hAd, _, hca⟩ := (HA.out.below hbr.out).at_ h1
      subst hAd
      have g1 : (k:Int) < (xs.length : Int) := by omega
      obtain ⟨c0, c1, c2'⟩ := hca.three
      have hvk := HV.out xs[k] (by simp)
      have hst := Lib.hid (playC_take_succ [] xs k h1)
      have HDO := Lib.hid (doLedger b mb _ xs[k] hvk wr hlr.out)
      clear hca
      generalize xs[k] = o at *
      go_wp2_with fail
      refine HDO.out.mono ?_
      rintro e w3 ⟨rfl, hl3, hk3⟩
      have HL3 := Lib.hid hl3
      have HB3 := Lib.hid (Kept.ledger_below hbr.out hk3 (fun j q => by have := HBM.out; rcases q with rfl | rfl <;> omega))
      clear hl3 hk3 HDO hlr hbr
      dsimp only
      go_wp2_with fail
      go_roundw
      case rel => exact ⟨k + 1, by omega, by go_num, by rw [hst.out]; exact HL3.out, HB3.out⟩
      case measure => simp [intOf]; omega
    · have g1 : decide (k < xs.length) = false := by simp; omega
      have g2 : decide ((k : Int) < (xs.length : Int)) = false := by simp; omega
      rw [show xs.take k = xs from List.take_of_length_le (by omega)] at hlr
      have HRI := Lib.hid hlr.out.rising
      have HCL := Lib.hid (rising_length hlr.out.rising)
      have HRP := Lib.hid (replay_prog A c xs.length xs rfl wr (by omega) HV.out ((HA.out.below hbr.out).more hbr.out.size))
      have HRL := Lib.hid (playR_length [] xs)
      have HWH := Lib.hid (And.intro (playC_append [] xs ys) (playR_append [] xs ys))
      clear HL2 HB2
      go_wp2_with fail
      refine HRP.out.mono ?_
      rintro e w3 ⟨v3, v4, rfl, hm3, hm4, hb3⟩
      obtain ⟨A3, c3, rfl, _⟩ := hm3.form
      obtain ⟨A4, c4, rfl, _⟩ := hm4.form
      obtain ⟨cs, hcs⟩ : ∃ cs, cs = playC [] xs := ⟨_, rfl⟩
      obtain ⟨rs, hrs⟩ : ∃ rs, rs = playR [] xs := ⟨_, rfl⟩
      rw [← hcs] at hm3 hlr HRI HCL HWH ⊢
      rw [← hrs] at hm4 HRL HWH ⊢
      have hrl := HRL.out
      rw [hrl] at hm4 ⊢
      have HL3 := Lib.hid (hlr.out.below hb3)
      have HB3 := Lib.hid (hbr.out.trans (hb3.mono hbr.out.size))
      have HR3 := Lib.hid (hm3.rd' encCell.len)
      have HR4 := Lib.hid (hm4.rd' encRes.len)
      clear hm3 hm4 hb3 hlr hbr HRP hcs hrs hrl
      dsimp only
      go_wp2_with fail
      refine (from_prog A3 c3 cs.length cs rfl w3 (by have := HCL.out; omega) HR3.out).mono ?_
      rintro e w5 (⟨_, b2, mb2, rfl, hl5, hbb5, hmb5, hb5⟩ | ⟨hri5, _⟩)
      rotate_left
      · exact absurd HRI.out hri5
      have HL5 := Lib.hid hl5
      have HL5b := Lib.hid (HL3.out.below hb5)
      have HN5 : Hid (b < b2 ∧ b < mb2 ∧ mb < b2 ∧ mb < mb2) := by have := HL3.out.lt; show _ ∧ _; omega
      have HB5 := Lib.hid (HB3.out.trans (hb5.mono HB3.out.size))
      have HR5 := Lib.hid ((HR3.out.below hb5).more hb5.size)
      have HR5b := Lib.hid ((HR4.out.below hb5).more hb5.size)
      have HS5 : Hid (w.heap.size ≤ b2 ∧ w.heap.size ≤ mb2) := by have := HB3.out.size; show _ ∧ _; omega
      clear hl5 hbb5 hmb5 hb5 HL3 HB3 HR3 HR4
      dsimp only
      go_wp2_with fail
      refine (cloneLedger b mb cs w5 HL5b.out).mono ?_
      rintro e w6 ⟨b3, mb3, rfl, hl6, hbb6, hmb6, hb6⟩
      have HB6 := Lib.hid (HB5.out.trans (hb6.mono HB5.out.size))
      have HT6 : Hid (Three w6 w.heap.size (b, mb) (b2, mb2) (b3, mb3) cs cs cs) := ⟨HL5b.out.below hb6, HL5.out.below hb6, hl6,
        by have := HBM.out; have := HS5.out; have := HB5.out.size; simp only; omega, by have := HN5.out; simp only; omega, by have := HL5b.out.lt; simp only; omega, by have := HL5.out.lt; simp only; omega⟩
      have HR6 := Lib.hid ((HR5.out.below hb6).more hb6.size)
      have HR6b := Lib.hid ((HR5b.out.below hb6).more hb6.size)
      have HLC := Lib.hid (cellsLedger b mb cs w6 (HL5b.out.below hb6))
      clear hl6 hbb6 hmb6 hb6 HL5 HL5b HN5 HB5 HR5 HR5b HS5
      dsimp only
      go_wp2_with fail
      refine HLC.out.mono ?_
      rintro e w7 ⟨v7, rfl, hm7, hb7⟩
      obtain ⟨A7, c7, rfl, _⟩ := hm7.form
      have HB7 := Lib.hid (HB6.out.trans (hb7.mono HB6.out.size))
      have HT7 := Lib.hid (HT6.out.below hb7)
      have HSC := Lib.hid (sameCellsTrue A7 A3 c7 c3 cs.length cs rfl w7 (by have := HCL.out; omega) (hm7.rd' encCell.len) ((HR6.out.below hb7).more hb7.size))
      have HR7 := Lib.hid ((HR6b.out.below hb7).more hb7.size)
      clear hm7 hb7 HT6 HB6 HR6 HR6b HLC
      dsimp only
      go_wp2_with fail
      refine HSC.out.mono ?_
      rintro e w' ⟨rfl, q7, rfl⟩
      have HB8 : Hid (Below w.heap.size w (w7.drewN q7)) := below_drewN HB7.out _
      have HT8 : Hid (Three (w7.drewN q7) w.heap.size (b, mb) (b2, mb2) (b3, mb3) cs cs cs) := HT7.out.below (below_drewN (Below.refl _ _) q7)
      have HR8 : Hid (Rd Res.cells 3 (w7.drewN q7) (w7.drewN q7).heap.size A4 rs) := HR7.out.drewN q7
      generalize w7.drewN q7 = w8 at *
      have hw8 := HB8.out.size
      have hax := (HA.out.below HB8.out).more HB8.out.size
      clear HB7 HT7 HR7 HSC g1 g2
      have HAX := Lib.hid hax
      have HAY := Lib.hid ((HA2.out.below HB8.out).more HB8.out.size)
      clear hw8 hax
      dsimp only
      have hlm : xs.length + ys.length ≤ maxLen := by unfold maxLen; omega
      go_wp2_with (first
        | (at_builtin; refine wpList_app (v := .slice none 0 0) (xs := []) rowOp encOp rfl (.tmp 72) (.tmp 73) rfl w8.heap.size rfl (Made.nil _ _ _) rfl rfl HAX.out (by simp only [List.length_nil]; omega) (by simp only [List.length_nil]; omega) (Nat.le_refl _) ?_
           intro v9 w9 hm9 hg9 hat9
           simp only [List.nil_append] at hm9
           obtain ⟨A9, c9, hv9, hc9⟩ := hm9.form
           subst hv9
           have hm9' := Lib.hid hm9
           have hb9 := Lib.hid ((Below.refl w8.heap.size w8).grown hg9 (Nat.le_refl _) (by simp [Value.ownBlock]))
           clear hm9 hg9 hat9)
        | (at_builtin; refine wpList_app (v := .slice A9 xs.length c9) (xs := xs) (ys := ys) rowOp encOp rfl (.tmp 75) (.tmp 76) rfl w8.heap.size rfl hm9'.out rfl rfl ((HAY.out.below hb9.out).more hb9.out.size) (by omega) (by omega) (by have := hb9.out.size; omega) ?_
           intro v10 w10 hm10 hg10 hat10
           obtain ⟨A10, c10, hv10, hc10⟩ := hm10.form
           subst hv10
           have hb10 := Lib.hid (hb9.out.grown hg10 hb9.out.size (fun q e => (hm9'.out.lt q e).1))
           have HR10 := Lib.hid (hm10.rd' encOp.len)
           clear hm10 hg10 hat10 hm9' hc9 hc10)
        | fail)
      obtain ⟨N, hN2⟩ : ∃ N, N = xs.length + ys.length := ⟨_, rfl⟩
      rw [← hN2]
      have hN : N = (xs ++ ys).length := by rw [hN2]; simp
      have HN := Lib.hid hN
      have HN2 := Lib.hid hN2
      have hNx : xs.length ≤ N := by omega
      have HB10 := Lib.hid (HB8.out.trans (hb10.out.mono HB8.out.size))
      have HT10 := Lib.hid (HT8.out.below hb10.out)
      have HR10r := Lib.hid ((HR8.out.below hb10.out).more hb10.out.size)
      have HRW := Lib.hid (replay_prog A10 c10 N (xs ++ ys) hN w10 (by rw [← hN]; omega) (fun o ho => by rcases List.mem_append.1 ho with h | h; exact HV.out o h; exact HV2.out o h) HR10.out)
      have HYR := Lib.hid (playR_length cs ys)
      rw [HWH.out.1, HWH.out.2] at HRW
      have HCW := Lib.hid (rising_length (playC_rising (os := ys) HRI.out))
      clear hN hN2 HB8 HT8 HR8 hb9 hb10 HAX HAY HR10
      refine HRW.out.mono ?_
      rintro e w11 ⟨v11, v12, rfl, hm11, hm12, hb11⟩
      obtain ⟨A11, c11, rfl, _⟩ := hm11.form
      obtain ⟨A12, c12, rfl, hc12⟩ := hm12.form
      have hyr := HYR.out
      have hrl2 := HRL.out
      have hlen12 : (rs ++ playR cs ys).length = N := by rw [List.length_append, hyr, hrl2, HN2.out]
      have HR11 := Lib.hid (hm11.rd' encCell.len)
      have HR12 := Lib.hid (hm12.rd' encRes.len)
      rw [hlen12] at hm12 hc12 ⊢
      have hxc : xs.length ≤ c12 := by omega
      have HB11 := Lib.hid (HB10.out.trans (hb11.mono HB10.out.size))
      have HT11 := Lib.hid (HT10.out.below hb11)
      have HR11r := Lib.hid ((HR10r.out.below hb11).more hb11.size)
      have hbeg : Rd Res.cells 3 w11 w11.heap.size A12 rs := by
        have := HR12.out.take rs.length
        rwa [List.take_left] at this
      have HSR := Lib.hid (sameResultsTrue A12 A4 c12 c4 xs.length rs HRL.out.symm w11 (by have := HRL.out; omega) hbeg HR11r.out)
      have H11 : Hid (∀ ad, A11 = some ad → w10.heap.size ≤ ad.block) := fun ad e => by subst e; exact (hm11.lt ad.block rfl).1
      have H12 : Hid (∀ ad, A12 = some ad → w10.heap.size ≤ ad.block) := fun ad e => by subst e; exact (hm12.lt ad.block rfl).1
      have HLT := Lib.hid HT10.out.lt
      clear hm11 hm12 hb11 hyr hrl2 hlen12 HB10 HT10 HR10r HRW hbeg
      dsimp only
      go_wp2_with fail
      refine HSR.out.mono ?_
      rintro e w' ⟨rfl, q12, rfl⟩
      have HB12 : Hid (Below w.heap.size w (w11.drewN q12)) := below_drewN HB11.out _
      have HT12 : Hid (Three (w11.drewN q12) w.heap.size (b, mb) (b2, mb2) (b3, mb3) cs cs cs) := HT11.out.below (below_drewN (Below.refl _ _) q12)
      have HC12 : Hid (Rd Cell.cells 2 (w11.drewN q12) (w11.drewN q12).heap.size A11 (playC cs ys)) := HR11.out.drewN q12
      have HD12 : Hid (Rd Res.cells 3 (w11.drewN q12) (w11.drewN q12).heap.size A12 (rs ++ playR cs ys)) := HR12.out.drewN q12
      generalize w11.drewN q12 = w12 at *
      clear HB11 HT11 HR11 HR12 HR11r HSR
      dsimp only
      go_wp2_with fail
      have hK0 : Kept (S3 (b, mb) (b2, mb2) (b3, mb3)) w12 w12 := Kept.refl _ _
      go_loopw [15, 16] (fun i x wr => ∃ j : Nat, j ≤ ys.length ∧ i = .int .i64 j ∧ Hid (Three wr w.heap.size (b, mb) (b2, mb2) (b3, mb3) (playC cs (ys.take j)) (playC cs (ys.take j)) (playC cs (ys.take j))) ∧ Hid (Below w.heap.size w wr) ∧ Hid (Kept (S3 (b, mb) (b2, mb2) (b3, mb3)) w12 wr)) (fun i _ _ => ys.length - (intOf i).toNat)
      case atStart => exact ⟨0, by omega, rfl, (by show Three _ _ _ _ _ _ _ _; simpa [playC] using HT12.out), HB12.out, hK0⟩
      case round =>
        clear hK0
        obtain ⟨j, hj, rfl, htr, hbr, hkr⟩ := hrel
        by_cases h2 : j < ys.length
        · obtain ⟨ad, hAd, had, hca⟩ := HA2.out.at_ h2
          subst hAd
          have g1 : (j:Int) < (ys.length : Int) := by omega
          have hvk := HV2.out ys[j] (by simp)
          have hst := Lib.hid (playC_take_succ cs ys j h2)
          have hget := playR_get cs ys j h2
          have hRg : (rs ++ playR cs ys)[xs.length + j]? = (playR cs ys)[j]? := by
            rw [List.getElem?_append_right (by have := HRL.out; omega)]
            congr 1
            have := HRL.out
            omega
          rw [hget] at hRg
          have HCA := Lib.hid hca
          have HAD := Lib.hid had
          obtain ⟨c0, c1, c2'⟩ := (hca.keep fun q hq => hbr.out.cell (p := q) (by rw [hq, block_add]; exact had)).three
          clear hca had hget
          generalize ys[j] = o at *
          generalize playC cs (ys.take j) = ds at *
          obtain ⟨es, hes⟩ : ∃ es, es = after ds o := ⟨_, rfl⟩
          obtain ⟨r, hr⟩ : ∃ r, r = would ds o := ⟨_, rfl⟩
          have hdo1 := doLedger b mb ds o hvk wr htr.out.one
          have hdo2 := fun W (hW : Ledger W b2 mb2 ds) => doLedger b2 mb2 ds o hvk W hW
          have hdo3 := fun W (hW : Ledger W b3 mb3 ds) => doLedger b3 mb3 ds o hvk W hW
          rw [← hes, ← hr] at hdo1
          simp only [← hes, ← hr] at hdo2 hdo3
          rw [← hr] at hRg
          have HDO1 := Lib.hid hdo1
          have HDO2 := Lib.hid hdo2
          have HDO3 := Lib.hid hdo3
          have HES := Lib.hid hes
          have HRG := Lib.hid hRg
          clear hdo1 hdo2 hdo3 hes hr hRg
          have hneq := neqR_ r
          go_wp2_with fail
          refine HDO1.out.mono ?_
          rintro e w13 ⟨rfl, hl13, hk13⟩
          have ht13 := htr.out.at1 hl13 hk13
          have hb13 := keptA hbr.out hk13 (fun j q => (htr.out.lt j (.inl q)).1) (Nat.le_refl _)
          have hk13' : Kept (S3 (b, mb) (b2, mb2) (b3, mb3)) w12 w13 := hkr.out.trans (hk13.mono fun _ _ q => .inl q)
          obtain ⟨w14, hw14⟩ : ∃ w14, w14 = w13.alloc (.cells #[.int .i64 r.code, .int .i64 r.slot, .string r.value] 37) := ⟨_, rfl⟩
          have hb1314 : Below w13.heap.size w13 w14 := by rw [hw14]; exact (Below.refl _ _).alloc (Nat.le_refl _) _
          have i14 : w14.heap[w13.heap.size]? = some (.cells #[.int .i64 r.code, .int .i64 r.slot, .string r.value] 37 (0, 0)) := by rw [hw14]; exact heap_alloc_new _ _
          have HT14 := Lib.hid (ht13.below hb1314)
          have HB14 := Lib.hid (hb13.trans (hb1314.mono hb13.size))
          have HK14 := Lib.hid (hk13'.trans (Kept.of_below hb1314 _))
          have HP13 : Hid (∀ k, S3 (b, mb) (b2, mb2) (b3, mb3) k → k < w13.heap.size) := fun k q => (ht13.lt k q).2
          have HS14 : Hid (w14.heap.size = w13.heap.size + 1) := by show _ = _; rw [hw14]; simp
          have ht14 : Rd Res.cells 3 w14 w14.heap.size A12 (rs ++ playR cs ys) := HD12.out.kept HK14.out (fun ad e q => by have := H12.out ad e; have := HLT.out _ q; omega)
          obtain ⟨at12, hAt, hatb, hct⟩ := ht14 _ r HRG.out
          have hatS : ¬ S3 (b, mb) (b2, mb2) (b3, mb3) at12.block := fun q => by have := H12.out at12 hAt; have := HLT.out _ q; omega
          subst hAt
          obtain ⟨p, hp⟩ : ∃ p, p = xs.length + j := ⟨_, rfl⟩
          rw [← hp] at hct
          have KEY : Hid (∀ W, Kept (S3 (b, mb) (b2, mb2) (b3, mb3)) w14 W → W.cell? (ad.add (j * 3)) = some (.int .i64 o.kind) ∧ W.cell? ⟨(ad.add (j * 3)).block, (ad.add (j * 3)).off + 1, none⟩ = some (.int .i64 o.slot) ∧ W.cell? ⟨(ad.add (j * 3)).block, (ad.add (j * 3)).off + 2, none⟩ = some (.string o.value) ∧
              W.cell? ⟨w13.heap.size, 0, none⟩ = some (.int .i64 r.code) ∧ W.cell? ⟨w13.heap.size, 1, none⟩ = some (.int .i64 r.slot) ∧ W.cell? ⟨w13.heap.size, 2, none⟩ = some (.string r.value) ∧
              W.cell? (at12.add (p * 3)) = some (.int .i64 r.code) ∧ W.cell? ⟨(at12.add (p * 3)).block, (at12.add (p * 3)).off + 1, none⟩ = some (.int .i64 r.slot) ∧ W.cell? ⟨(at12.add (p * 3)).block, (at12.add (p * 3)).off + 2, none⟩ = some (.string r.value)) := fun W hW => by
            have hbW : Below w.heap.size w W := keptA HB14.out hW (fun j q => (HT14.out.lt j q).1) (Nat.le_refl _)
            obtain ⟨x0, x1, x2⟩ := (HCA.out.keep (w' := W) fun q hq => hbW.cell (p := q) (by rw [hq, block_add]; exact HAD.out)).three
            have iw := (hW.block w13.heap.size (by have := HS14.out; omega) (fun q => by have := HP13.out _ q; omega)).trans i14
            obtain ⟨z0, z1, z2⟩ := (hct.keep (w' := W) fun q hq => World.cell?_of_block (w := w14) (hW.block _ (by rw [hq, block_add]; exact hatb) (by rw [hq, block_add]; exact hatS))).three
            exact ⟨x0, x1, x2, cell_of_row W _ 0 _ _ _ iw, cell_of_row W _ 1 _ _ _ iw, cell_of_row W _ 2 _ _ _ iw, z0, z1, z2⟩
          have k1 : IntKind.i64.wrap ((xs.length : Int) + (j : Int)) = (p : Int) := by rw [show ((xs.length : Int) + (j : Int)) = (p : Int) by omega]; exact IntWalk.i64_in _ (by omega)
          have k2 : (p : Int) < (N : Int) := by have := HN2.out; omega
          have HPP := Lib.hid hp
          have HW14 := Lib.hid hw14
          have HK0 : Hid (Kept (S3 (b, mb) (b2, mb2) (b3, mb3)) w14 w14) := Kept.refl _ _
          obtain ⟨x0, x1, x2, r0, r1, r2, z0, z1, z2⟩ := KEY.out w14 HK0.out
          clear hl13 hk13 ht13 hb13 hk13' hw14 hb1314 i14 ht14 hct hatb hatS hp c0 c1 c2' htr hbr hkr HDO1
          dsimp only
          go_wp2_with fail
          rw [← HW14.out]
          go_region_held3 (fun W => W.cell? (ad.add (j * 3)) = some (.int .i64 o.kind) ∧ W.cell? ⟨(ad.add (j * 3)).block, (ad.add (j * 3)).off + 1, none⟩ = some (.int .i64 o.slot) ∧ W.cell? ⟨(ad.add (j * 3)).block, (ad.add (j * 3)).off + 2, none⟩ = some (.string o.value) ∧
              W.cell? ⟨w13.heap.size, 0, none⟩ = some (.int .i64 r.code) ∧ W.cell? ⟨w13.heap.size, 1, none⟩ = some (.int .i64 r.slot) ∧ W.cell? ⟨w13.heap.size, 2, none⟩ = some (.string r.value) ∧
              W.cell? (at12.add (p * 3)) = some (.int .i64 r.code) ∧ W.cell? ⟨(at12.add (p * 3)).block, (at12.add (p * 3)).off + 1, none⟩ = some (.int .i64 r.slot) ∧ W.cell? ⟨(at12.add (p * 3)).block, (at12.add (p * 3)).off + 2, none⟩ = some (.string r.value))
            (first
              | exact KEY.out _ HK16.out
              | exact KEY.out _ HK15.out
              | go_keep)
            (first
              | (go_at_call 16
                 with_reducible refine (HDO2.out _ ?_).mono ?_
                 · exact HT14.out.two
                 rintro e w15 ⟨rfl, hl15, hk15⟩
                 have hk15' : Kept (LedS b2 mb2) w14 w15 := ⟨hk15.os, hk15.tape, hk15.output, hk15.size, hk15.block⟩
                 have HK15 := Lib.hid (hk15'.mono fun _ _ q => show S3 (b, mb) (b2, mb2) (b3, mb3) _ from .inr (.inl q))
                 have HT15 := Lib.hid (HT14.out.at2 hl15 hk15')
                 clear hl15 hk15 hk15')
              | (go_at_call 16
                 with_reducible refine (HDO3.out _ ?_).mono ?_
                 · exact HT15.out.three
                 rintro e w16 ⟨rfl, hl16, hk16⟩
                 have hk16' : Kept (LedS b3 mb3) w15 w16 := ⟨hk16.os, hk16.tape, hk16.output, hk16.size, hk16.block⟩
                 have HK16 := Lib.hid (HK15.out.trans (hk16'.mono fun _ _ q => show S3 (b, mb) (b2, mb2) (b3, mb3) _ from .inr (.inr q)))
                 have HT16 := Lib.hid (HT15.out.at3 hl16 hk16')
                 clear hl16 hk16 hk16'))
          clear k1
          go_wp2_with fail
          have HB16 : Hid (Below w.heap.size w w16) := keptA HB14.out HK16.out (fun j q => (HT14.out.lt j q).1) (Nat.le_refl _)
          go_roundw
          case rel => exact ⟨j + 1, by omega, by go_num, by rw [hst.out, ← HES.out]; exact HT16.out, HB16.out, HK14.out.trans HK16.out⟩
          case measure => simp [intOf]; omega
        · have g3 : decide (j < ys.length) = false := by simp; omega
          have g4 : decide ((j : Int) < (ys.length : Int)) = false := by simp; omega
          rw [show ys.take j = ys from List.take_of_length_le (by omega)] at htr
          have HC13 := Lib.hid ((HC12.out.kept hkr.out (fun ad e q => by have := H11.out ad e; have := HLT.out _ q; omega)))
          generalize playC cs ys = es at *
          have HCa := Lib.hid (cellsLedger b mb es wr htr.out.one)
          clear HC12 HD12 hkr HT12 HB12
          go_wp2_with fail
          refine HCa.out.mono ?_
          rintro e w13 ⟨v13, rfl, hm13, hb13⟩
          obtain ⟨A13, c13, rfl, _⟩ := hm13.form
          have HB13 := Lib.hid (hbr.out.trans (hb13.mono hbr.out.size))
          have HT13 := Lib.hid (htr.out.below hb13)
          have HC14 := Lib.hid ((HC13.out.below hb13).more hb13.size)
          have HSa := Lib.hid (sameCellsTrue A13 A11 c13 c11 es.length es rfl w13 (by have := HCW.out; omega) (hm13.rd' encCell.len) HC14.out)
          clear hm13 hb13 HCa htr hbr HC13
          dsimp only
          go_wp2_with fail
          refine HSa.out.mono ?_
          rintro e w' ⟨rfl, q13, rfl⟩
          have HB14 : Hid (Below w.heap.size w (w13.drewN q13)) := below_drewN HB13.out _
          have HT14 : Hid (Three (w13.drewN q13) w.heap.size (b, mb) (b2, mb2) (b3, mb3) es es es) := HT13.out.below (below_drewN (Below.refl _ _) q13)
          have HC15 : Hid (Rd Cell.cells 2 (w13.drewN q13) (w13.drewN q13).heap.size A11 es) := HC14.out.drewN q13
          generalize w13.drewN q13 = w14 at *
          have HCb := Lib.hid (cellsLedger b2 mb2 es w14 HT14.out.two)
          clear HB13 HT13 HC14 HSa
          dsimp only
          go_wp2_with fail
          refine HCb.out.mono ?_
          rintro e w15 ⟨v15, rfl, hm15, hb15⟩
          obtain ⟨A15, c15, rfl, _⟩ := hm15.form
          have HB15 := Lib.hid (HB14.out.trans (hb15.mono HB14.out.size))
          have HT15 := Lib.hid (HT14.out.below hb15)
          have HC16 := Lib.hid ((HC15.out.below hb15).more hb15.size)
          have HSb := Lib.hid (sameCellsTrue A15 A11 c15 c11 es.length es rfl w15 (by have := HCW.out; omega) (hm15.rd' encCell.len) HC16.out)
          clear hm15 hb15 HCb HT14 HB14 HC15
          dsimp only
          go_wp2_with fail
          refine HSb.out.mono ?_
          rintro e w' ⟨rfl, q15, rfl⟩
          have HB16 : Hid (Below w.heap.size w (w15.drewN q15)) := below_drewN HB15.out _
          have HT16 : Hid (Three (w15.drewN q15) w.heap.size (b, mb) (b2, mb2) (b3, mb3) es es es) := HT15.out.below (below_drewN (Below.refl _ _) q15)
          have HC17 : Hid (Rd Cell.cells 2 (w15.drewN q15) (w15.drewN q15).heap.size A11 es) := HC16.out.drewN q15
          generalize w15.drewN q15 = w16 at *
          have HCc := Lib.hid (cellsLedger b3 mb3 es w16 HT16.out.three)
          clear HB15 HT15 HC16 HSb
          dsimp only
          go_wp2_with fail
          refine HCc.out.mono ?_
          rintro e w17 ⟨v17, rfl, hm17, hb17⟩
          obtain ⟨A17, c17, rfl, _⟩ := hm17.form
          have HB17 := Lib.hid (HB16.out.trans (hb17.mono HB16.out.size))
          have HC18 := Lib.hid ((HC17.out.below hb17).more hb17.size)
          have HSc := Lib.hid (sameCellsTrue A17 A11 c17 c11 es.length es rfl w17 (by have := HCW.out; omega) (hm17.rd' encCell.len) HC18.out)
          clear hm17 hb17 HCc HT16 HB16 HC17
          dsimp only
          go_wp2_with fail
          refine HSc.out.mono ?_
          rintro e w' ⟨rfl, q17, rfl⟩
          dsimp only
          go_wp2_with fail
          go_ret
          exact ⟨rfl, below_drewN HB17.out _⟩

theorem one_law (W : World) (A : Option Addr) (c n : Nat) (xs : List Op) (hn : n = xs.length) (_ : n ≤ c) (hrd : Rd Op.cells 3 W W.heap.size A xs) (hwf : ∀ o ∈ xs, o.wf) (hsz : xs.length * 32 ≤ 140737488351232) (hm : xs.length ≤ 1048576)
    (A2 : Option Addr) (c2 n2 : Nat) (ys : List Op) (hn2 : n2 = ys.length) (_ : n2 ≤ c2) (hrd2 : Rd Op.cells 3 W W.heap.size A2 ys) (hwf2 : ∀ o ∈ ys, o.wf) (hsz2 : ys.length * 32 ≤ 140737488351232) (hm2 : ys.length ≤ 1048576) :
    Calls Try.prog 11 #[.slice A n c, .slice A2 n2 c2] W fun e w' => e = .returned (.bool true) ∧ Below W.heap.size W w' :=
  one_calls A A2 c n c2 n2 xs ys hn hn2 W hsz hsz2 (by omega) hrd hrd2 (fun o ho => (hwf o ho).value) (fun o ho => (hwf2 o ho).value)
end Go.Proofs.Ytmijlflblhhfjaa
