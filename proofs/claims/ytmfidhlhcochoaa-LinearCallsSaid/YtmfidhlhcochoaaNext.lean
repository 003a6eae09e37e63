/- The search's inner function answers the least completion. Conditions: at most eight calls. -/
import Derived.Test.YtmfidhlhcochoaaSrchSt
import Derived.Test.YtmfidhlhcochoaaLinText
import Derived.Test.YtmfidhlhcochoaaClone
import Derived.Test.YtmfidhlhcochoaaDo
import Derived.StillTailTactics
import Derived.Scope
import Derived.Deep.RegionHeld3
namespace Go.Proofs.Ytmfidhlhcochoaa
open Go.RowKit
set_option linter.unusedVariables false
set_option linter.unusedSimpArgs false

def Touch (vo : Value) (B k : Nat) : Prop := k = B ∨ k = B + 2 ∨ k = B + 4 ∨ vo.ownBlock = some k
def NextPost (f : Nat) (l : List Call) (S : List Bool) (cs : List Cell) (vo : Value) (ord : List Nat) (A : Option Addr) (c lo Bl B : Nat) (w : World) (e : Ending) (W' : World) : Prop :=
  ∃ v S' vo' ord' ps', e = .returned (.bool v) ∧ SrchSt W' l A c lo Bl B S' vo' ord' ps' ∧ Kept (Touch vo B) w W' ∧ (∀ j, vo'.ownBlock = some j → vo.ownBlock = some j ∨ w.heap.size ≤ j) ∧
    ((v = true ∧ ∃ ks, comp f l S cs = some ks ∧ ord' = ord ++ ks) ∨ (v = false ∧ comp f l S cs = none ∧ S' = S ∧ ord' = ord))
structure SrchCells (W : World) (l : List Call) (A : Option Addr) (c Bl B : Nat) (vo : Value) : Prop where
  m0 : W.cell? ⟨Bl, 0, none⟩ = some (.slice A l.length c)
  m1 : W.cell? ⟨B + 1, 0, none⟩ = some (.slice (some ⟨B, 0, none⟩) l.length l.length)
  m2 : W.cell? ⟨B + 3, 0, none⟩ = some (.map (some (B + 2)))
  m3 : W.cell? ⟨B + 4, 0, none⟩ = some vo
  m4 : W.cell? ⟨B + 5, 0, none⟩ = some (srchFn Bl B)
  n3 : W.frozen? ⟨B + 4, 0, none⟩ = false
theorem SrchSt.cells {W : World} {l : List Call} {A : Option Addr} {c lo Bl B : Nat} {S : List Bool} {vo : Value} {ord : List Nat} {ps : List ((Int × ByteArray) × Int)} (h : SrchSt W l A c lo Bl B S vo ord ps) : SrchCells W l A c Bl B vo :=
  ⟨cell_of_row _ _ 0 _ _ _ h.bl, cell_of_row _ _ 0 _ _ _ h.bs, cell_of_row _ _ 0 _ _ _ h.bv, cell_of_row _ _ 0 _ _ _ h.bo, cell_of_row _ _ 0 _ _ _ h.bn, frozen_of_row _ _ _ _ _ h.bo⟩
theorem Kept.trans2 {X Y : Nat → Prop} {a b c : World} (h : Kept X a b) (j : Kept Y b c) (hx : ∀ k, k < a.heap.size → Y k → X k) : Kept X a c :=
  ⟨j.os.trans h.os, j.tape.trans h.tape, j.output.trans h.output, Nat.le_trans h.size j.size, fun k hk hn => (j.block k (Nat.lt_of_lt_of_le hk h.size) (fun q => hn (hx k hk q))).trans (h.block k hk hn)⟩
theorem Vain.here {l : List Call} {ps : List ((Int × ByteArray) × Int)} (h : Vain l ps) {S : List Bool} {cs : List Cell} {v : Int} (hq : lookK ps ((bitsN S : Int), textC cs) = some v) (hv : 0 < v) (hS : S.length = l.length) (hc : ∀ c ∈ cs, Good c) {f : Nat} (hf : falses S < f) : comp f l S cs = none := h _ v hq hv S cs hS hc rfl f hf

set_option maxRecDepth 100000 in
set_option maxHeartbeats 8000000 in
theorem next_prog (l : List Call) (A : Option Addr) (c lo Bl B : Nat) (hl8 : l.length ≤ 8) (hv : ∀ x ∈ l, x.op.value.size ≤ 9223372036854775807) : ∀ (f : Nat) (S : List Bool) (vo : Value) (ord : List Nat) (ps : List ((Int × ByteArray) × Int)) (b mb : Nat) (cs : List Cell) (w : World), falses S < f → ord.length + falses S ≤ 8 → SrchSt w l A c lo Bl B S vo ord ps → Ledger w b mb cs → B + 6 ≤ b → B + 6 ≤ mb → (∀ j, vo.ownBlock = some j → j ≠ b ∧ j ≠ mb) →
    Calls Try.prog 40 #[.int .i64 (bitsN S : Nat), .pointer (some ⟨b, 0, none⟩), .pointer (some ⟨Bl, 0, none⟩), .pointer (some ⟨B + 1, 0, none⟩), .pointer (some ⟨B + 3, 0, none⟩), .pointer (some ⟨B + 4, 0, none⟩), .pointer (some ⟨B + 5, 0, none⟩)] w (NextPost f l S cs vo ord A c lo Bl B w) := by
  intro f
  induction f with
  | zero => intro S vo ord ps b mb cs w h; omega
  | succ f ih =>
    intro S vo ord ps b mb cs w hf ho8 hst hld hb hmb hap
    have HST := Lib.hid hst
    have HLD := Lib.hid hld
    have HIH := Lib.hid ih
    have HF := Lib.hid hf
    have HO8 := Lib.hid ho8
    have HAP := Lib.hid hap
    have HV := Lib.hid hv
    have HBB := Lib.hid hb
    have HMB := Lib.hid hmb
    obtain ⟨m0, m1, m2, m3, m4, n3⟩ := hst.cells
    have hsl := hst.lt
    obtain ⟨T0, hT0⟩ : ∃ T0 : Ending → World → Prop, T0 = NextPost (f + 1) l S cs vo ord A c lo Bl B w := ⟨_, rfl⟩
    rw [← hT0]
    have HT0 := Lib.hid hT0
    clear hst hld ih hap hv ho8 hT0
    go_enter Try.func40, Try.ntmps40
    go_wp2_with fail
    refine wp_scope_straight ?_
    go_wp2_with fail
    refine (missing_prog A (some ⟨B, 0, none⟩) c l.length l.length l.length l S rfl rfl HST.out.hS w (by omega) (HST.out.hl.more (by have := HST.out.hlo; have := HST.out.hBl; omega)) HST.out.rdS).mono ?_
    rintro e w1 ⟨rfl, hb1⟩
    have HST1 := Lib.hid (HST.out.below hb1)
    have HLD1 := Lib.hid (HLD.out.below hb1)
    have HB1 := Lib.hid hb1
    clear hb1 m0 m1 m2 m3 m4 n3
    obtain ⟨m0, m1, m2, m3, m4, n3⟩ := HST1.out.cells
    cases hms : missingL l S
    · dsimp only
      go_wp2_with fail
      rw [HT0.out]
      exact ⟨true, S, vo, ord, ps, rfl, HST1.out, Kept.of_below HB1.out _, fun j h => .inl h, .inl ⟨rfl, [], comp_done hms, by simp⟩⟩
    · have htr : comp (f + 1) l S cs = tryL (stepC f l S cs) (List.range l.length) := comp_try hms
      have HTR := Lib.hid htr
      clear htr hms
      dsimp only
      go_wp2_with fail
      refine (text_prog b mb cs w1 HLD1.out).mono ?_
      rintro e w2 ⟨rfl, hb2⟩
      have HST2 := Lib.hid (HST1.out.below hb2)
      have HLD2 := Lib.hid (HLD1.out.below hb2)
      have HB2 := Lib.hid (HB1.out.trans (hb2.mono HB1.out.size))
      clear hb2 m0 m1 m2 m3 m4 n3
      obtain ⟨tx, htx⟩ : ∃ tx, tx = textC cs := ⟨_, rfl⟩
      rw [← htx]
      have HTX := Lib.hid htx
      obtain ⟨W3, hW3⟩ : ∃ W3, W3 = w2.alloc (.cells #[.int .i64 (bitsN S : Nat), .string tx] 98) := ⟨_, rfl⟩
      have hb3 : Below w2.heap.size w2 W3 := by rw [hW3]; exact (Below.refl _ _).alloc (Nat.le_refl _) _
      have hst3 := HST2.out.below hb3
      have HST3 := Lib.hid hst3
      have HLD3 := Lib.hid (HLD2.out.below hb3)
      have hk3 : W3.heap[w2.heap.size]? = some (.cells #[.int .i64 (bitsN S : Nat), .string tx] 98 (0, 0)) := by rw [hW3]; exact heap_alloc_new _ _
      obtain ⟨m0, m1, m2, m3, m4, n3⟩ := hst3.cells
      have hlk0 := hst3.mv.lookup keyTried Try.underlying92 (zeroI W3) ((bitsN S : Int), tx)
      obtain ⟨u, hlk, hu⟩ : ∃ u : Int, (Instr.lookup 92 (.map (some (B + 2))) (.agg #[.int .i64 (bitsN S : Nat), .string tx]) false).run Try.prog W3 = .ok (.int .i64 u) W3 ∧ (0 < u → lookK ps ((bitsN S : Int), tx) = some u) := by
        cases hq : lookK ps ((bitsN S : Int), tx) with
        | none => rw [hq] at hlk0; exact ⟨0, hlk0, fun h => absurd h (by omega)⟩
        | some v => rw [hq] at hlk0; exact ⟨v, hlk0, fun _ => rfl⟩
      have HU : Hid (0 < u → comp (f + 1) l S cs = none) := fun h => HST3.out.vain.here (v := u) (by rw [← HTX.out]; exact hu h) h HST3.out.hS HLD3.out.rising.good HF.out
      have HB3 := Lib.hid (HB2.out.trans (hb3.mono HB2.out.size))
      have HK3 := Lib.hid hk3
      have HW3 := Lib.hid hW3
      clear hlk0 hu
      clear hb3 hst3 hk3 htx
      rw [hW3] at m0 m1 m2 m3 m4 n3 hlk
      clear hW3
      by_cases hu0 : 0 < u
      · have hu1 : decide (0 < u) = true := decide_eq_true hu0
        have HN := Lib.hid (HU.out hu0)
        clear HU
        dsimp only
        go_wp2_with fail
        rw [HT0.out, ← HW3.out]
        exact ⟨false, S, vo, ord, ps, rfl, HST3.out, Kept.of_below HB3.out _, fun j h => .inl h, .inr ⟨rfl, HN.out, rfl, rfl⟩⟩
      · have hu1 : decide (0 < u) = false := decide_eq_false hu0
        clear HU
        dsimp only
        go_wp2_with fail
        refine wp_label ?_
        rw [← HW3.out]
        have hq2 : W3.heap.size = w2.heap.size + 1 := by rw [HW3.out]; simp
        have hw2s := HB2.out.size
        clear m0 m1 m2 m3 m4 n3 hlk
        obtain ⟨m0, m1, m2, m3, m4, n3⟩ := HST3.out.cells
        go_wp2_with fail
        go_loopw [27] (fun i wr => ∃ k : Nat, ∃ vo' ps', k ≤ l.length ∧ i = .int .i64 k ∧ Hid (SrchSt wr l A c lo Bl B S vo' ord ps') ∧ Hid (Kept (Touch vo B) W3 wr) ∧ Hid (∀ j, vo'.ownBlock = some j → vo.ownBlock = some j ∨ W3.heap.size ≤ j) ∧ Hid (tryL (stepC f l S cs) (List.range k) = none)) (fun i _ => l.length - (intOf i).toNat)
        case atStart => exact ⟨0, vo, ps, by omega, rfl, HST3.out, Kept.refl _ _, fun j h => .inl h, rfl⟩
        case round =>
          obtain ⟨k, vo1, ps1, hk, rfl, hst, hkp, hown, htn⟩ := hrel
          clear m0 m1 m2 m3 m4 n3
          have hldr : Ledger wr b mb cs := by
            have h1 := HBB.out
            have h2 := HMB.out
            have h3 := HAP.out
            have hb3 := HLD3.out
            refine hb3.kept hkp.out ?_ ?_
            · rintro (e | e | e | e)
              · omega
              · omega
              · omega
              · exact (h3 b e).1 rfl
            · rintro (e | e | e | e)
              · omega
              · omega
              · omega
              · exact (h3 mb e).2 rfl
          have HLDR := Lib.hid hldr
          have hkr : wr.heap[w2.heap.size]? = some (.cells #[.int .i64 (bitsN S : Nat), .string tx] 98 (0, 0)) := by
            refine (hkp.out.block _ (by omega) ?_).trans HK3.out
            rintro (e | e | e | e)
            · omega
            · omega
            · omega
            · have := (HST.out.ho.lt _ e).2; omega
          have HKR := Lib.hid hkr
          obtain ⟨m0, m1, m2, m3, m4, n3⟩ := hst.out.cells
          have hwr := hkp.out.size
          clear hldr hkr
          by_cases h1 : k < l.length
          · have h2 : k < S.length := by have := HST.out.hS; omega
            have g1 : (k:Int) < (l.length : Int) := by omega
            have i2 : (0:Int) ≤ (k:Int) := by omega
            have d0 : wr.cell? ⟨B, k, none⟩ = some (.bool S[k]) := (cell_of_row _ _ k _ _ _ hst.out.gs).trans (by simp [h2])
            have f0 : wr.frozen? ⟨B, k, none⟩ = false := frozen_of_row _ _ _ _ _ hst.out.gs
            have hSk : S[k]? = some S[k] := List.getElem?_eq_getElem h2
            generalize S[k] = bq at *
            cases bq
            · go_wp2_with fail
              refine (cloneLedger b mb cs wr HLDR.out).mono ?_
              rintro e w5 ⟨b2, mb2, rfl, hl5, hb25, hmb25, hb5⟩
              have hst5 := hst.out.below hb5
              have HST5 := Lib.hid hst5
              have HL5 := Lib.hid hl5
              have HB5 := Lib.hid hb5
              clear m0 m1 m2 m3 m4 n3 d0 f0
              obtain ⟨m0, m1, m2, m3, m4, n3⟩ := hst5.cells
              obtain ⟨ai, hAi, hail, hci⟩ := hst5.hl.at_ h1
              obtain ⟨c0, c1, c2, c3, c4, c5, c6, c7, c8, c9⟩ := hci.call
              have hvx := HV.out _ (List.getElem_mem h1)
              have HGO : Hid (breaksL l S k (would cs l[k].op) = false → stepC f l S cs k = comp f l (S.set k true) (after cs l[k].op)) := step_goes h1 hSk
              have HBR : Hid (breaksL l S k (would cs l[k].op) = true → stepC f l S cs k = none) := step_breaks h1 hSk
              obtain ⟨x, hx⟩ : ∃ x, x = l[k] := ⟨_, rfl⟩
              rw [← hx] at c2 c3 c4 hvx HGO HBR
              subst hAi
              clear hst5 hl5 hb5 hci c0 c1 c5 c6 c7 c8 c9 hx
              dsimp only
              go_wp2_with fail
              have HDO : Hid (∀ W, Ledger W b2 mb2 cs → Calls Try.prog 45 #[.pointer (some ⟨b2, 0, none⟩), .agg #[.int .i64 x.op.kind, .int .i64 x.op.slot, .string x.op.value]] W fun e w' => e = .returned (.agg #[.int .i64 (would cs x.op).code, .int .i64 (would cs x.op).slot, .string (would cs x.op).value]) ∧ Ledger w' b2 mb2 (after cs x.op) ∧ Kept (LedS b2 mb2) W w') := fun W hW => doLedger b2 mb2 cs x.op hvx W hW
              have hlo := hst.out.hlo
              have hBl := hst.out.hBl
              have hai : ∀ o, (⟨(ai.add (k * 10)).block, o, none⟩ : Addr).block < lo := fun o => by show (ai.add (k * 10)).block < lo; rw [block_add]; exact hail
              have hail2 : (ai.add (k * 10)).block < lo := by rw [block_add]; exact hail
              have hown1 : ∀ j, vo1.ownBlock = some j → j < wr.heap.size := fun j e => (hst.out.ho.lt j e).2
              have KEY : Hid (∀ W, Kept (LedS b2 mb2) w5 W → W.cell? ⟨Bl, 0, none⟩ = some (.slice (some ai) l.length c) ∧ W.cell? ⟨B + 1, 0, none⟩ = some (.slice (some ⟨B, 0, none⟩) l.length l.length) ∧ W.cell? ⟨(ai.add (k * 10)).block, (ai.add (k * 10)).off + 2, none⟩ = some (.int .i64 x.op.kind) ∧ W.cell? ⟨(ai.add (k * 10)).block, (ai.add (k * 10)).off + 3, none⟩ = some (.int .i64 x.op.slot) ∧ W.cell? ⟨(ai.add (k * 10)).block, (ai.add (k * 10)).off + 4, none⟩ = some (.string x.op.value)) := fun W hW => by
                have h5 := HB5.out.size
                have hs : ∀ j o, j < B + 6 → W.cell? ⟨j, o, none⟩ = w5.cell? ⟨j, o, none⟩ := fun j o hj => World.cell?_of_block (hW.block j (by omega) (fun q => by rcases q with q | q <;> omega))
                exact ⟨(hs _ _ (by omega)).trans m0, (hs _ _ (by omega)).trans m1, (hs _ _ (by omega)).trans c2, (hs _ _ (by omega)).trans c3, (hs _ _ (by omega)).trans c4⟩
              have HKS : Hid (∀ W, Kept (LedS b2 mb2) w5 W → SrchSt W l (some ai) c lo Bl B S vo1 ord ps1) := fun W hW => HST5.out.kept hW fun j q => by
                rcases q with rfl | rfl
                · exact ⟨by omega, fun e => by have := hown1 _ e; omega⟩
                · exact ⟨by omega, fun e => by have := hown1 _ e; omega⟩
              have HI8 : Hid (l.length ≤ 9223372036854775806) := by show _ ≤ _; omega
              have HI1 := Lib.hid h1
              have HLOB : Hid (∀ W, SrchSt W l (some ai) c lo Bl B S vo1 ord ps1 → Rd Call.cells 10 W W.heap.size (some ai) l) := fun W h => h.hl.more (by have := h.lt; omega)
              clear hai hail2 hail hlo hBl hown1 hvx
              obtain ⟨br, hbr⟩ : ∃ br, br = breaksL l S k (would cs x.op) := ⟨_, rfl⟩
              have HBREQ := Lib.hid hbr
              clear hbr
              generalize would cs x.op = wq at *
              go_region_held3 (fun W => W.cell? ⟨Bl, 0, none⟩ = some (.slice (some ai) l.length c) ∧ W.cell? ⟨B + 1, 0, none⟩ = some (.slice (some ⟨B, 0, none⟩) l.length l.length) ∧ W.cell? ⟨(ai.add (k * 10)).block, (ai.add (k * 10)).off + 2, none⟩ = some (.int .i64 x.op.kind) ∧ W.cell? ⟨(ai.add (k * 10)).block, (ai.add (k * 10)).off + 3, none⟩ = some (.int .i64 x.op.slot) ∧ W.cell? ⟨(ai.add (k * 10)).block, (ai.add (k * 10)).off + 4, none⟩ = some (.string x.op.value))
                (first
                  | exact KEY.out _ HK7.out
                  | exact KEY.out _ HK6.out
                  | go_keep)
                (first
                  | (go_at_call 45
                     refine (HDO.out _ (by exact HL5.out)).mono ?_
                     rintro e w6 ⟨rfl, hl6, hk6⟩
                     have hk6' : Kept (LedS b2 mb2) w5 w6 := ⟨hk6.os, hk6.tape, hk6.output, hk6.size, hk6.block⟩
                     have HK6 := Lib.hid hk6'
                     have HL6 := Lib.hid hl6
                     have HST6 := Lib.hid (HKS.out _ hk6')
                     clear hl6 hk6 hk6')
                  | (go_at_call 44
                     refine (breaks_prog (some ai) (some ⟨B, 0, none⟩) c l.length l.length l.length k l S wq rfl rfl HST.out.hS HI1.out w6 HI8.out (HLOB.out _ HST6.out) HST6.out.rdS).mono ?_
                     rintro e w7 ⟨rfl, hb7⟩
                     rw [← HBREQ.out]
                     have HST7 := Lib.hid (HST6.out.below hb7)
                     have HL7 := Lib.hid (HL6.out.below hb7)
                     have HK7 := Lib.hid (HK6.out.trans (Kept.of_below hb7 (LedS b2 mb2)))
                     clear hb7))
              have hbw7 : Kept (Touch vo B) W3 w7 := by
                have h5 := HB5.out.size
                refine (hkp.out.trans2 (Kept.of_below HB5.out (Touch vo B)) (fun k _ h => h)).trans2 HK7.out fun j hj q => ?_
                rcases q with q | q <;> omega
              have HKT7 := Lib.hid hbw7
              clear hbw7 KEY HKS HDO HK6 HL6 HST6
              cases br
              · have hgo := HGO.out HBREQ.out.symm
                have HGO2 := Lib.hid hgo
                have hfs := falses_set hSk
                have hbs := bitsN_set hSk
                have hor := bits_or (s := bitsN S) (i := k) (by have := bitsN_lt S; have h9 := HST.out.hS; have : 2 ^ S.length ≤ 2 ^ 8 := Nat.pow_le_pow_right (by omega) (by omega); omega) (by omega) (bitsN_test hSk)
                have HOR := Lib.hid hor
                clear hor
                obtain ⟨Ao, co, rfl, hco⟩ := HST7.out.ho.form
                have hst7 := HST7.out
                obtain ⟨m0, m1, m2, m3, m4, n3⟩ := hst7.cells
                have d7 : ∃ u, w7.cell? ⟨B, k, none⟩ = some u := ⟨_, (cell_of_row _ _ k _ _ _ hst7.gs).trans (by simp [h2]; rfl)⟩
                have f7 : w7.frozen? ⟨B, k, none⟩ = false := frozen_of_row _ _ _ _ _ hst7.gs
                obtain ⟨_, d7⟩ := d7
                obtain ⟨W8, hW8⟩ : ∃ W8, W8 = w7.setCell ⟨B, k, none⟩ (.bool true) := ⟨_, rfl⟩
                have hst8 : SrchSt W8 l (some ai) c lo Bl B (S.set k true) (.slice Ao ord.length co) ord ps1 := by rw [hW8]; exact hst7.mark k true
                have hs8 : W8.heap.size = w7.heap.size := by rw [hW8]; simp [World.setCell]
                have hkt8 : Kept (Touch vo B) W3 W8 := by rw [hW8]; exact HKT7.out.setCell (p := ⟨B, k, none⟩) (fun _ => .inl rfl) _
                obtain ⟨m0', m1', m2', m3', m4', n3'⟩ := hst8.cells
                have hl8 : Ledger W8 b2 mb2 (after cs x.op) := by
                  have h5 := HB5.out.size
                  have h9 := hst8.lt
                  rw [hW8]
                  exact HL7.out.same (Below.heap_setCell _ _ _ _ (by show b2 ≠ B; omega)) (Below.heap_setCell _ _ _ _ (by show mb2 ≠ B; omega))
                obtain ⟨W9, hW9⟩ : ∃ W9, W9 = W8.alloc (.cells #[.int .i64 (k : Nat)] 3) := ⟨_, rfl⟩
                have hmd : Made icell 1 3 (B + 6) W9 (.slice Ao ord.length co) ord := by rw [hW9]; exact hst8.ho.alloc _
                have hrd : Rd icell 1 W9 (W8.heap.size + 1) (some ⟨W8.heap.size, 0, none⟩) [k] := by rw [hW9]; exact rd_one encI W8 k #[.int .i64 (k : Nat)] rfl 3
                have HW8 := Lib.hid hW8
                have HS8 := Lib.hid hs8
                have HKT8 := Lib.hid hkt8
                have HST8 := Lib.hid hst8
                have HL8 := Lib.hid hl8
                have HW9 := Lib.hid hW9
                have HMD := Lib.hid hmd
                have HRD := Lib.hid hrd
                have HOL : Hid (ord.length ≤ 8) := by show _ ≤ _; have := HO8.out; omega
                have hbz : B + 5 < W8.heap.size := hst8.lt
                have HBZ := Lib.hid hbz
                have HFS := Lib.hid hfs
                have HBS := Lib.hid hbs
                have HSK := Lib.hid hSk
                rw [hs8] at HRD
                rw [hW8] at m0' m1' m2' m3' m4' n3'
                clear hst7 hst8 hkt8 hl8 hmd hrd hgo hfs hbs hs8 hW8 hW9 hbz HGO HBR HBREQ hSk
                go_wp2_with (at_builtin; rw [← HW8.out, ← HW9.out]; go_loud (refine wpList_app (v := .slice Ao ord.length co) (xs := ord) (ys := [k]) rowInt encI rfl (.tmp 50) (.tmp 52) rfl (B + 6) rfl HMD.out rfl rfl HRD.out (by have := HOL.out; simp only [List.length_singleton]; omega) (by have := HOL.out; unfold maxLen; simp only [List.length_singleton]; omega) (by rw [HW9.out]; have := HBZ.out; simp; omega) ?_); intro v5 w9 hm9 hg9 hat9; obtain ⟨ord1, ho1⟩ : ∃ o, o = ord ++ [k] := ⟨_, rfl⟩; rw [← ho1] at hm9; have HO1 := Lib.hid ho1; clear ho1; obtain ⟨A5, c5, rfl, hc5⟩ := hm9.form; have hb9 : w9.heap[B + 4]? = some (.cells #[.slice Ao ord.length co] 23 (0, 0)) := (hg9.block (B + 4) (by rw [HW9.out]; have := HBZ.out; simp; omega) (fun e => by have h9 := (HST8.out.ho.lt (B + 4) e.symm).1; omega)).trans (by rw [HW9.out, heap_alloc_old _ _ (by have := HBZ.out; omega)]; exact HST8.out.bo); have n9 : w9.frozen? ⟨B + 4, 0, none⟩ = false := frozen_of_row _ _ _ _ _ hb9; have x9 : w9.cell? ⟨B + 4, 0, none⟩ = some (.slice Ao ord.length co) := cell_of_row _ _ 0 _ _ _ hb9; have HM9 := Lib.hid hm9; have HG9 := Lib.hid hg9; have HAT9 := Lib.hid hat9; have HC5 := Lib.hid hc5; clear hm9 hg9 hat9 hb9 hc5)
                obtain ⟨W10, hW10⟩ : ∃ W10, W10 = w9.setCell ⟨B + 4, 0, none⟩ (.slice A5 ord1.length c5) := ⟨_, rfl⟩
                have hk89 : Kept (fun j => (Value.slice Ao ord.length co).ownBlock = some j) W8 w9 := by
                  have h1 : Kept (fun j => (Value.slice Ao ord.length co).ownBlock = some j) W8 W9 := by rw [HW9.out]; exact (Kept.refl _ W8).alloc _
                  exact h1.trans (Kept.of_grown HG9.out)
                have hst10 : SrchSt W10 l (some ai) c lo Bl B (S.set k true) (.slice A5 ord1.length c5) ord1 ps1 := by rw [hW10]; exact HST8.out.order hk89 HM9.out
                have hown5 : ∀ j, (Value.slice A5 ord1.length c5).ownBlock = some j → (Value.slice Ao ord.length co).ownBlock = some j ∨ W8.heap.size ≤ j := fun j e => by
                  rcases HAT9.out with h | h
                  · exact .inl (by rw [← h]; exact e)
                  · rw [h] at e
                    injection e with e
                    refine .inr ?_
                    rw [HW9.out] at e
                    simp at e
                    omega
                have h5 := HB5.out.size
                have hz7 := HK7.out.size
                have hz8 := HS8.out
                have hwz := (hst.out.ho.lt)
                have hl10 : Ledger W10 b2 mb2 (after cs x.op) := by
                  rw [hW10]
                  have hne : ∀ j, wr.heap.size ≤ j → j < W8.heap.size → (w9.setCell ⟨B + 4, 0, none⟩ (.slice A5 ord1.length c5)).heap[j]? = W8.heap[j]? := fun j h1 h2 =>
                    (Below.heap_setCell _ _ _ _ (by show j ≠ B + 4; have := hst.out.lt; omega)).trans (hk89.block j h2 (fun e => by have := (hwz j e).2; omega))
                  exact HL8.out.same (hne b2 hb25 HL8.out.lt.1) (hne mb2 hmb25 HL8.out.lt.2)
                have hkt10 : Kept (Touch vo B) W3 W10 := by
                  rw [hW10]
                  refine (HKT8.out.trans2 hk89 fun j hj e => ?_).setCell (p := ⟨B + 4, 0, none⟩) (fun _ => .inr (.inr (.inl rfl))) _
                  rcases hown.out j e with h | h
                  · exact .inr (.inr (.inr h))
                  · omega
                have hap5 : ∀ j, (Value.slice A5 ord1.length c5).ownBlock = some j → j ≠ b2 ∧ j ≠ mb2 := fun j e => by
                  have h8 := HL8.out.lt
                  rcases hown5 j e with h | h
                  · have := (hwz j h).2; omega
                  · omega
                have hown6 : ∀ j, (Value.slice A5 ord1.length c5).ownBlock = some j → vo.ownBlock = some j ∨ W3.heap.size ≤ j := fun j e => by
                  rcases hown5 j e with h | h
                  · exact hown.out j h
                  · exact .inr (by omega)
                have ho1 := HO1.out
                have hlo1 : Hid (ord1.length = ord.length + 1) := by show _ = _; rw [ho1]; simp
                have hihk := fun W11 (hW11 : W11.heap = W10.heap) => HIH.out (S.set k true) (.slice A5 ord1.length c5) ord1 ps1 b2 mb2 (after cs x.op) W11 (by have := HF.out; have := HFS.out; omega) (by have := HO8.out; have := HFS.out; have := hlo1.out; omega)
                  (hst10.frame fun j _ => by rw [hW11]) (hl10.same (by rw [hW11]) (by rw [hW11])) (by have := hst.out.lt; omega) (by have := hst.out.lt; omega) hap5
                rw [HBS.out] at hihk
                have HIHK := Lib.hid hihk
                have HST10 := Lib.hid hst10
                have HKT10 := Lib.hid hkt10
                have HOWN6 := Lib.hid hown6
                obtain ⟨m0, m1, m2, m3, m4, n3⟩ := hst10.cells
                simp only [srchFn] at m4
                clear hihk hst10 hkt10 hown6 hap5 hl10 hk89 hown5 m0 m1 m2 m3 n3 m0' m1' m2' m3' m4' n3' ho1 hwz h5 hz7 hz8
                have HW10 := Lib.hid hW10
                clear hW10
                go_wp2_with fail
                rw [← HW10.out]
                go_still_tail 6, (by kernel_rfl)
                change wpList _ _ _ _ _ W10.drew
                obtain ⟨W11, hW11⟩ : ∃ W11, W11 = W10.drew := ⟨_, rfl⟩
                have hh11 : W11.heap = W10.heap := by rw [hW11]; rfl
                have hkt11 : Kept (Touch vo B) W3 W11 := by rw [hW11]; exact HKT10.out.drewN 1
                have hcall := HIHK.out W11 hh11
                have HCALL := Lib.hid hcall
                have HKT11 := Lib.hid hkt11
                have HST11 := Lib.hid (HST10.out.frame (W' := W11) fun j _ => by rw [hh11])
                rw [← hW11]
                clear hcall hkt11 hW11 hh11 m4
                go_wp2_with fail
                rw [HOR.out]
                with_reducible refine HCALL.out.mono ?_
                rintro e W12 ⟨v, S2, vo2, ord2, ps2, rfl, hst12, hk12, hown12, hcase⟩
                have hkW12 : Kept (Touch vo B) W3 W12 := HKT11.out.trans2 hk12 fun j hj e => by
                  rcases e with e | e | e | e
                  · exact .inl e
                  · exact .inr (.inl e)
                  · exact .inr (.inr (.inl e))
                  · rcases HOWN6.out j e with h | h
                    · exact .inr (.inr (.inr h))
                    · omega
                have hz11 := HKT11.out.size
                have hz3 := HB3.out.size
                have hownW : ∀ j, vo2.ownBlock = some j → vo.ownBlock = some j ∨ W3.heap.size ≤ j := fun j e => by
                  rcases hown12 j e with h | h
                  · exact HOWN6.out j h
                  · exact .inr (by omega)
                have HKW12 := Lib.hid hkW12
                have HOWNW := Lib.hid hownW
                have HST12 := Lib.hid hst12
                clear hkW12 hownW hst12 hk12 hown12
                rcases hcase with ⟨rfl, ks, hks, rfl⟩ | ⟨rfl, hno, rfl, rfl⟩
                · have hfin : comp (f + 1) l S cs = some (k :: ks) := HTR.out.trans (try_some htn.out h1 (HGO2.out.trans hks))
                  have HFIN := Lib.hid hfin
                  clear hfin hks
                  dsimp only
                  go_wp2_with fail
                  rw [HT0.out]
                  exact ⟨true, S2, vo2, ord1 ++ ks, ps2, rfl, HST12.out, (Kept.of_below HB3.out _).trans2 HKW12.out (fun _ _ h => h), fun j e => (HOWNW.out j e).imp_right fun h => by omega, .inl ⟨rfl, k :: ks, HFIN.out, by rw [HO1.out]; simp⟩⟩
                · have hnx : Hid (tryL (stepC f l S cs) (List.range (k + 1)) = none) := try_none_succ htn.out (HGO2.out.trans hno)
                  obtain ⟨n1, hn1⟩ : ∃ n1, n1 = ord2.length := ⟨_, rfl⟩
                  obtain ⟨A6, c6, rfl, hc6⟩ := HST12.out.ho.form
                  rw [← hn1] at HST12 HOWNW hc6
                  obtain ⟨W13, hW13⟩ : ∃ W13, W13 = W12.setCell ⟨B, k, none⟩ (.bool false) := ⟨_, rfl⟩
                  have hst12 := HST12.out
                  have hss : (S.set k true).set k false = S := by
                    rw [List.set_set]
                    apply List.ext_getElem?
                    intro j
                    by_cases hj : k = j
                    · subst hj; rw [List.getElem?_set_self (by omega), HSK.out]
                    · rw [List.getElem?_set_ne hj]
                  have hst13 : SrchSt W13 l (some ai) c lo Bl B S (.slice A6 n1 c6) ord2 ps2 := by
                    have := hst12.mark k false
                    rw [hss] at this
                    rw [hW13]; exact this
                  obtain ⟨m0, m1, m2, m3, m4, n3⟩ := hst12.cells
                  obtain ⟨m0', m1', m2', m3', m4', n3'⟩ := hst13.cells
                  have d12 : ∃ u, W12.cell? ⟨B, k, none⟩ = some u := ⟨_, (cell_of_row _ _ k _ _ _ hst12.gs).trans (by simp [h2]; rfl)⟩
                  obtain ⟨_, d12⟩ := d12
                  have f12 : W12.frozen? ⟨B, k, none⟩ = false := frozen_of_row _ _ _ _ _ hst12.gs
                  have hnn : n1 = ord.length + 1 := by rw [hn1, HO1.out]; simp
                  have kN : IntKind.i64.wrap ((n1:Int) - 1) = (ord.length : Int) := by rw [hnn]; rw [show (((ord.length + 1 : Nat) : Int) - 1) = (ord.length : Int) by omega]; exact IntWalk.i64_in _ (by have := HOL.out; omega)
                  have HNN := Lib.hid hnn
                  have HST13 := Lib.hid hst13
                  have HW13 := Lib.hid hW13
                  have HC6 := Lib.hid hc6
                  rw [hW13] at m0' m1' m2' m3' m4' n3'
                  have hmc : Made icell 1 3 (B + 6) W13 (.slice A6 ord.length c6) ord := by
                    have h9 := hst13.ho.cutTo encI.len (m := ord.length) (by omega) (hst13.ho.addrN (by omega))
                    rwa [HO1.out, List.take_left] at h9
                  have HMC := Lib.hid hmc
                  have hsl2 : ∀ W : World, (Instr.slice 23 (.slice A6 n1 c6) none (some (.int .i64 ord.length)) none).run Try.prog W = .ok (.slice A6 ord.length c6) W := by
                    have hu2 := Try.underlying23
                    have huc : ord.length ≤ c6 := by omega
                    have huc2 : ord.length ≤ n1 := by omega
                    intro W
                    cases A6 with
                    | none => go_simp
                    | some ad => go_simp
                  clear hst12 hst13 hss hW13 hnn hn1 hc6 hno hmc
                  dsimp only
                  go_wp2_with (first | (rw [hsl2]) | fail)
                  rw [← HW13.out]
                  go_roundw
                  case rel => exact ⟨k + 1, .slice A6 ord.length c6, ps2, by omega, by go_num, HST13.out.order (Kept.refl _ _) HMC.out, by rw [HW13.out]; exact (HKW12.out.setCell (p := ⟨B, k, none⟩) (fun _ => .inl rfl) _).setCell (p := ⟨B + 4, 0, none⟩) (fun _ => .inr (.inr (.inl rfl))) _, fun j e => HOWNW.out j (by rw [own_len (m := ord.length)]; exact e), hnx.out⟩
                  case measure => simp [intOf]; omega
              · have hnx : Hid (tryL (stepC f l S cs) (List.range (k + 1)) = none) := try_none_succ htn.out (HBR.out HBREQ.out.symm)
                clear HGO HBR HBREQ
                go_wp2_with fail
                go_roundw
                case rel => exact ⟨k + 1, vo1, ps1, by omega, by go_num, HST7.out, HKT7.out, hown.out, hnx.out⟩
                case measure => simp [intOf]; omega
            · have hnx : Hid (tryL (stepC f l S cs) (List.range (k + 1)) = none) := try_none_succ htn.out (step_stood hSk)
              clear hSk
              go_wp2_with fail
              go_roundw
              case rel => exact ⟨k + 1, vo1, ps1, by omega, by go_num, hst.out, hkp.out, hown.out, hnx.out⟩
              case measure => simp [intOf]; omega
          · have hkn : k = l.length := by omega
            have hcomp : comp (f + 1) l S cs = none := HTR.out.trans (by rw [← hkn]; exact htn.out)
            have g2 : decide ((k:Int) < (l.length : Int)) = false := decide_eq_false (by omega)
            have g3 : decide (k < l.length) = false := decide_eq_false h1
            have e0 : wr.cell? ⟨w2.heap.size, 0, none⟩ = some (.int .i64 (bitsN S : Nat)) := cell_of_row _ _ 0 _ _ _ HKR.out
            have e1 : wr.cell? ⟨w2.heap.size, 1, none⟩ = some (.string tx) := cell_of_row _ _ 1 _ _ _ HKR.out
            have HC := Lib.hid hcomp
            have hz3 := HB3.out.size
            have hvn := hst.out.vain.snoc HST3.out.hS HLDR.out.rising.good HF.out hcomp 1
            rw [← HTX.out] at hvn
            have HVN := Lib.hid hvn
            clear hcomp hvn hkn
            go_wp2_with (at_mapUpdate; refine wpList_updateK (ev := evInt) hst.out.mv keyTried rfl _ _ _ rfl Try.underlying92 rfl ((bitsN S : Int), tx) rfl 1 rfl ?_; intro w13 hm13 hg13 hs13; have HM13 := Lib.hid hm13; have HG13 := Lib.hid hg13; clear hm13 hg13)
            rw [HT0.out]
            exact ⟨false, S, vo1, ord, _, rfl, hst.out.more HG13.out HM13.out HVN.out, ((Kept.of_below HB3.out _).trans2 hkp.out (fun _ _ h => h)).trans2 (Kept.of_grown HG13.out) (fun j _ e => .inr (.inl (Option.some.inj e).symm)), fun j e => (hown.out j e).imp_right fun h => by omega, .inr ⟨rfl, HC.out, rfl, rfl⟩⟩
end Go.Proofs.Ytmfidhlhcochoaa
