/- The book's lists of kind Int: each is marked, grown by seventy, looked at: each still shows its own. Conditions: lists in memory of their own, none in another's block; lengths within Go's own limits.
The book with lists of numbers alone: what is put into it; Apart answers true. Conditions: lists in memory of their own, no two in one block.
append to a row of the call's own, which stays what it was in its own length; stores into such rows; several rows of one kind. Plain memory. Conditions: none.
Values that calls handed out, each in memory of its own; rows of calls and of numbers of one walk. Plain memory. Conditions: none.
LinearOwn: the lists of its walk, what lives behind the book's first list. Plain lists and memory. Conditions: none. -/
import Derived.Test.YtmfidhlhcochoaaBookPlain
import Derived.Test.YtmfidhlhcochoaaOpen3
import Derived.Test.YtmfidhlhcochoaaHolds
import Derived.Deep.MidRow
import Derived.Test.YtmfidhlhcochoaaSrchSt
import Derived.Test.YtmfidhlhcochoaaChecks18
import Derived.Test.YtmfidhlhcochoaaWorst18
import Derived.Test.YtmfidhlhcochoaaSearches18
namespace Go.Proofs.Ytmfidhlhcochoaa
open Go.RowKit
set_option linter.unusedVariables false
set_option linter.unusedSimpArgs false

def mkInt (i k : Nat) : Int := -1 - 100003 * ((i : Int) + 1) - 7 * (k : Int)
theorem rowsInt : RowT Try.prog 54 23 1 24 := RowT.of (z := .slice none 0 0) Try.underlying54 (by kernel_rfl) rfl (by omega)
theorem sizeIntBk : (Try.prog.info? 3).map (·.size) = some 1 := by kernel_rfl
set_option maxRecDepth 100000 in
theorem markIntBk (i k : Nat) (w : World) (hi : i ≤ 1000) (hk : k ≤ 140737488355328) : Calls Try.prog 82 #[.int .i64 i, .int .i64 k] w fun e w' => e = .returned (.int .i64 (mkInt i k)) ∧ Below w.heap.size w w' := by
  obtain ⟨r, hr⟩ : ∃ r, r = mkInt i k := ⟨_, rfl⟩
  rw [← hr]
  unfold mkInt at hr
  have q1 : IntKind.i64.wrap ((i:Int) + 1) = (i:Int) + 1 := IntWalk.i64_in _ (by omega)
  have q2 : IntKind.i64.wrap (100003 * ((i:Int) + 1)) = 100003 * ((i:Int) + 1) := IntWalk.i64_in _ (by omega)
  have q3 : IntKind.i64.wrap (-1 - 100003 * ((i:Int) + 1)) = -1 - 100003 * ((i:Int) + 1) := IntWalk.i64_in _ (by omega)
  have q4 : IntKind.i64.wrap (7 * (k:Int)) = 7 * (k:Int) := IntWalk.i64_in _ (by omega)
  have q5 : IntKind.i64.wrap (-1 - 100003 * ((i:Int) + 1) - 7 * (k:Int)) = r := by rw [IntWalk.i64_in _ (by omega), hr]
  clear hr
  go_enter Try.func82, Try.ntmps82
  go_wp2_with fail
  go_ret
  exact ⟨rfl, Below.refl _ _⟩
theorem putInt_eq (W : World) (g o : Nat) (x : Int) : putCells W g o (zcell x) = (W.setCell ⟨g, o, none⟩ (.int .i64 x)) := rfl

/-- The row of the book's slices, read in any world that keeps all but the lists' own blocks. -/
theorem slicesInt {base : Nat} {w wq : World} {Av : Option Addr} {n cv : Nat} {L : List Bk} (hv : Made slc 1 23 base w (.slice Av n cv) (L.map Bk.x)) (hL : ∀ l ∈ L, ∃ cs, w.heap[l.g]? = some (.cells cs 3 (0, 0))) (hk : Kept (fun j => ∃ l ∈ L, j = l.g) w wq) :
    Made slc 1 23 base wq (.slice Av n cv) (L.map Bk.x) := by
  refine hv.same fun b hb => hk.block b (hv.lt b hb).2 fun ⟨l, hl, e⟩ => ?_
  obtain ⟨cs, h1⟩ := hv.cell_block hb
  obtain ⟨cs', h2⟩ := hL l hl
  subst e
  rw [h2] at h1; cases h1

set_option maxRecDepth 100000 in
set_option maxHeartbeats 8000000 in
theorem apartInt (b : Nat) (v : Value) (L : List Bk) (base : Nat) (w : World) (hc : w.cell? ⟨b, 1, none⟩ = some v) (hv : Made slc 1 23 base w v (L.map Bk.x)) (hl : L.length ≤ 1000) (hn : ∀ l ∈ L, (l.n + 70) * 8 ≤ 140737488355328) (hL : Lists zcell 1 3 base w L) (hbase : base ≤ w.heap.size) :
    Calls Try.prog 53 #[.pointer (some ⟨b, 0, none⟩)] w fun e w' => e = .returned (.bool true) ∧ Kept (fun j => ∃ l ∈ L, j = l.g) w w' := by
  obtain ⟨Av, cv, rfl, hcv⟩ := hv.form
  have hLT : ∀ l ∈ L, ∃ cs, w.heap[l.g]? = some (.cells cs 3 (0, 0)) := fun l hl => by
    obtain ⟨xs, _, hm⟩ := hL.made l hl
    exact hm.cell_block rfl
  have HSL := Lib.hid (fun wq (hk : Kept (fun j => ∃ l ∈ L, j = l.g) w wq) => slicesInt hv hLT hk)
  have HN := Lib.hid hn
  have HAP := Lib.hid hL.apart
  have HLL : Hid (∀ l ∈ L, l.g < w.heap.size) := fun l hl => by obtain ⟨xs, _, hm⟩ := hL.made l hl; exact (hm.lt l.g rfl).2
  have HM0 : Hid (MarkedAt mkInt zcell 1 3 base w L 0 0) := MarkedAt.start hL
  have hlm : (L.map Bk.x).length = L.length := List.length_map _
  rw [hlm] at HSL hc hcv
  clear hv hLT hn hL hlm hcv
  go_enter Try.func53, Try.ntmps53
  go_wp2_with fail
  go_loopw [4, 5] (fun i _ wr => ∃ p : Nat, p ≤ L.length ∧ i = .int .i64 p ∧ Hid (MarkedAt mkInt zcell 1 3 base wr L p 0) ∧ Hid (Kept (fun j => ∃ l ∈ L, j = l.g) w wr)) (fun i _ _ => L.length - (intOf i).toNat)
  case atStart => exact ⟨0, by omega, rfl, HM0.out, Kept.refl _ _⟩
  case round =>
    obtain ⟨p, hp, rfl, hmr, hkr⟩ := hrel
    by_cases h1 : p < L.length
    · have g1 : decide ((p:Int) < (L.length:Int)) = true := decide_eq_true (by omega)
      have g1b : decide (p < L.length) = true := decide_eq_true h1
      have k1 : IntKind.i64.wrap ((p:Int) + 1) = (p:Int) + 1 := IntWalk.i64_in _ (by omega)
      obtain ⟨l, hl0⟩ : ∃ l, l = L[p] := ⟨_, rfl⟩
      have hlp : L[p]? = some l := by rw [hl0]; exact List.getElem?_eq_getElem h1
      have HLP := Lib.hid hlp
      have hnl := HN.out l (List.mem_of_getElem? hlp)
      have hln : l.n ≤ 140737488355328 := by omega
      have hp1 : p ≤ 1000 := by omega
      obtain ⟨av, hAv, hsl0⟩ : ∃ av, Av = some av ∧ ∀ wq, Kept (fun j => ∃ l ∈ L, j = l.g) w wq → wq.cell? (av.add (p * 1)) = some (.slice (some ⟨l.g, 0, none⟩) l.n l.c) := by
        have hx : (L.map Bk.x)[p]? = some l.x := by rw [List.getElem?_map, hlp]; rfl
        obtain ⟨av, e, _, hat⟩ := Made.rd' encSlc.len (HSL.out w (Kept.refl _ _)) p l.x hx
        refine ⟨av, e, fun wq hk => ?_⟩
        obtain ⟨av', e', _, hat⟩ := Made.rd' encSlc.len (HSL.out wq hk) p l.x hx
        rw [e] at e'; cases e'
        exact hat 0 _ rfl
      rw [Nat.mul_one] at hsl0
      subst hAv
      have HSLP := Lib.hid hsl0
      clear hl0 hlp hsl0 hnl
      obtain ⟨g, n, c⟩ := l
      simp only at HSLP hln
      go_wp2_with fail
      go_loopw [5] (fun kk wq => ∃ q : Nat, q ≤ n ∧ kk = .int .i64 q ∧ Hid (MarkedAt mkInt zcell 1 3 base wq L p q) ∧ Hid (Kept (fun j => ∃ l ∈ L, j = l.g) w wq)) (fun kk _ => n - (intOf kk).toNat)
      case atStart => exact ⟨0, by omega, rfl, hmr.out, hkr.out⟩
      case round =>
        obtain ⟨q, hq, rfl, hmq, hkq⟩ := hrel
        have w0 := HSLP.out wr hkq.out
        by_cases h2 : q < n
        · have g2 : decide ((q:Int) < (n:Int)) = true := decide_eq_true (by omega)
          have g2b : decide (q < n) = true := decide_eq_true h2
          have k2 : IntKind.i64.wrap ((q:Int) + 1) = (q:Int) + 1 := IntWalk.i64_in _ (by omega)
          have HMK := Lib.hid (fun W => markIntBk p q W hp1 (by omega))
          have i0 : (0:Int) ≤ (q:Int) := by omega
          have i1 : (0:Int) ≤ (p:Int) := by omega
          have i2 : (q:Int) < (n:Int) := by omega
          have i3 : (p:Int) < (L.length:Int) := by omega
          go_wp2_with fail
          go_region_held3 (fun W => W.cell? (av.add p) = some (.slice (some ⟨g, 0, none⟩) n c))
            (first
              | with_reducible exact HF6.out
              | with_reducible exact HF5.out
              | exact HF6.out
              | go_keep)
            (first
              | (go_at_call 82
                 refine (HMK.out _).mono ?_
                 rintro e w5 ⟨rfl, hb5⟩
                 have HF5 := Lib.hid (HSLP.out w5 (hkq.out.trans (Kept.of_below (a := wr) (b := w5) (by exact ⟨hb5.os, hb5.tape, hb5.output, hb5.size, hb5.block⟩) _)))
                 have hm5 : MarkedAt mkInt zcell 1 3 base w5 L p q := hmq.out.below ⟨hb5.os, hb5.tape, hb5.output, hb5.size, hb5.block⟩
                 have HB5 : Hid (Below wr.heap.size wr w5) := ⟨hb5.os, hb5.tape, hb5.output, hb5.size, hb5.block⟩
                 obtain ⟨xs5, x1, x2, _, _⟩ := hm5 p _ HLP.out
                 have hst5 := x2.stepped encZ x1 h2 (mkInt p q)
                 simp only [Stepped, zcell, Nat.add_zero, Nat.zero_add, Nat.reduceAdd, Nat.mul_one] at hst5
                 obtain ⟨⟨_, _⟩, _, _⟩ := hst5
                 have hkp5 : Kept (fun j => ∃ l ∈ L, j = l.g) w (putCells w5 g (q * 1) (zcell (mkInt p q))) := (hkq.out.trans (Kept.of_below HB5.out _)).trans (putCells_kept.mono (fun j _ e => ⟨_, List.mem_of_getElem? HLP.out, e⟩))
                 have hm6 : MarkedAt mkInt zcell 1 3 base (putCells w5 g (q * 1) (zcell (mkInt p q))) L p (q + 1) := MarkedAt.step (l := ⟨g, n, c⟩) encZ.len (by omega) HAP.out hm5 HLP.out h2
                 rw [putInt_eq, Nat.mul_one] at hkp5 hm6
                 have HF6 := Lib.hid (HSLP.out _ hkp5)
                 have HKP5 := Lib.hid hkp5
                 have HM5 := Lib.hid hm6
                 clear hkp5 hm6
                 clear x1 x2 hm5 hb5))
          all_goals
            go_wp2_with fail
            go_roundw
            case rel => exact ⟨q + 1, by omega, by go_num, HM5.out, HKP5.out⟩
            case measure => simp [intOf]; omega
        · have g2 : decide ((q:Int) < (n:Int)) = false := decide_eq_false (by omega)
          have g2b : decide (q < n) = false := decide_eq_false h2
          go_wp2_with fail
          go_roundw
          case rel => exact ⟨p + 1, by omega, by go_num, hmq.out.next HLP.out (by simp only; omega), hkq.out⟩
          case measure => simp [intOf]; omega
    · have g1 : decide ((p:Int) < (L.length:Int)) = false := decide_eq_false (by omega)
      have g1b : decide (p < L.length) = false := decide_eq_false h1
      obtain rfl : p = L.length := by omega
      have HG0 : Hid (GrownAt mkInt zcell 1 3 base wr L [] 0) := GrownAt.start hmr.out encZ.len
      have HK0 := Lib.hid hkr.out
      clear hmr hkr HM0 g1 g1b h1
      go_wp2_with fail
      generalize wr = w2 at *
      go_loopw [6, 7, 8, 9] (fun gr i _ _ wr => ∃ (p : Nat) (G : List Bk) (Ag : Option Addr) (cg : Nat), p ≤ L.length ∧ i = .int .i64 p ∧ gr = .slice Ag p cg ∧ Hid (G.length = p) ∧ Hid (Made slc 1 23 w.heap.size wr (.slice Ag p cg) (G.map Bk.x)) ∧ Hid (GrownAt mkInt zcell 1 3 base wr L G p) ∧ Hid (Kept (fun j => ∃ l ∈ L, j = l.g) w wr)) (fun _ i _ _ _ => L.length - (intOf i).toNat)
      case atStart => exact ⟨0, [], none, 0, by omega, rfl, rfl, rfl, Made.nil _ _ _, HG0.out, HK0.out⟩
      case round =>
        obtain ⟨p, G, Ag, cg, hp, rfl, rfl, hGl, hmg, hgr, hkr⟩ := hrel
        by_cases h1 : p < L.length
        · have g1 : decide ((p:Int) < (L.length:Int)) = true := decide_eq_true (by omega)
          have g1b : decide (p < L.length) = true := decide_eq_true h1
          have k1 : IntKind.i64.wrap ((p:Int) + 1) = (p:Int) + 1 := IntWalk.i64_in _ (by omega)
          obtain ⟨l, hl0⟩ : ∃ l, l = L[p] := ⟨_, rfl⟩
          have hlp : L[p]? = some l := by rw [hl0]; exact List.getElem?_eq_getElem h1
          have HLP := Lib.hid hlp
          have hnl := HN.out l (List.mem_of_getElem? hlp)
          have hln : l.n + 70 ≤ 140737488355328 := by omega
          have HNL := Lib.hid hnl
          have hp1 : p ≤ 1000 := by omega
          obtain ⟨av, hAv, hsl0⟩ : ∃ av, Av = some av ∧ ∀ wq, Kept (fun j => ∃ l ∈ L, j = l.g) w wq → wq.cell? (av.add (p * 1)) = some (.slice (some ⟨l.g, 0, none⟩) l.n l.c) := by
            have hx : (L.map Bk.x)[p]? = some l.x := by rw [List.getElem?_map, hlp]; rfl
            obtain ⟨av, e, _, hat⟩ := Made.rd' encSlc.len (HSL.out w (Kept.refl _ _)) p l.x hx
            refine ⟨av, e, fun wq hk => ?_⟩
            obtain ⟨av', e', _, hat⟩ := Made.rd' encSlc.len (HSL.out wq hk) p l.x hx
            rw [e] at e'; cases e'
            exact hat 0 _ rfl
          rw [Nat.mul_one] at hsl0
          subst hAv
          have w0 := hsl0 wr hkr.out
          have HGW : Hid (GrowAt mkInt zcell 1 3 base wr L G p l l 0) := GrowAt.start hgr.out hlp HAP.out
          have HSW : Hid (w.heap.size ≤ wr.heap.size) := hkr.out.size
          clear hl0 hlp hsl0 hnl
          go_wp2_with fail
          go_loopw [8, 9] (fun gv m wq => ∃ (q : Nat) (c : Bk), q ≤ 70 ∧ m = .int .i64 q ∧ gv = .slice (some ⟨c.g, 0, none⟩) c.n c.c ∧ Hid (GrowAt mkInt zcell 1 3 base wq L G p l c q) ∧ Hid (c.g = l.g ∨ w.heap.size ≤ c.g) ∧ Hid (Made slc 1 23 w.heap.size wq (.slice Ag p cg) (G.map Bk.x)) ∧ Hid (Kept (fun j => ∃ l ∈ L, j = l.g) w wq)) (fun _ m _ => 70 - (intOf m).toNat)
          case atStart => exact ⟨0, l, by omega, rfl, rfl, HGW.out, .inl rfl, hmg.out, hkr.out⟩
          case round =>
            obtain ⟨q, cb, hq, rfl, rfl, hgq, hcl, hmq, hkq⟩ := hrel
            have hcn := hgq.out.cn
            by_cases h2 : q < 70
            · have g2 : decide ((q:Int) < 70) = true := decide_eq_true (by omega)
              have k2 : IntKind.i64.wrap ((q:Int) + 1) = (q:Int) + 1 := IntWalk.i64_in _ (by omega)
              have hcn2 : cb.n + 1 ≤ l.n + 70 := by omega
              have HMK := Lib.hid (fun W => markIntBk p cb.n W hp1 (by omega))
              have HCN := Lib.hid hcn
              have hcl2 : (marks mkInt p cb.n).length = cb.n := marks_length _ _ _
              have HCL2 := Lib.hid hcl2
              have hkb : base ≤ wr.heap.size := by have := hkq.out.size; omega
              clear hcn hcl2
              obtain ⟨cbg, cbn, cbc⟩ := cb
              simp only at hcn2 HCN HCL2 HMK
              go_wp2_with (first
                | (go_at_call 82
                   refine (HMK.out _).mono ?_
                   rintro e w5 ⟨rfl, hb5⟩
                   have HG5 := Lib.hid ((hgq.out.below hb5).below ((Below.refl _ w5).alloc (Nat.le_refl _) (.cells #[.int .i64 (mkInt p cbn)] 3)))
                   have HS5 : Hid (wr.heap.size ≤ w5.heap.size) := hb5.size
                   have HM5 := Lib.hid ((hmq.out.below hb5 (fun b e => (hmq.out.lt b e).2)).alloc (.cells #[.int .i64 (mkInt p cbn)] 3))
                   have HK5 := Lib.hid ((hkq.out.trans (Kept.of_below hb5 _)).alloc (.cells #[.int .i64 (mkInt p cbn)] 3))
                   have HR5 := Lib.hid (rd_one encZ w5 (mkInt p cbn) #[.int .i64 (mkInt p cbn)] rfl 3)
                   clear hb5)
                | (at_builtin
                   refine wpList_app2 (g := cbg) (n := cbn) (cap := cbc) (xs := marks mkInt p cbn) (y := mkInt p cbn) rowInt encZ rfl (.tmp 54) (.tmp 59) rfl base rfl HCL2.out.symm HG5.out.cur rfl rfl HR5.out (by rw [HCL2.out]; have := HNL.out; omega) (by rw [HCL2.out]; unfold maxLen; omega) (by simp; have := HS5.out; omega) ?_
                   intro b6 w6 hbn hm6 hg6
                   have HBN := Lib.hid hbn
                   have HM6 := Lib.hid hm6
                   have HG6 := Lib.hid hg6
                   clear hbn hm6 hg6))
              go_roundw
              case rel =>
                have hw5 : w.heap.size ≤ (w5.alloc (.cells #[.int .i64 (mkInt p cbn)] 3)).heap.size := HK5.out.size
                refine ⟨q + 1, b6, by omega, by go_num, rfl, HG5.out.step encZ.len HLP.out (fun j b hj => ⟨_, List.getElem?_eq_getElem (by have h3 := (List.getElem?_eq_some_iff.1 hj).1; have h4 := hGl.out; omega)⟩) HBN.out HM6.out HG6.out, ?_, ?_, ?_⟩
                · rcases HG6.out with ⟨e, _⟩ | ⟨e, _⟩
                  · rw [e]; exact hcl.out
                  · exact .inr (by omega)
                · refine HM5.out.same fun j ej => ?_
                  have hj := HM5.out.lt j ej
                  rcases HG6.out with ⟨e, hgb⟩ | ⟨e, hgb⟩
                  · refine hgb.block j hj.2 fun e2 => ?_
                    obtain ⟨cs, h3⟩ := HM5.out.cell_block ej
                    obtain ⟨cs', h4⟩ := HG5.out.cur.cell_block (b := cbg) rfl
                    cases e2
                    rw [h3] at h4; cases h4
                  · exact hgb.block j hj.2
                · rcases HG6.out with ⟨e, hgb⟩ | ⟨e, hgb⟩
                  · refine ⟨hgb.os.trans HK5.out.os, hgb.tape.trans HK5.out.tape, hgb.output.trans HK5.out.output, Nat.le_trans HK5.out.size hgb.size, fun j hj hn => (hgb.block j (by omega) fun e2 => ?_).trans (HK5.out.block j hj hn)⟩
                    cases e2
                    rcases hcl.out with e3 | e3
                    · exact hn ⟨l, List.mem_of_getElem? HLP.out, e3⟩
                    · omega
                  · exact HK5.out.trans (Kept.of_below hgb _)
              case measure => simp [intOf]; omega
            · have g2 : decide ((q:Int) < 70) = false := decide_eq_false (by omega)
              obtain rfl : q = 70 := by omega
              obtain ⟨cbg, cbn, cbc⟩ := cb
              have HGL := hGl.out
              have hGL2 : (G.map Bk.x).length = p := by rw [List.length_map]; exact HGL
              have HFN := Lib.hid (hgq.out.finish HLP.out h1)
              have HM7 := Lib.hid (hmq.out.alloc (.cells #[.slice (some ⟨cbg, 0, none⟩) cbn cbc] 23))
              have HR7 := Lib.hid (rd_one encSlc wr (Bk.x ⟨cbg, cbn, cbc⟩) #[.slice (some ⟨cbg, 0, none⟩) cbn cbc] rfl 23)
              have HK7 := Lib.hid (hkq.out.alloc (.cells #[.slice (some ⟨cbg, 0, none⟩) cbn cbc] 23))
              have HSW7 : Hid (w.heap.size ≤ wr.heap.size) := hkq.out.size
              have HGL3 := Lib.hid hGL2
              clear HGL hGL2 hcn
              go_wp2_with (at_builtin; refine wpList_app (v := .slice Ag p cg) (xs := G.map Bk.x) (ys := [Bk.x ⟨cbg, cbn, cbc⟩]) rowsInt encSlc rfl (.tmp 61) (.tmp 63) rfl w.heap.size rfl HM7.out rfl rfl HR7.out (by rw [HGL3.out]; simp only [List.length_singleton]; omega) (by rw [HGL3.out]; unfold maxLen; simp only [List.length_singleton]; omega) (by simp; have := HSW7.out; omega) ?_; intro v8 w8 hm8 hg8 hat8; have HM8 := Lib.hid hm8; have HG8 := Lib.hid hg8; clear hm8 hg8 hat8)
              go_roundw
              case rel =>
                obtain ⟨A8, c8, hv8, hc8⟩ := HM8.out.form
                have hl8 : (G.map Bk.x ++ [Bk.x ⟨cbg, cbn, cbc⟩]).length = p + 1 := by rw [List.length_append, HGL3.out]; rfl
                have hm8 := HM8.out
                rw [hl8] at hv8
                subst hv8
                have e8 : G.map Bk.x ++ [Bk.x ⟨cbg, cbn, cbc⟩] = (G ++ [(⟨cbg, cbn, cbc⟩ : Bk)]).map Bk.x := by simp
                rw [e8] at hm8
                have hGl2 : (G ++ [(⟨cbg, cbn, cbc⟩ : Bk)]).length = p + 1 := by simp [hGl.out]
                refine ⟨p + 1, G ++ [(⟨cbg, cbn, cbc⟩ : Bk)], A8, c8, by omega, by go_num, rfl, hGl2, hm8, ?_, ?_⟩
                · refine (HFN.out.below ((Below.refl _ wr).alloc (Nat.le_refl _) _) (by omega)).keep HG8.out.size (fun l hl => HG8.out.block _ (Nat.lt_of_lt_of_le (HLL.out l hl) HK7.out.size) fun e => ?_) (fun b hb hlt hcs => HG8.out.block _ hlt fun e => ?_) (by omega)
                  · have h3 := (HM7.out.lt l.g e.symm).1
                    have h4 := HLL.out l hl
                    omega
                  · obtain ⟨cs, h3⟩ := HM7.out.cell_block e.symm
                    obtain ⟨cs', h4⟩ := hcs
                    rw [h3] at h4; cases h4
                · exact ⟨HG8.out.os.trans HK7.out.os, HG8.out.tape.trans HK7.out.tape, HG8.out.output.trans HK7.out.output, Nat.le_trans HK7.out.size HG8.out.size, fun j hj hn => (HG8.out.block j (Nat.lt_of_lt_of_le hj HK7.out.size) fun e => by have h3 := (HM7.out.lt j e.symm).1; omega).trans (HK7.out.block j hj hn)⟩
              case measure => simp [intOf]; omega
        · have g1 : decide ((p:Int) < (L.length:Int)) = false := decide_eq_false (by omega)
          have g1b : decide (p < L.length) = false := decide_eq_false h1
          obtain rfl : p = L.length := by omega
          have HKW := Lib.hid hkr.out
          have HGW := Lib.hid hgr.out
          have HGS := Lib.hid hmg.out
          clear hgr hkr hmg h1 g1 g1b HG0 HK0
          go_wp2_with fail
          generalize wr = w8 at *
          go_loopw [10, 11] (fun i _ wq => ∃ p : Nat, p ≤ L.length ∧ i = .int .i64 p ∧ Hid (Below w8.heap.size w8 wq)) (fun i _ _ => L.length - (intOf i).toNat)
          case atStart => exact ⟨0, by omega, rfl, Below.refl _ _⟩
          case round =>
            obtain ⟨p, hp, rfl, hbr⟩ := hrel
            by_cases h1 : p < L.length
            · have g1 : decide ((p:Int) < (L.length:Int)) = true := decide_eq_true (by omega)
              have g1b : decide (p < L.length) = true := decide_eq_true h1
              have k1 : IntKind.i64.wrap ((p:Int) + 1) = (p:Int) + 1 := IntWalk.i64_in _ (by omega)
              have hpG : p < G.length := by rw [hGl.out]; exact h1
              obtain ⟨l, hl0⟩ : ∃ l, l = L[p] := ⟨_, rfl⟩
              obtain ⟨b6, hb0⟩ : ∃ b6, b6 = G[p] := ⟨_, rfl⟩
              have hlp : L[p]? = some l := by rw [hl0]; exact List.getElem?_eq_getElem h1
              have hbp : G[p]? = some b6 := by rw [hb0]; exact List.getElem?_eq_getElem hpG
              obtain ⟨hbn, hbm⟩ := HGW.out.grown p b6 l hbp hlp
              have hnl := HN.out l (List.mem_of_getElem? hlp)
              have hln : l.n + 70 ≤ 140737488355328 := by omega
              have hp1 : p ≤ 1000 := by omega
              have hpi : (0:Int) ≤ (p:Int) := by omega
              have hpi2 : (p:Int) < (L.length:Int) := by omega
              have HRO := Lib.hid (HGW.out.old p l hlp)
              have HRG := Lib.hid (Made.rd' encZ.len hbm)
              obtain ⟨av, hAv, hsl0⟩ : ∃ av, Av = some av ∧ w8.cell? (av.add (p * 1)) = some (.slice (some ⟨l.g, 0, none⟩) l.n l.c) ∧ av.block < w8.heap.size := by
                have hx : (L.map Bk.x)[p]? = some l.x := by rw [List.getElem?_map, hlp]; rfl
                obtain ⟨av, e, hlt, hat⟩ := Made.rd' encSlc.len (HSL.out w8 HKW.out) p l.x hx
                exact ⟨av, e, hat 0 _ rfl, hlt⟩
              obtain ⟨ag, hAg, hsl1⟩ : ∃ ag, Ag = some ag ∧ w8.cell? (ag.add (p * 1)) = some (.slice (some ⟨b6.g, 0, none⟩) b6.n b6.c) ∧ ag.block < w8.heap.size := by
                have hx : (G.map Bk.x)[p]? = some b6.x := by rw [List.getElem?_map, hbp]; rfl
                obtain ⟨ag, e, hlt, hat⟩ := Made.rd' encSlc.len HGS.out p b6.x hx
                exact ⟨ag, e, hat 0 _ rfl, hlt⟩
              rw [Nat.mul_one] at hsl0 hsl1
              subst hAv hAg
              obtain ⟨g, n, c⟩ := l
              obtain ⟨bg, bn, bc⟩ := b6
              simp only at hbn hsl0 hsl1 HRO HRG hln
              subst hbn
              have HSW : Hid (∀ wq, Below w8.heap.size w8 wq → wq.cell? (av.add p) = some (.slice (some ⟨g, 0, none⟩) n c) ∧ wq.cell? (ag.add p) = some (.slice (some ⟨bg, 0, none⟩) (n + 70) bc)) := fun wq hb => ⟨(hb.cell (p := av.add p) (by rw [block_add]; exact hsl0.2)).trans hsl0.1, (hb.cell (p := ag.add p) (by rw [block_add]; exact hsl1.2)).trans hsl1.1⟩
              clear hl0 hb0 hlp hbp hbm hsl0 hsl1 hnl hpG
              go_wp2_with fail
              go_loopw [11] (fun kk wq => ∃ q : Nat, q ≤ n + 70 ∧ kk = .int .i64 q ∧ Hid (Below w8.heap.size w8 wq)) (fun kk _ => n + 70 - (intOf kk).toNat)
              case atStart => exact ⟨0, by omega, rfl, hbr.out⟩
              case round =>
                obtain ⟨q, hq, rfl, hbq⟩ := hrel
                have HBQ := Lib.hid hbq.out
                obtain ⟨w0, w1⟩ := HSW.out wr HBQ.out
                have i0 : (0:Int) ≤ (q:Int) := by omega
                have jn : (((n + 70 : Nat) : Int)) = (n : Int) + 70 := by omega
                by_cases h2 : q < n + 70
                · have HMK := Lib.hid (fun W => markIntBk p q W hp1 (by omega))
                  have i2 : (q:Int) < (n:Int) + 70 := by omega
                  have i2b : (q:Int) < ((n + 70 : Nat):Int) := by omega
                  have k2 : IntKind.i64.wrap ((q:Int) + 1) = (q:Int) + 1 := IntWalk.i64_in _ (by omega)
                  have hatG : ∀ wq, Below w8.heap.size w8 wq → At wq ⟨bg, q, none⟩ (zcell (mkInt p q)) := fun wq hb => by
                    obtain ⟨ad, e, _, hat⟩ := (HRG.out.below hb) q _ (marks_get mkInt p (n + 70) h2)
                    cases e
                    rw [addr_at, Nat.mul_one] at hat
                    exact hat
                  by_cases h3 : q < n
                  · have i3 : decide ((q:Int) < (n:Int)) = true := decide_eq_true (by omega)
                    have i4 : (q:Int) < (n:Int) := by omega
                    have i3b : decide (q < n) = true := decide_eq_true h3
                    have hatO : ∀ wq, Below w8.heap.size w8 wq → At wq ⟨g, q, none⟩ (zcell (mkInt p q)) := fun wq hb => by
                      obtain ⟨ad, e, _, hat⟩ := (HRO.out.below hb) q _ (marks_get mkInt p n h3)
                      cases e
                      rw [addr_at, Nat.mul_one] at hat
                      exact hat
                    have HFX : Hid (∀ wq, Below w8.heap.size w8 wq → (wq.cell? (av.add p) = some (.slice (some ⟨g, 0, none⟩) n c) ∧ wq.cell? (ag.add p) = some (.slice (some ⟨bg, 0, none⟩) (n + 70) bc) ∧ wq.cell? ⟨bg, q, none⟩ = some (.int .i64 (mkInt p q)) ∧ wq.cell? ⟨g, q, none⟩ = some (.int .i64 (mkInt p q)))) := fun wq hb => ⟨(HSW.out wq hb).1, (HSW.out wq hb).2, hatG wq hb 0 _ rfl, hatO wq hb 0 _ rfl⟩
                    clear hatG hatO w0 w1
                    obtain ⟨w0, w1, d0, e0⟩ := HFX.out wr HBQ.out
                    clear h2 h3
                    go_wp2_with fail
                    go_region_held3 (fun wq => (wq.cell? (av.add p) = some (.slice (some ⟨g, 0, none⟩) n c) ∧ wq.cell? (ag.add p) = some (.slice (some ⟨bg, 0, none⟩) (n + 70) bc) ∧ wq.cell? ⟨bg, q, none⟩ = some (.int .i64 (mkInt p q)) ∧ wq.cell? ⟨g, q, none⟩ = some (.int .i64 (mkInt p q))))
                      (first
                        | with_reducible exact HFX.out _ HB6.out
                        | with_reducible exact HFX.out _ HB5.out
                        | exact HFX.out _ HB6.out
                        | exact HFX.out _ HB5.out
                        | go_keep)
                      (first
                        | (go_at_call 82
                           refine (HMK.out _).mono ?_
                           rintro e w6 ⟨rfl, hb6⟩
                           have hb6' : Below w5.heap.size w5 w6 := ⟨hb6.os, hb6.tape, hb6.output, hb6.size, hb6.block⟩
                           have HB6 := Lib.hid (HB5.out.trans (hb6'.mono HB5.out.size))
                           clear hb6'
                           clear hb6)
                        | (go_at_call 82
                           refine (HMK.out _).mono ?_
                           rintro e w5 ⟨rfl, hb5⟩
                           have hb5' : Below wr.heap.size wr w5 := ⟨hb5.os, hb5.tape, hb5.output, hb5.size, hb5.block⟩
                           have HB5 := Lib.hid (HBQ.out.trans (hb5'.mono HBQ.out.size))
                           clear hb5'
                           clear hb5)
                        | fail)
                    all_goals
                      go_wp2_with fail
                      go_roundw
                      case rel => exact ⟨q + 1, by omega, by go_num, HB6.out⟩
                      case measure => simp [intOf]; omega
                  · have i3 : decide ((q:Int) < (n:Int)) = false := decide_eq_false (by omega)
                    have i3b : decide (q < n) = false := decide_eq_false h3
                    have HFX : Hid (∀ wq, Below w8.heap.size w8 wq → (wq.cell? (av.add p) = some (.slice (some ⟨g, 0, none⟩) n c) ∧ wq.cell? (ag.add p) = some (.slice (some ⟨bg, 0, none⟩) (n + 70) bc) ∧ wq.cell? ⟨bg, q, none⟩ = some (.int .i64 (mkInt p q)))) := fun wq hb => ⟨(HSW.out wq hb).1, (HSW.out wq hb).2, hatG wq hb 0 _ rfl⟩
                    clear hatG w0 w1
                    obtain ⟨w0, w1, d0⟩ := HFX.out wr HBQ.out
                    clear h2 h3
                    go_wp2_with fail
                    refine wp_region_held_drew (S := (fun wq => (wq.cell? (av.add p) = some (.slice (some ⟨g, 0, none⟩) n c) ∧ wq.cell? (ag.add p) = some (.slice (some ⟨bg, 0, none⟩) (n + 70) bc) ∧ wq.cell? ⟨bg, q, none⟩ = some (.int .i64 (mkInt p q))))) (by kernel_rfl) (HFX.out wr HBQ.out) (fun hHeld => ?_)
                    simp only [List.size_toArray, List.length_cons, List.length_nil, Nat.reduceAdd]
                    simp only [show Array.replicate 33 false = #[false, false, false, false, false, false, false, false, false, false, false, false, false, false, false, false, false, false, false, false, false, false, false, false, false, false, false, false, false, false, false, false, false] from rfl]
                    refine wpAnyH_take (i := 0) (oi := ⟨some 80, _, _, _, _, _⟩) (v := ?_) rfl (by kernel_rfl) (by kernel_rfl) (by kernel_rfl) (fun _ _ _ h => h) (Or.inl ⟨by kernel_rfl, ?_⟩) hHeld ?_
                    rotate_left
                    · intro w hSw; go_split_ands; go_simp; try with_reducible rfl
                    try simp only [Act.put, List.setIfInBounds_toArray, List.set_cons_zero, List.set_cons_succ]
                    refine wpAnyH_take (i := 1) (oi := ⟨some 81, _, _, _, _, _⟩) (v := ?_) rfl (by kernel_rfl) (by kernel_rfl) (by kernel_rfl) (fun _ _ _ h => h) (Or.inl ⟨by kernel_rfl, ?_⟩) hHeld ?_
                    rotate_left
                    · intro w hSw; go_split_ands; go_simp; try with_reducible rfl
                    try simp only [Act.put, List.setIfInBounds_toArray, List.set_cons_zero, List.set_cons_succ]
                    refine wpAnyH_take (i := 2) (oi := ⟨some 82, _, _, _, _, _⟩) (v := ?_) rfl (by kernel_rfl) (by kernel_rfl) (by kernel_rfl) (fun _ _ _ h => h) (Or.inl ⟨by kernel_rfl, ?_⟩) hHeld ?_
                    rotate_left
                    · intro w hSw; go_split_ands; go_simp; try with_reducible rfl
                    try simp only [Act.put, List.setIfInBounds_toArray, List.set_cons_zero, List.set_cons_succ]
                    refine wpAnyH_take (i := 3) (oi := ⟨some 83, _, _, _, _, _⟩) (v := ?_) rfl (by kernel_rfl) (by kernel_rfl) (by kernel_rfl) (fun _ _ _ h => h) (Or.inl ⟨by kernel_rfl, ?_⟩) hHeld ?_
                    rotate_left
                    · intro w hSw; go_split_ands; go_simp; try with_reducible rfl
                    try simp only [Act.put, List.setIfInBounds_toArray, List.set_cons_zero, List.set_cons_succ]
                    refine wpAnyH_take (i := 4) (oi := ⟨some 84, _, _, _, _, _⟩) (v := ?_) rfl (by kernel_rfl) (by kernel_rfl) (by kernel_rfl) (fun _ _ _ h => h) (Or.inl ⟨by kernel_rfl, ?_⟩) hHeld ?_
                    rotate_left
                    · intro w hSw; go_split_ands; go_simp; try with_reducible rfl
                    try simp only [Act.put, List.setIfInBounds_toArray, List.set_cons_zero, List.set_cons_succ]
                    refine wpAnyH_take (i := 5) (oi := ⟨some 85, _, _, _, _, _⟩) (v := ?_) rfl (by kernel_rfl) (by kernel_rfl) (by kernel_rfl) (fun _ _ _ h => h) (Or.inl ⟨by kernel_rfl, ?_⟩) hHeld ?_
                    rotate_left
                    · intro w hSw; go_split_ands; go_simp; try with_reducible rfl
                    try simp only [Act.put, List.setIfInBounds_toArray, List.set_cons_zero, List.set_cons_succ]
                    refine wpAnyH_take (i := 6) (oi := ⟨some 86, _, _, _, _, _⟩) (v := ?_) rfl (by kernel_rfl) (by kernel_rfl) (by kernel_rfl) (fun _ _ _ h => h) (Or.inl ⟨by kernel_rfl, ?_⟩) hHeld ?_
                    rotate_left
                    · intro w hSw; go_split_ands; go_simp; try with_reducible rfl
                    try simp only [Act.put, List.setIfInBounds_toArray, List.set_cons_zero, List.set_cons_succ]
                    refine wpAnyH_take (i := 7) (oi := ⟨some 87, _, _, _, _, _⟩) (v := ?_) rfl (by kernel_rfl) (by kernel_rfl) (by kernel_rfl) (fun _ _ _ h => h) (Or.inl ⟨by kernel_rfl, ?_⟩) hHeld ?_
                    rotate_left
                    · intro w hSw; go_split_ands; go_simp; try with_reducible rfl
                    try simp only [Act.put, List.setIfInBounds_toArray, List.set_cons_zero, List.set_cons_succ]
                    refine wpAnyH_take (i := 8) (oi := ⟨some 88, _, _, _, _, _⟩) (v := ?_) rfl (by kernel_rfl) (by kernel_rfl) (by kernel_rfl) (fun _ _ _ h => h) (Or.inl ⟨by kernel_rfl, ?_⟩) hHeld ?_
                    rotate_left
                    · intro w hSw; go_split_ands; go_simp; try with_reducible rfl
                    try simp only [Act.put, List.setIfInBounds_toArray, List.set_cons_zero, List.set_cons_succ]
                    refine wpAnyH_ready (rs := [9]) (by kernel_rfl) (by simp) ?_
                    refine AllReadyH.cons rfl (fun K hK => ?_) AllReadyH.nil
                    go_simp
                    refine (HMK.out _).mono ?_
                    rintro e w5 ⟨rfl, hb5⟩
                    have hb5' : Below wr.heap.size wr w5 := ⟨hb5.os, hb5.tape, hb5.output, hb5.size, hb5.block⟩
                    have HB5 := Lib.hid (HBQ.out.trans (hb5'.mono HBQ.out.size))
                    clear hb5 hb5'
                    dsimp only
                    clear hHeld
                    refine hK.out _ _ (HFX.out _ HB5.out) (fun hHeld => ?_)
                    clear hK K
                    simp only [Act.put, List.setIfInBounds_toArray, List.set_cons_zero, List.set_cons_succ]
                    refine wpAnyH_take (i := 10) (oi := ⟨some 90, _, _, _, _, _⟩) (v := ?_) rfl (by kernel_rfl) (by kernel_rfl) (by kernel_rfl) (fun _ _ _ h => h) (Or.inl ⟨by kernel_rfl, ?_⟩) hHeld ?_
                    rotate_left
                    · intro w hSw; go_split_ands; go_simp; try with_reducible rfl
                    try simp only [Act.put, List.setIfInBounds_toArray, List.set_cons_zero, List.set_cons_succ]
                    refine wpAnyH_take (i := 11) (oi := ⟨some 91, _, _, _, _, _⟩) (v := ?_) rfl (by kernel_rfl) (by kernel_rfl) (by kernel_rfl) (fun _ _ _ h => h) (Or.inl ⟨by kernel_rfl, ?_⟩) hHeld ?_
                    rotate_left
                    · intro w hSw; go_split_ands; go_simp; try with_reducible rfl
                    try simp only [Act.put, List.setIfInBounds_toArray, List.set_cons_zero, List.set_cons_succ]
                    refine wpAnyH_take (i := 12) (oi := ⟨some 92, _, _, _, _, _⟩) (v := ?_) rfl (by kernel_rfl) (by kernel_rfl) (by kernel_rfl) (fun _ _ _ h => h) (Or.inl ⟨by kernel_rfl, ?_⟩) hHeld ?_
                    rotate_left
                    · intro w hSw; go_split_ands; go_simp; try with_reducible rfl
                    try simp only [Act.put, List.setIfInBounds_toArray, List.set_cons_zero, List.set_cons_succ]
                    refine wpAnyH_take (i := 13) (oi := ⟨some 93, _, _, _, _, _⟩) (v := ?_) rfl (by kernel_rfl) (by kernel_rfl) (by kernel_rfl) (fun _ _ _ h => h) (Or.inl ⟨by kernel_rfl, ?_⟩) hHeld ?_
                    rotate_left
                    · intro w hSw; go_split_ands; go_simp; try with_reducible rfl
                    try simp only [Act.put, List.setIfInBounds_toArray, List.set_cons_zero, List.set_cons_succ]
                    refine wpAnyH_take (i := 14) (oi := ⟨some 94, _, _, _, _, _⟩) (v := ?_) rfl (by kernel_rfl) (by kernel_rfl) (by kernel_rfl) (fun _ _ _ h => h) (Or.inl ⟨by kernel_rfl, ?_⟩) hHeld ?_
                    rotate_left
                    · intro w hSw; go_split_ands; go_simp; try with_reducible rfl
                    try simp only [Act.put, List.setIfInBounds_toArray, List.set_cons_zero, List.set_cons_succ]
                    refine wpAnyH_take (i := 15) (oi := ⟨some 95, _, _, _, _, _⟩) (v := ?_) rfl (by kernel_rfl) (by kernel_rfl) (by kernel_rfl) (fun _ _ _ h => h) (Or.inl ⟨by kernel_rfl, ?_⟩) hHeld ?_
                    rotate_left
                    · intro w hSw; go_split_ands; go_simp; try with_reducible rfl
                    try simp only [Act.put, List.setIfInBounds_toArray, List.set_cons_zero, List.set_cons_succ]
                    refine wpAnyH_take (i := 16) (oi := ⟨some 96, _, _, _, _, _⟩) (v := ?_) rfl (by kernel_rfl) (by kernel_rfl) (by kernel_rfl) (fun _ _ _ h => h) (Or.inl ⟨by kernel_rfl, ?_⟩) hHeld ?_
                    rotate_left
                    · intro w hSw; go_split_ands; go_simp; try with_reducible rfl
                    try simp only [Act.put, List.setIfInBounds_toArray, List.set_cons_zero, List.set_cons_succ]
                    refine wpAnyH_take (i := 17) (oi := ⟨some 97, _, _, _, _, _⟩) (v := ?_) rfl (by kernel_rfl) (by kernel_rfl) (by kernel_rfl) (fun _ _ _ h => h) (Or.inl ⟨by kernel_rfl, ?_⟩) hHeld ?_
                    rotate_left
                    · intro w hSw; go_split_ands; go_simp; try with_reducible rfl
                    try simp only [Act.put, List.setIfInBounds_toArray, List.set_cons_zero, List.set_cons_succ]
                    refine wpAnyH_take (i := 18) (oi := ⟨some 98, _, _, _, _, _⟩) (v := ?_) rfl (by kernel_rfl) (by kernel_rfl) (by kernel_rfl) (fun _ _ _ h => h) (Or.inl ⟨by kernel_rfl, ?_⟩) hHeld ?_
                    rotate_left
                    · intro w hSw; go_split_ands; go_simp; try with_reducible rfl
                    try simp only [Act.put, List.setIfInBounds_toArray, List.set_cons_zero, List.set_cons_succ]
                    refine wpAnyH_take (i := 19) (oi := ⟨some 99, _, _, _, _, _⟩) (v := ?_) rfl (by kernel_rfl) (by kernel_rfl) (by kernel_rfl) (fun _ _ _ h => h) (Or.inl ⟨by kernel_rfl, ?_⟩) hHeld ?_
                    rotate_left
                    · intro w hSw; go_split_ands; go_simp; try with_reducible rfl
                    try simp only [Act.put, List.setIfInBounds_toArray, List.set_cons_zero, List.set_cons_succ]
                    refine wpAnyH_take (i := 20) (oi := ⟨some 100, _, _, _, _, _⟩) (v := undef) rfl (by kernel_rfl) (by kernel_rfl) (by kernel_rfl) (fun _ _ _ h => h) (Or.inr ⟨by kernel_rfl, rfl⟩) hHeld ?_
                    try simp only [Act.put, List.setIfInBounds_toArray, List.set_cons_zero, List.set_cons_succ]
                    refine wpAnyH_take (i := 21) (oi := ⟨some 101, _, _, _, _, _⟩) (v := undef) rfl (by kernel_rfl) (by kernel_rfl) (by kernel_rfl) (fun _ _ _ h => h) (Or.inr ⟨by kernel_rfl, rfl⟩) hHeld ?_
                    try simp only [Act.put, List.setIfInBounds_toArray, List.set_cons_zero, List.set_cons_succ]
                    refine wpAnyH_take (i := 22) (oi := ⟨some 102, _, _, _, _, _⟩) (v := undef) rfl (by kernel_rfl) (by kernel_rfl) (by kernel_rfl) (fun _ _ _ h => h) (Or.inr ⟨by kernel_rfl, rfl⟩) hHeld ?_
                    try simp only [Act.put, List.setIfInBounds_toArray, List.set_cons_zero, List.set_cons_succ]
                    refine wpAnyH_take (i := 23) (oi := ⟨some 103, _, _, _, _, _⟩) (v := undef) rfl (by kernel_rfl) (by kernel_rfl) (by kernel_rfl) (fun _ _ _ h => h) (Or.inr ⟨by kernel_rfl, rfl⟩) hHeld ?_
                    try simp only [Act.put, List.setIfInBounds_toArray, List.set_cons_zero, List.set_cons_succ]
                    refine wpAnyH_take (i := 24) (oi := ⟨some 104, _, _, _, _, _⟩) (v := undef) rfl (by kernel_rfl) (by kernel_rfl) (by kernel_rfl) (fun _ _ _ h => h) (Or.inr ⟨by kernel_rfl, rfl⟩) hHeld ?_
                    try simp only [Act.put, List.setIfInBounds_toArray, List.set_cons_zero, List.set_cons_succ]
                    refine wpAnyH_take (i := 25) (oi := ⟨some 105, _, _, _, _, _⟩) (v := undef) rfl (by kernel_rfl) (by kernel_rfl) (by kernel_rfl) (fun _ _ _ h => h) (Or.inr ⟨by kernel_rfl, rfl⟩) hHeld ?_
                    try simp only [Act.put, List.setIfInBounds_toArray, List.set_cons_zero, List.set_cons_succ]
                    refine wpAnyH_take (i := 26) (oi := ⟨some 106, _, _, _, _, _⟩) (v := undef) rfl (by kernel_rfl) (by kernel_rfl) (by kernel_rfl) (fun _ _ _ h => h) (Or.inr ⟨by kernel_rfl, rfl⟩) hHeld ?_
                    try simp only [Act.put, List.setIfInBounds_toArray, List.set_cons_zero, List.set_cons_succ]
                    refine wpAnyH_take (i := 27) (oi := ⟨some 107, _, _, _, _, _⟩) (v := undef) rfl (by kernel_rfl) (by kernel_rfl) (by kernel_rfl) (fun _ _ _ h => h) (Or.inr ⟨by kernel_rfl, rfl⟩) hHeld ?_
                    try simp only [Act.put, List.setIfInBounds_toArray, List.set_cons_zero, List.set_cons_succ]
                    refine wpAnyH_take (i := 28) (oi := ⟨some 108, _, _, _, _, _⟩) (v := undef) rfl (by kernel_rfl) (by kernel_rfl) (by kernel_rfl) (fun _ _ _ h => h) (Or.inr ⟨by kernel_rfl, rfl⟩) hHeld ?_
                    try simp only [Act.put, List.setIfInBounds_toArray, List.set_cons_zero, List.set_cons_succ]
                    refine wpAnyH_take (i := 29) (oi := ⟨some 109, _, _, _, _, _⟩) (v := undef) rfl (by kernel_rfl) (by kernel_rfl) (by kernel_rfl) (fun _ _ _ h => h) (Or.inr ⟨by kernel_rfl, rfl⟩) hHeld ?_
                    try simp only [Act.put, List.setIfInBounds_toArray, List.set_cons_zero, List.set_cons_succ]
                    refine wpAnyH_take (i := 30) (oi := ⟨some 110, _, _, _, _, _⟩) (v := undef) rfl (by kernel_rfl) (by kernel_rfl) (by kernel_rfl) (fun _ _ _ h => h) (Or.inr ⟨by kernel_rfl, rfl⟩) hHeld ?_
                    try simp only [Act.put, List.setIfInBounds_toArray, List.set_cons_zero, List.set_cons_succ]
                    refine wpAnyH_take (i := 31) (oi := ⟨some 111, _, _, _, _, _⟩) (v := ?_) rfl (by kernel_rfl) (by kernel_rfl) (by kernel_rfl) (fun _ _ _ h => h) (Or.inl ⟨by kernel_rfl, ?_⟩) hHeld ?_
                    rotate_left
                    · intro w hSw; go_split_ands; go_simp; try with_reducible rfl
                    try simp only [Act.put, List.setIfInBounds_toArray, List.set_cons_zero, List.set_cons_succ]
                    refine wpAnyH_take (i := 32) (oi := ⟨some 112, _, _, _, _, _⟩) (v := ?_) rfl (by kernel_rfl) (by kernel_rfl) (by kernel_rfl) (fun _ _ _ h => h) (Or.inl ⟨by kernel_rfl, ?_⟩) hHeld ?_
                    rotate_left
                    · intro w hSw; go_split_ands; go_simp; try with_reducible rfl
                    try simp only [Act.put, List.setIfInBounds_toArray, List.set_cons_zero, List.set_cons_succ]
                    refine wpAnyH_done (by kernel_rfl) ?_ _
                    clear hHeld
                    all_goals
                      go_wp2_with fail
                      go_roundw
                      case rel => exact ⟨q + 1, by omega, by go_num, HB5.out⟩
                      case measure => simp [intOf]; omega
                · have i2 : decide ((q:Int) < (n:Int) + 70) = false := decide_eq_false (by omega)
                  have i2b : decide ((q:Int) < ((n + 70 : Nat):Int)) = false := decide_eq_false (by omega)
                  have i2c : decide (q < n + 70) = false := decide_eq_false h2
                  go_wp2_with fail
                  go_roundw
                  case rel => exact ⟨p + 1, by omega, by go_num, HBQ.out⟩
                  case measure => simp [intOf]; omega
            · have g1 : decide ((p:Int) < (L.length:Int)) = false := decide_eq_false (by omega)
              have g1b : decide (p < L.length) = false := decide_eq_false h1
              go_wp2_with fail
              go_ret
              exact ⟨rfl, HKW.out.trans (Kept.of_below hbr.out _)⟩

end Go.Proofs.Ytmfidhlhcochoaa

namespace Go.Proofs.Ytmfidhlhcochoaa
open Go.RowKit
set_option linter.unusedVariables false
set_option linter.unusedSimpArgs false

/-- The book at block b: its lists of numbers; its other lists are nil. -/
structure BookZ (w : World) (b base : Nat) (v : Value) (L : List Bk) : Prop where
  at_ : w.heap[b]? = some (.cells #[.slice none 0 0, v, .slice none 0 0, .slice none 0 0, .slice none 0 0, .slice none 0 0, .slice none 0 0, .slice none 0 0, .slice none 0 0, .slice none 0 0] 64 (0, 0))
  i : Made slc 1 23 base w v (L.map Bk.x)
/-- The blocks of the book's own. -/
def BookZS (w : World) (b base : Nat) (j : Nat) : Prop := j = b ∨ base ≤ j ∧ ∃ cs, w.heap[j]? = some (.cells cs 23 (0, 0))
section
variable {w w' : World} {b base : Nat} {v : Value} {L : List Bk}
theorem BookZ.lt (h : BookZ w b base v L) : b < w.heap.size := (Array.getElem?_eq_some_iff.1 h.at_).1
theorem BookZ.keep (h : BookZ w b base v L) (hk : ∀ j, BookZS w b base j → w'.heap[j]? = w.heap[j]?) : BookZ w' b base v L :=
  ⟨(hk b (.inl rfl)).trans h.at_, h.i.same fun j hj => by obtain ⟨cs, q⟩ := h.i.cell_block hj; exact hk j (.inr ⟨(h.i.lt j hj).1, cs, q⟩)⟩
theorem BookZS.lt (h : BookZ w b base v L) {j : Nat} (q : BookZS w b base j) : j < w.heap.size := by
  rcases q with rfl | ⟨_, cs, q⟩
  · exact h.lt
  · exact (Array.getElem?_eq_some_iff.1 q).1
theorem BookZ.below (h : BookZ w b base v L) (hb : Below w.heap.size w w') : BookZ w' b base v L := h.keep fun j q => hb.block j (BookZS.lt h q)
end
def bkOf : Value → List Bk
  | .slice (some ad) n c => if n = 0 then [] else [⟨ad.block, n, c⟩]
  | _ => []
set_option maxRecDepth 100000 in
set_option maxHeartbeats 1600000 in
theorem bookIntZ (b base : Nat) (v : Value) (L : List Bk) (A : Option Addr) (n c : Nat) (hA : ∀ ad, A = some ad → ∃ g, ad = ⟨g, 0, none⟩) (hA0 : A = none → n = 0) (w : World) (h : BookZ w b base v L) (hl : L.length ≤ 900) (hbase : base ≤ w.heap.size) :
    Calls Try.prog 24 #[.pointer (some ⟨b, 0, none⟩), .slice A n c] w fun e w' => e = .returned (.tuple #[]) ∧ (∃ v', BookZ w' b base v' (L ++ bkOf (.slice A n c))) ∧ Kept (BookZS w b base) w w' := by
  cases n with
  | zero =>
    have e0 : bkOf (.slice A 0 c) = [] := by cases A <;> simp [bkOf]
    rw [e0]
    have H := Lib.hid h
    clear h e0
    go_enter Try.func24, Try.ntmps24
    go_wp2_with fail
    go_end0
    exact ⟨rfl, ⟨v, by first | exact H.out | (rw [List.append_nil]; exact H.out)⟩, Kept.refl _ _⟩
  | succ n =>
    cases A with
    | none => exact absurd (hA0 rfl) (by omega)
    | some ad =>
      obtain ⟨g, rfl⟩ := hA ad rfl
      have e0 : bkOf (.slice (some ⟨g, 0, none⟩) (n + 1) c) = [⟨g, n + 1, c⟩] := by simp [bkOf]
      rw [e0]
      have H := Lib.hid h
      have hm := h.i
      obtain ⟨Av, cv, hv, hcv⟩ := hm.form
      have hlen : (L.map Bk.x).length = L.length := List.length_map _
      rw [hlen] at hv hcv
      subst hv
      have g4 : w.cell? ⟨b, 1, none⟩ = some (.slice Av L.length cv) := cell_of_row w b 1 _ _ _ h.at_
      have HM1 := Lib.hid (hm.alloc (.cells #[.slice (some ⟨g, 0, none⟩) (n + 1) c] 23))
      have HR1 := Lib.hid (rd_one encSlc w (Bk.x ⟨g, n + 1, c⟩) #[.slice (some ⟨g, 0, none⟩) (n + 1) c] rfl 23)
      have HLN := Lib.hid hlen
      obtain ⟨N, hN⟩ : ∃ N, N = n + 1 := ⟨_, rfl⟩
      have hN0 : 0 < N := by omega
      have hN1 : decide ((0:Int) < (N:Int)) = true := decide_eq_true (by omega)
      rw [← hN] at HM1 HR1 ⊢
      have HLT : Hid (b < w.heap.size) := h.lt
      clear h hm hlen e0 hA hA0 hN
      go_enter Try.func24, Try.ntmps24
      go_wp2_with (at_builtin; refine wpList_app (v := .slice Av L.length cv) (xs := L.map Bk.x) (ys := [Bk.x ⟨g, N, c⟩]) rowsInt encSlc rfl (.tmp 11) (.tmp 13) rfl base rfl HM1.out rfl rfl HR1.out (by rw [HLN.out]; simp only [List.length_singleton]; omega) (by rw [HLN.out]; unfold maxLen; simp only [List.length_singleton]; omega) (by simp; omega) ?_; intro v3 w3 hm3 hg3 hat3; obtain ⟨A3, c3, hv3, hc3⟩ := hm3.form; rw [List.length_append, List.length_singleton, HLN.out] at hv3; subst hv3; have HM3 := Lib.hid hm3; have HG3 := Lib.hid hg3; have hgb3 := (hg3.block b (by simp; have := HLT.out; omega) (fun e => by obtain ⟨cs, q⟩ := HM1.out.cell_block e.symm; rw [heap_alloc_old _ _ HLT.out, H.out.at_] at q; cases q)).trans ((heap_alloc_old _ _ HLT.out).trans H.out.at_); have HGB3 := Lib.hid hgb3; have hfz3 : w3.frozen? ⟨b, 1, none⟩ = false := frozen_of_row _ _ _ _ _ hgb3; have hce3 : w3.cell? ⟨b, 1, none⟩ = some (.slice Av L.length cv) := cell_of_row _ _ 1 _ _ _ hgb3; clear hm3 hg3 hat3 hgb3 hc3)
      go_end0
      refine ⟨rfl, ⟨.slice A3 (L.length + 1) c3, ?_, ?_⟩, ?_⟩
      · rw [heap_setCell_same _ _ _ _ _ _ HGB3.out]; rfl
      · rw [List.map_append]
        exact HM3.out.same fun j hj => Below.heap_setCell _ _ _ _ fun e => by
          obtain ⟨cs, q⟩ := HM3.out.cell_block hj
          rw [show j = b from e, HGB3.out] at q; cases q
      · refine ⟨HG3.out.os, HG3.out.tape, HG3.out.output, ?_, fun j hj hn => ?_⟩
        · have h9 := HG3.out.size
          simp [World.setCell] at h9 ⊢
          omega
        · have hjb : j ≠ b := fun e => hn (.inl e)
          refine (Below.heap_setCell _ _ _ _ hjb).trans ((HG3.out.block j (by simp; omega) (fun e => ?_)).trans (heap_alloc_old _ _ hj))
          obtain ⟨cs, q⟩ := HM1.out.cell_block e.symm
          rw [heap_alloc_old _ _ hj] at q
          exact hn (.inr ⟨(HM1.out.lt j e.symm).1, cs, q⟩)
set_option maxRecDepth 100000 in
theorem noneBytes (b : Nat) (w : World) (hc : w.cell? ⟨b, 0, none⟩ = some (.slice none 0 0)) :
    Calls Try.prog 52 #[.pointer (some ⟨b, 0, none⟩)] w fun e w' => e = .returned (.bool true) ∧ w' = w := by
  go_enter Try.func52, Try.ntmps52
  go_wp2_with fail
  refine wp_loop_rounds 1 ?_
  rw [rounds_succ]
  go_wp2_with fail
  refine wp_loop_rounds 1 ?_
  rw [rounds_succ]
  go_wp2_with fail
  refine wp_loop_rounds 1 ?_
  rw [rounds_succ]
  go_wp2_with fail
  go_ret
  exact ⟨rfl, rfl⟩
set_option maxRecDepth 100000 in
theorem noneVector (b : Nat) (w : World) (hc : w.cell? ⟨b, 2, none⟩ = some (.slice none 0 0)) :
    Calls Try.prog 54 #[.pointer (some ⟨b, 0, none⟩)] w fun e w' => e = .returned (.bool true) ∧ w' = w := by
  go_enter Try.func54, Try.ntmps54
  go_wp2_with fail
  refine wp_loop_rounds 1 ?_
  rw [rounds_succ]
  go_wp2_with fail
  refine wp_loop_rounds 1 ?_
  rw [rounds_succ]
  go_wp2_with fail
  refine wp_loop_rounds 1 ?_
  rw [rounds_succ]
  go_wp2_with fail
  go_ret
  exact ⟨rfl, rfl⟩
set_option maxRecDepth 100000 in
theorem noneEntries (b : Nat) (w : World) (hc : w.cell? ⟨b, 3, none⟩ = some (.slice none 0 0)) :
    Calls Try.prog 55 #[.pointer (some ⟨b, 0, none⟩)] w fun e w' => e = .returned (.bool true) ∧ w' = w := by
  go_enter Try.func55, Try.ntmps55
  go_wp2_with fail
  refine wp_loop_rounds 1 ?_
  rw [rounds_succ]
  go_wp2_with fail
  refine wp_loop_rounds 1 ?_
  rw [rounds_succ]
  go_wp2_with fail
  refine wp_loop_rounds 1 ?_
  rw [rounds_succ]
  go_wp2_with fail
  go_ret
  exact ⟨rfl, rfl⟩
set_option maxRecDepth 100000 in
theorem noneCells (b : Nat) (w : World) (hc : w.cell? ⟨b, 4, none⟩ = some (.slice none 0 0)) :
    Calls Try.prog 56 #[.pointer (some ⟨b, 0, none⟩)] w fun e w' => e = .returned (.bool true) ∧ w' = w := by
  go_enter Try.func56, Try.ntmps56
  go_wp2_with fail
  refine wp_loop_rounds 1 ?_
  rw [rounds_succ]
  go_wp2_with fail
  refine wp_loop_rounds 1 ?_
  rw [rounds_succ]
  go_wp2_with fail
  refine wp_loop_rounds 1 ?_
  rw [rounds_succ]
  go_wp2_with fail
  go_ret
  exact ⟨rfl, rfl⟩
set_option maxRecDepth 100000 in
theorem noneRows (b : Nat) (w : World) (hc : w.cell? ⟨b, 5, none⟩ = some (.slice none 0 0)) :
    Calls Try.prog 57 #[.pointer (some ⟨b, 0, none⟩)] w fun e w' => e = .returned (.bool true) ∧ w' = w := by
  go_enter Try.func57, Try.ntmps57
  go_wp2_with fail
  refine wp_loop_rounds 1 ?_
  rw [rounds_succ]
  go_wp2_with fail
  refine wp_loop_rounds 1 ?_
  rw [rounds_succ]
  go_wp2_with fail
  refine wp_loop_rounds 1 ?_
  rw [rounds_succ]
  go_wp2_with fail
  go_ret
  exact ⟨rfl, rfl⟩
set_option maxRecDepth 100000 in
theorem noneResults (b : Nat) (w : World) (hc : w.cell? ⟨b, 6, none⟩ = some (.slice none 0 0)) :
    Calls Try.prog 58 #[.pointer (some ⟨b, 0, none⟩)] w fun e w' => e = .returned (.bool true) ∧ w' = w := by
  go_enter Try.func58, Try.ntmps58
  go_wp2_with fail
  refine wp_loop_rounds 1 ?_
  rw [rounds_succ]
  go_wp2_with fail
  refine wp_loop_rounds 1 ?_
  rw [rounds_succ]
  go_wp2_with fail
  refine wp_loop_rounds 1 ?_
  rw [rounds_succ]
  go_wp2_with fail
  go_ret
  exact ⟨rfl, rfl⟩
set_option maxRecDepth 100000 in
theorem noneStamps (b : Nat) (w : World) (hc : w.cell? ⟨b, 7, none⟩ = some (.slice none 0 0)) :
    Calls Try.prog 59 #[.pointer (some ⟨b, 0, none⟩)] w fun e w' => e = .returned (.bool true) ∧ w' = w := by
  go_enter Try.func59, Try.ntmps59
  go_wp2_with fail
  refine wp_loop_rounds 1 ?_
  rw [rounds_succ]
  go_wp2_with fail
  refine wp_loop_rounds 1 ?_
  rw [rounds_succ]
  go_wp2_with fail
  refine wp_loop_rounds 1 ?_
  rw [rounds_succ]
  go_wp2_with fail
  go_ret
  exact ⟨rfl, rfl⟩
set_option maxRecDepth 100000 in
theorem noneAcks (b : Nat) (w : World) (hc : w.cell? ⟨b, 8, none⟩ = some (.slice none 0 0)) :
    Calls Try.prog 60 #[.pointer (some ⟨b, 0, none⟩)] w fun e w' => e = .returned (.bool true) ∧ w' = w := by
  go_enter Try.func60, Try.ntmps60
  go_wp2_with fail
  refine wp_loop_rounds 1 ?_
  rw [rounds_succ]
  go_wp2_with fail
  refine wp_loop_rounds 1 ?_
  rw [rounds_succ]
  go_wp2_with fail
  refine wp_loop_rounds 1 ?_
  rw [rounds_succ]
  go_wp2_with fail
  go_ret
  exact ⟨rfl, rfl⟩
set_option maxRecDepth 100000 in
theorem noneMarks (b : Nat) (w : World) (hc : w.cell? ⟨b, 9, none⟩ = some (.slice none 0 0)) :
    Calls Try.prog 61 #[.pointer (some ⟨b, 0, none⟩)] w fun e w' => e = .returned (.bool true) ∧ w' = w := by
  go_enter Try.func61, Try.ntmps61
  go_wp2_with fail
  refine wp_loop_rounds 1 ?_
  rw [rounds_succ]
  go_wp2_with fail
  refine wp_loop_rounds 1 ?_
  rw [rounds_succ]
  go_wp2_with fail
  refine wp_loop_rounds 1 ?_
  rw [rounds_succ]
  go_wp2_with fail
  go_ret
  exact ⟨rfl, rfl⟩
set_option maxRecDepth 100000 in
set_option maxHeartbeats 1600000 in
theorem apartZ (b base : Nat) (v : Value) (L : List Bk) (w : World) (h : BookZ w b base v L) (hl : L.length ≤ 1000) (hn : ∀ l ∈ L, (l.n + 70) * 8 ≤ 140737488355328) (hL : Lists zcell 1 3 base w L) (hbase : base ≤ w.heap.size) :
    Calls Try.prog 25 #[.pointer (some ⟨b, 0, none⟩)] w fun e w' => e = .returned (.bool true) ∧ Kept (fun j => ∃ l ∈ L, j = l.g) w w' := by
  have hnone : ∀ W, Kept (fun j => ∃ l ∈ L, j = l.g) w W → ∀ f, f < 1 ∨ 1 < f ∧ f < 10 → W.cell? ⟨b, f, none⟩ = some (.slice none 0 0) := fun W hk f hf => by
    have hb : W.heap[b]? = _ := (hk.block b h.lt (fun ⟨l, hl, e⟩ => by
      obtain ⟨xs, _, hm⟩ := hL.made l hl
      obtain ⟨cs, q⟩ := hm.cell_block rfl
      rw [← e, h.at_] at q; cases q)).trans h.at_
    have : f = 0 ∨ f = 2 ∨ f = 3 ∨ f = 4 ∨ f = 5 ∨ f = 6 ∨ f = 7 ∨ f = 8 ∨ f = 9 := by omega
    rcases this with rfl | rfl | rfl | rfl | rfl | rfl | rfl | rfl | rfl <;> exact cell_of_row _ _ _ _ _ _ hb
  have hi := apartInt b v L base w (cell_of_row w b 1 _ _ _ h.at_) h.i hl hn hL hbase
  have HI := Lib.hid hi
  have H0 := Lib.hid hnone
  have HK0 : Hid (Kept (fun j => ∃ l ∈ L, j = l.g) w w) := Kept.refl _ _
  clear hi hnone h hn hL
  go_enter Try.func25, Try.ntmps25
  go_wp2_with (first
    | (go_at_call 52; refine (noneBytes b _ (H0.out _ HK0.out 0 (by omega))).mono ?_; rintro e w' ⟨rfl, hw'⟩; rw [hw']; clear hw' w')
    | (go_at_call 53; refine HI.out.mono ?_; rintro e w1 ⟨rfl, hk1⟩; have HK1 := Lib.hid hk1; clear hk1)
    | (go_at_call 54; refine (noneVector b _ (H0.out _ HK1.out 2 (by omega))).mono ?_; rintro e w' ⟨rfl, hw'⟩; rw [hw']; clear hw' w')
    | (go_at_call 55; refine (noneEntries b _ (H0.out _ HK1.out 3 (by omega))).mono ?_; rintro e w' ⟨rfl, hw'⟩; rw [hw']; clear hw' w')
    | (go_at_call 56; refine (noneCells b _ (H0.out _ HK1.out 4 (by omega))).mono ?_; rintro e w' ⟨rfl, hw'⟩; rw [hw']; clear hw' w')
    | (go_at_call 57; refine (noneRows b _ (H0.out _ HK1.out 5 (by omega))).mono ?_; rintro e w' ⟨rfl, hw'⟩; rw [hw']; clear hw' w')
    | (go_at_call 58; refine (noneResults b _ (H0.out _ HK1.out 6 (by omega))).mono ?_; rintro e w' ⟨rfl, hw'⟩; rw [hw']; clear hw' w')
    | (go_at_call 59; refine (noneStamps b _ (H0.out _ HK1.out 7 (by omega))).mono ?_; rintro e w' ⟨rfl, hw'⟩; rw [hw']; clear hw' w')
    | (go_at_call 60; refine (noneAcks b _ (H0.out _ HK1.out 8 (by omega))).mono ?_; rintro e w' ⟨rfl, hw'⟩; rw [hw']; clear hw' w')
    | (go_at_call 61; refine (noneMarks b _ (H0.out _ HK1.out 9 (by omega))).mono ?_; rintro e w' ⟨rfl, hw'⟩; rw [hw']; clear hw' w'))
  go_ret
  exact ⟨rfl, HK1.out⟩
end Go.Proofs.Ytmfidhlhcochoaa

namespace Go.Proofs.Ytmfidhlhcochoaa
open Go.RowKit
set_option linter.unusedVariables false
set_option linter.unusedSimpArgs false

section appx
variable {P : Program} {t e : TypeId} {k bytes : Nat} {α : Type} {enc : α → List Value}
/-- append of some elements to a row of the call's own: the old slice still reads as it did. -/
theorem run_appX (w : World) (T : RowT P t e k bytes) (E : Enc enc k) (ty : TypeId) (base : Nat) {v : Value} {xs ys : List α} (hv : Made enc k e base w v xs) {B : Nat} {A : Option Addr} {c m : Nat} (hm : m = ys.length) (hne : ys ≠ []) (hy : Rd enc k w B A ys)
    (hbytes : (xs.length + ys.length) * bytes ≤ 140737488355328) (h63 : xs.length + ys.length ≤ maxLen) (hbase : base ≤ w.heap.size) :
    ∃ (v' : Value) (w' : World), (Builtin.append_ #[t, t] ty #[v, .slice A m c]).run P w = .ok v' w' ∧ Made enc k e base w' v' (xs ++ ys) ∧ Made enc k e base w' v xs ∧ w.grownBy w' v.ownBlock ∧ (v'.ownBlock = v.ownBlock ∨ v'.ownBlock = some w.heap.size) := by
  obtain ⟨v', w', hrun, hmd, hgr, hat⟩ := run_app w T E ty base hv (c := c) (m := m) hm hy hbytes h63 hbase
  refine ⟨v', w', hrun, hmd, ?_, hgr, hat⟩
  obtain ⟨A', c', rfl, hc'⟩ := hmd.form
  obtain ⟨i, z, hi, hz, hs, hb, hzs⟩ := T.info
  have hA : ∃ ad, A = some ad := by
    cases ys with
    | nil => exact absurd rfl hne
    | cons y ys => obtain ⟨ad, q, _⟩ := hy 0 y rfl; exact ⟨ad, q⟩
  obtain ⟨ad, rfl⟩ := hA
  rcases id hv.2 with ⟨hvn, hx0⟩ | ⟨g, cap, cur, hvv, hbg, hg, hnc, hcm, hcs, htake⟩
  · subst hvn
    have : xs = [] := by cases xs; rfl; cases hx0
    subst this
    exact Made.nil _ _ _
  · subst hvv
    have hfl : (flat enc ys).length = m * i.size := by rw [flat_length E.len, hs, hm]
    have hnews : ∀ j u, (flat enc ys)[j]? = some u → w.cell? (ad.add j) = some u := hy.flatAt E.len T.pos
    by_cases hroom : xs.length + m ≤ cap
    · have hfit : xs.length * i.size + (flat enc ys).length ≤ cur.size := by rw [hfl, hcs, hs, ← Nat.add_mul]; exact Nat.mul_le_mul_right _ hroom
      have hr := run_append_room (P := P) w t ty e i T.under hi g xs.length cap cur hg ad m c (flat enc ys) hfl hnews (E.flat_one ys) hroom hfit
      rw [hr] at hrun
      injection hrun with r1 r2
      injection r1 with r1 r3 r4
      subst r1
      rw [← r4] at hmd
      have h1 := Made.cutTo E.len hmd (show xs.length ≤ (xs ++ ys).length by simp) (by simp)
      rwa [List.take_left] at h1
    · have holds : ∀ j u, (flat enc xs)[j]? = some u → w.cell? ((⟨g, 0, none⟩ : Addr).add j) = some u := World.ownsRow.cells (g := g) hv rfl
      have hr := run_append_grow (P := P) w t ty e i z T.under hi hz ⟨g, 0, none⟩ xs.length cap (flat enc xs) (by rw [flat_length E.len, hs]) holds ad m c (flat enc ys) hfl hnews (by omega) (by simp only [maxLen] at h63; omega) (growslice_fits (by omega) (by rw [hm, hb]; exact hbytes))
      rw [hr] at hrun
      injection hrun with r1 r2
      have hbl : Below w.heap.size w w' := by rw [← r2]; exact ⟨rfl, rfl, rfl, by simp, fun j hj => heap_alloc_old w.drew _ hj⟩
      exact hv.below hbl (fun b q => (hv.lt b q).2)
theorem wpList_appX {w : World} (T : RowT P t e k bytes) (E : Enc enc k) {ops : Array Oper} {rest : List Oper} {o : Oper} {a : Act} {Q : Exit → Act → World → Prop} (hgd : o.guard = none) (s x : Operand)
    (ho : o.op = .call { callee := .builtin .append, args := #[s, x], argTypes := #[t, t] })
    (base : Nat) {v : Value} {xs ys : List α} (hs : a.eval s = v) (hv : Made enc k e base w v xs) {B : Nat} {A : Option Addr} {c m : Nat} (hx : a.eval x = .slice A m c) (hm : m = ys.length) (hne : ys ≠ []) (hy : Rd enc k w B A ys)
    (hbytes : (xs.length + ys.length) * bytes ≤ 140737488355328) (h63 : xs.length + ys.length ≤ maxLen) (hbase : base ≤ w.heap.size)
    (h : ∀ v' w', Made enc k e base w' v' (xs ++ ys) → Made enc k e base w' v xs → w.grownBy w' v.ownBlock → (v'.ownBlock = v.ownBlock ∨ v'.ownBlock = some w.heap.size) → wpList P ops Q rest (a.put o.dst v') w') : wpList P ops Q (o :: rest) a w := by
  refine wpList_plain hgd fun _ hK => ?_
  obtain ⟨v', w', hrun, h2, h3, h4, h5⟩ := run_appX w T E o.type base hv (c := c) hm hne hy hbytes h63 hbase
  unfold Oper.wp execOp
  simp only [ho, resolve, invoke, builtin, Sem.run_bind, Sem.run_pure, Result.andThen_ok, List.map_toArray, List.map_cons, List.map_nil, hs, hx, hrun]
  exact hK _ _ (h v' w' h2 h3 h4 h5)
end appx

section rows
variable {α : Type} {enc : α → List Value} {k : Nat} {e : TypeId} {base : Nat} {w w' : World}
/-- One cell of one element of a row, written over. -/
theorem Made.cellPut (E : Enc enc k) {g n c : Nat} {xs : List α} (h : Made enc k e base w (.slice (some ⟨g, 0, none⟩) n c) xs) {i j : Nat} (hi : i < xs.length) (hj : j < k) (x' : α) {u : Value} (hx : enc x' = (enc xs[i]).set j u) : Made enc k e base (w.setCell ⟨g, i * k + j, none⟩ u) (.slice (some ⟨g, 0, none⟩) n c) (xs.set i x') := by
  obtain rfl : n = xs.length := by
    obtain ⟨A', c', hv, _⟩ := h.form
    injection hv
  have h1 := (World.ownsRow.stored h (i * k + j) u).1
  unfold Made
  have h2 : flat enc (xs.set i x') = (flat enc xs).set (i * k + j) u := by
    have hlen := E.len
    clear h h1
    induction xs generalizing i with
    | nil => simp at hi
    | cons y ys ih =>
      cases i with
      | zero =>
        simp only [List.set_cons_zero, flat, List.flatMap_cons, List.getElem_cons_zero] at hx ⊢
        rw [hx, Nat.zero_mul, Nat.zero_add, List.set_append_left _ _ (by rw [hlen]; exact hj)]
      | succ i =>
        simp only [List.set_cons_succ, flat, List.flatMap_cons, List.getElem_cons_succ] at hx ⊢
        have := ih (i := i) (by simpa using hi) hx
        unfold flat at this
        rw [this, List.set_append_right _ _ (by rw [hlen, Nat.succ_mul]; omega), hlen]
        congr 2
        rw [Nat.succ_mul]; omega
  rw [List.length_set, h2]
  exact h1
end rows
end Go.Proofs.Ytmfidhlhcochoaa

namespace Go.Proofs.Ytmfidhlhcochoaa
open Go.RowKit
set_option linter.unusedVariables false
set_option linter.unusedSimpArgs false

section
variable {α : Type} {enc : α → List Value} {k : Nat} {e : TypeId} {base : Nat} {w w' : World}
/-- Values that calls handed out: each in memory of its own, no two in one block. -/
structure Outs (enc : α → List Value) (k : Nat) (e : TypeId) (base : Nat) (w : World) (V : List (Value × List α)) : Prop where
  made : ∀ p ∈ V, Made enc k e base w p.1 p.2
  apart : V.Pairwise (fun p q => ∀ j, p.1.ownBlock = some j → q.1.ownBlock ≠ some j)
theorem Outs.nil : Outs enc k e base w [] := ⟨fun p h => by simp at h, List.Pairwise.nil⟩
theorem Outs.keep {V : List (Value × List α)} (h : Outs enc k e base w V) (hk : ∀ j, j < w.heap.size → base ≤ j → (∃ cs, w.heap[j]? = some (.cells cs e (0, 0))) → w'.heap[j]? = w.heap[j]?) : Outs enc k e base w' V :=
  ⟨fun p hp => (h.made p hp).same fun j hj => hk j ((h.made p hp).lt j hj).2 ((h.made p hp).lt j hj).1 ((h.made p hp).cell_block hj), h.apart⟩
theorem Outs.below {V : List (Value × List α)} (h : Outs enc k e base w V) (hb : Below w.heap.size w w') : Outs enc k e base w' V := h.keep fun j hj _ _ => hb.block j hj
theorem Outs.add {V : List (Value × List α)} (h : Outs enc k e base w V) (hb : Below w.heap.size w w') (hbase : base ≤ w.heap.size) {v : Value} {xs : List α} (hm : Made enc k e w.heap.size w' v xs) : Outs enc k e base w' (V ++ [(v, xs)]) := by
  refine ⟨fun p hp => ?_, List.pairwise_append.2 ⟨h.apart, by simp, fun p hp q hq j hj => ?_⟩⟩
  · rcases List.mem_append.1 hp with hp | hp
    · exact (h.below hb).made p hp
    · rw [List.mem_singleton.1 hp]; exact hm.base' hbase
  · rw [List.mem_singleton.1 hq]
    intro e
    have h1 := ((h.made p hp).lt j hj).2
    have h2 := (hm.lt j e).1
    omega
/-- As the book has them. -/
theorem Outs.lists {V : List (Value × List α)} (h : Outs enc k e base w V) : Lists enc k e base w (V.flatMap fun p => bkOf p.1) := by
  have key : ∀ p ∈ V, ∀ b ∈ bkOf p.1, p.1 = b.v ∧ b.n = p.2.length := fun p hp b hb => by
    have hm := h.made p hp
    obtain ⟨v, xs⟩ := p
    rcases hm.2 with ⟨hv, hn⟩ | ⟨g, cap, cur, hv, _⟩
    · simp only at hv; subst hv; simp [bkOf] at hb
    · simp only at hv; subst hv
      unfold bkOf at hb
      by_cases h0 : xs.length = 0
      · simp [h0] at hb
      · simp only [if_neg h0, List.mem_singleton] at hb
        subst hb
        exact ⟨rfl, rfl⟩
  constructor
  · intro b hb
    obtain ⟨p, hp, hb⟩ := List.mem_flatMap.1 hb
    obtain ⟨h1, h2⟩ := key p hp b hb
    refine ⟨p.2, h2.symm, ?_⟩
    rw [← h1]
    exact h.made p hp
  · have hap := h.apart
    clear h
    induction V with
    | nil => simp
    | cons p V ih =>
      rw [List.flatMap_cons, List.pairwise_append]
      obtain ⟨h1, h2⟩ := List.pairwise_cons.1 hap
      refine ⟨?_, ih (fun p hp => key p (by simp [hp])) h2, fun a ha b hb => ?_⟩
      · have hl : (bkOf p.1).length ≤ 1 := by unfold bkOf; split <;> (try split) <;> simp
        match hq : bkOf p.1, hl with
        | [], _ => simp
        | [x], _ => simp
      · obtain ⟨q, hq, hb⟩ := List.mem_flatMap.1 hb
        have ka := (key p (by simp) a ha).1
        have kb := (key q (by simp [hq]) b hb).1
        intro e
        refine h1 q hq a.g (by rw [ka]; rfl) ?_
        rw [kb, e]; rfl
theorem Outs.lens {V : List (Value × List α)} (h : Outs enc k e base w V) {m : Nat} (hm : ∀ p ∈ V, p.2.length ≤ m) : ∀ b ∈ (V.flatMap fun p => bkOf p.1), b.n ≤ m := fun b hb => by
  obtain ⟨p, hp, hb⟩ := List.mem_flatMap.1 hb
  have hmd := h.made p hp
  have hl := hm p hp
  obtain ⟨v, xs⟩ := p
  rcases hmd.2 with ⟨hv, hn⟩ | ⟨g, cap, cur, hv, _⟩
  · simp only at hv; subst hv; simp [bkOf] at hb
  · simp only at hv; subst hv
    unfold bkOf at hb
    by_cases h0 : xs.length = 0
    · simp [h0] at hb
    · simp only [if_neg h0, List.mem_singleton] at hb
      subst hb
      exact hl
theorem bkOf_le (v : Value) : (bkOf v).length ≤ 1 := by unfold bkOf; split <;> (try split) <;> simp
theorem outs_length (V : List (Value × List α)) : (V.flatMap fun p => bkOf p.1).length ≤ V.length := by
  induction V with
  | nil => simp
  | cons p V ih => rw [List.flatMap_cons, List.length_append]; have := bkOf_le p.1; simp only [List.length_cons]; omega
theorem Made.addr {A : Option Addr} {n c : Nat} {xs : List α} (h : Made enc k e base w (.slice A n c) xs) : (∀ ad, A = some ad → ∃ g, ad = ⟨g, 0, none⟩) ∧ (A = none → n = 0) := by
  rcases h.2 with ⟨hv, hn⟩ | ⟨g, cap, cur, hv, _⟩
  · injection hv with h1 h2 h3
    subst h1 h2
    exact ⟨fun ad e => (by cases e), fun _ => rfl⟩
  · injection hv with h1 h2 h3
    subst h1
    exact ⟨fun ad e => (by cases e; exact ⟨g, rfl⟩), fun e => (by cases e)⟩
end


section
variable {α : Type} {enc : α → List Value} {k : Nat} {e : TypeId} {base : Nat} {w w' : World}
/-- One of the values, turned; the others stay. -/
theorem Outs.turn {V1 V2 : List (Value × List α)} {v v' : Value} {xs xs' : List α} (h : Outs enc k e base w (V1 ++ (v, xs) :: V2)) (hm : Made enc k e base w' v' xs') (hk : ∀ j, j < w.heap.size → base ≤ j → v.ownBlock ≠ some j → w'.heap[j]? = w.heap[j]?) (hv : ∀ j, v'.ownBlock = some j → v.ownBlock = some j ∨ w.heap.size ≤ j) : Outs enc k e base w' (V1 ++ (v', xs') :: V2) := by
  have hap := List.pairwise_append.1 h.apart
  have hap2 := List.pairwise_cons.1 hap.2.1
  have hoth : ∀ p ∈ V1 ++ V2, ∀ j, p.1.ownBlock = some j → v.ownBlock ≠ some j := fun p hp j hj q => by
    rcases List.mem_append.1 hp with hp | hp
    · exact hap.2.2 p hp (v, xs) (by simp) j hj q
    · exact hap2.1 p hp j q hj
  have hmem : ∀ p ∈ V1 ++ V2, p ∈ V1 ++ (v, xs) :: V2 := fun p hp => by
    rcases List.mem_append.1 hp with hp | hp
    · exact List.mem_append_left _ hp
    · exact List.mem_append_right _ (List.mem_cons_of_mem _ hp)
  have hmade : ∀ p ∈ V1 ++ V2, Made enc k e base w' p.1 p.2 := fun p hp => (h.made p (hmem p hp)).same fun j hj => hk j ((h.made p (hmem p hp)).lt j hj).2 ((h.made p (hmem p hp)).lt j hj).1 (hoth p hp j hj)
  have hne : ∀ p ∈ V1 ++ V2, ∀ j, p.1.ownBlock = some j → v'.ownBlock ≠ some j := fun p hp j hj q => by
    rcases hv j q with q | q
    · exact hoth p hp j hj q
    · have := ((h.made p (hmem p hp)).lt j hj).2; omega
  refine ⟨fun p hp => ?_, List.pairwise_append.2 ⟨hap.1, List.pairwise_cons.2 ⟨fun q hq j hj hj2 => hne q (by simp [hq]) j hj2 hj, hap2.2⟩, fun p hp q hq j hj => ?_⟩⟩
  · rcases List.mem_append.1 hp with hp | hp
    · exact hmade p (by simp [hp])
    · rcases List.mem_cons.1 hp with rfl | hp
      · exact hm
      · exact hmade p (by simp [hp])
  · rcases List.mem_cons.1 hq with rfl | hq
    · exact hne p (by simp [hp]) j hj
    · exact hap.2.2 p hp q (by simp [hq]) j hj
theorem Outs.sub {V V' : List (Value × List α)} (h : Outs enc k e base w V) (hs : V'.Sublist V) : Outs enc k e base w V' := ⟨fun p hp => h.made p (hs.mem hp), h.apart.sublist hs⟩
theorem Outs.get {V : List (Value × List α)} (h : Outs enc k e base w V) {i : Nat} {v : Value} {xs : List α} (hi : V[i]? = some (v, xs)) : Made enc k e base w v xs := h.made _ (List.mem_of_getElem? hi)
end
theorem iz {base : Nat} {w : World} {v : Value} {xs : List Nat} (h : Made icell 1 3 base w v xs) : Made zcell 1 3 base w v (xs.map Int.ofNat) := by
  unfold Made at h ⊢
  rw [List.length_map]
  have : flat zcell (xs.map Int.ofNat) = flat icell xs := by
    unfold flat
    rw [List.flatMap_map]
    rfl
  rw [this]; exact h
theorem Outs.iz {base : Nat} {w : World} {V : List (Value × List Nat)} (h : Outs icell 1 3 base w V) : Outs zcell 1 3 base w (V.map fun p => (p.1, p.2.map Int.ofNat)) :=
  ⟨fun p hp => by obtain ⟨q, hq, rfl⟩ := List.mem_map.1 hp; exact _root_.Go.Proofs.Ytmfidhlhcochoaa.iz (h.made q hq), List.pairwise_map.2 h.apart⟩
/-- What lives in the walk: the history, the other one, rows of calls, rows of numbers, the book's struct. -/
structure OwnL (w : World) (A B : Option Addr) (l o : List Call) (bk : Nat) (W : World) (C : List (Value × List Call)) (I : List (Value × List Nat)) : Prop where
  bel : Below w.heap.size w W
  la : Rd Call.cells 10 W w.heap.size A l
  lb : Rd Call.cells 10 W w.heap.size B o
  c : Outs Call.cells 10 45 w.heap.size W C
  i : Outs icell 1 3 w.heap.size W I
  b : W.heap[bk]? = some (.cells #[.slice none 0 0, .slice none 0 0, .slice none 0 0, .slice none 0 0, .slice none 0 0, .slice none 0 0, .slice none 0 0, .slice none 0 0, .slice none 0 0, .slice none 0 0] 64 (0, 0))
section
variable {w : World} {A B : Option Addr} {l o : List Call} {bk : Nat} {W W' : World} {C : List (Value × List Call)} {I : List (Value × List Nat)}
theorem OwnL.step (h : OwnL w A B l o bk W C I) (hb : Below W.heap.size W W') : OwnL w A B l o bk W' C I :=
  ⟨h.bel.trans (hb.mono h.bel.size), h.la.below (hb.mono h.bel.size), h.lb.below (hb.mono h.bel.size), h.c.below hb, h.i.below hb, (hb.block bk (Array.getElem?_eq_some_iff.1 h.b).1).trans h.b⟩
theorem OwnL.addC (h : OwnL w A B l o bk W C I) (hb : Below W.heap.size W W') {v : Value} {xs : List Call} (hm : Made Call.cells 10 45 W.heap.size W' v xs) : OwnL w A B l o bk W' (C ++ [(v, xs)]) I :=
  ⟨h.bel.trans (hb.mono h.bel.size), h.la.below (hb.mono h.bel.size), h.lb.below (hb.mono h.bel.size), h.c.add hb h.bel.size hm, h.i.below hb, (hb.block bk (Array.getElem?_eq_some_iff.1 h.b).1).trans h.b⟩
theorem OwnL.addI (h : OwnL w A B l o bk W C I) (hb : Below W.heap.size W W') {v : Value} {xs : List Nat} (hm : Made icell 1 3 W.heap.size W' v xs) : OwnL w A B l o bk W' C (I ++ [(v, xs)]) :=
  ⟨h.bel.trans (hb.mono h.bel.size), h.la.below (hb.mono h.bel.size), h.lb.below (hb.mono h.bel.size), h.c.below hb, h.i.add hb h.bel.size hm, (hb.block bk (Array.getElem?_eq_some_iff.1 h.b).1).trans h.b⟩
theorem OwnL.rdA (h : OwnL w A B l o bk W C I) : Rd Call.cells 10 W W.heap.size A l := h.la.more h.bel.size
theorem OwnL.rdB (h : OwnL w A B l o bk W C I) : Rd Call.cells 10 W W.heap.size B o := h.lb.more h.bel.size
/-- One row of calls is turned (its block alone, or a new one); all else stays. -/
theorem OwnL.turnC {C1 C2 : List (Value × List Call)} {v v' : Value} {xs xs' : List Call} (h : OwnL w A B l o bk W (C1 ++ (v, xs) :: C2) I) (hm : Made Call.cells 10 45 w.heap.size W' v' xs') (hk : Kept (fun j => v.ownBlock = some j) W W') (hv : ∀ j, v'.ownBlock = some j → v.ownBlock = some j ∨ W.heap.size ≤ j) : OwnL w A B l o bk W' (C1 ++ (v', xs') :: C2) I := by
  have hmv := h.c.made (v, xs) (by simp)
  have hb : Below w.heap.size w W' := ⟨hk.os.trans h.bel.os, hk.tape.trans h.bel.tape, hk.output.trans h.bel.output, Nat.le_trans h.bel.size hk.size, fun j hj => (hk.block j (Nat.lt_of_lt_of_le hj h.bel.size) (fun e => by have := (hmv.lt j e).1; omega)).trans (h.bel.block j hj)⟩
  have hold : Below w.heap.size W W' := ⟨hk.os, hk.tape, hk.output, hk.size, fun j hj => hk.block j (Nat.lt_of_lt_of_le hj h.bel.size) (fun e => by have := (hmv.lt j e).1; omega)⟩
  refine ⟨hb, h.la.below hold, h.lb.below hold, h.c.turn hm (fun j hj _ hne => hk.block j hj hne) hv, h.i.keep fun j hj _ ⟨cs, q⟩ => hk.block j hj fun e => ?_, (hk.block bk (Array.getElem?_eq_some_iff.1 h.b).1 fun e => ?_).trans h.b⟩
  · obtain ⟨cs', q'⟩ := hmv.cell_block e
    rw [q] at q'; cases q'
  · obtain ⟨cs', q'⟩ := hmv.cell_block e
    rw [h.b] at q'; cases q'
end
end Go.Proofs.Ytmfidhlhcochoaa

namespace Go.Proofs.Ytmfidhlhcochoaa
open Go.RowKit
set_option linter.unusedVariables false
set_option linter.unusedSimpArgs false

def setBeg (m : Int) (x : Call) : Call := { x with beg := m }
def shutC (x : Call) : Call := { x with fin := -1, res := zres }
/-- The first k of a list turned. -/
def upK (f : Call → Call) (k : Nat) (xs : List Call) : List Call := (xs.take k).map f ++ xs.drop k
theorem upK_zero (f : Call → Call) (xs : List Call) : upK f 0 xs = xs := by simp [upK]
theorem upK_len (f : Call → Call) (k : Nat) (xs : List Call) : (upK f k xs).length = xs.length := by simp [upK]; omega
theorem upK_all (f : Call → Call) {k : Nat} {xs : List Call} (h : xs.length ≤ k) : upK f k xs = xs.map f := by simp [upK, List.take_of_length_le h, List.drop_eq_nil_of_le h]
theorem upK_get (f : Call → Call) {k : Nat} {xs : List Call} (h : k < xs.length) : (upK f k xs)[k]'(by rw [upK_len]; exact h) = xs[k] := by
  unfold upK
  rw [List.getElem_append_right (by simp; omega)]
  simp [Nat.min_eq_left (Nat.le_of_lt h)]
theorem upK_set (f : Call → Call) {k : Nat} {xs : List Call} (h : k < xs.length) : (upK f k xs).set k (f xs[k]) = upK f (k + 1) xs := by
  have hl : ((xs.take k).map f).length = k := by simp; omega
  unfold upK
  rw [List.set_append_right _ _ (by omega), List.take_succ_eq_append_getElem h, List.map_append, List.drop_eq_getElem_cons h, hl, Nat.sub_self, List.set_cons_zero]
  simp
theorem search_shut (l : List Call) : (searchL (l.map shutC)).2.2 ≠ 0 ∨ (searchL (l.map shutC)).2.2 = 0 ∧ searchL (l.map shutC) = ([], true, 0) := by
  by_cases hz : (searchL (l.map shutC)).2.2 = 0
  · right
    obtain ⟨h1, h2, h3⟩ := search_ok hz
    have hb : best (l.map shutC) = some [] := by
      unfold best
      simp only [comp]
      have hm : missingL (l.map shutC) (allFree (l.map shutC)) = false := any_range_none fun j hj => by
        unfold missAt
        rw [List.getElem?_eq_getElem hj]
        simp [shutC]
      rw [hm]
      simp
    refine ⟨hz, ?_⟩
    unfold searchL
    rw [if_neg (by rw [h1]; decide), if_neg (by omega), hb]
  · exact .inl hz
theorem cutAns_beg (t : Int) (l : List Call) : ∀ x ∈ (cutAns t l).1, 0 ≤ x.beg := by
  unfold cutAns
  rcases checkL_two l with h | h
  · rw [if_neg (by rw [h]; decide)]
    split
    · intro x hx; simp at hx
    · intro x hx
      obtain ⟨y, hy, _, rfl⟩ := mem_cut.1 hx
      rw [truncC_beg]
      exact (good_fin ((checkL_zero h).good hy)).1
  · rw [h, if_pos (by decide)]; intro x hx; simp at hx
theorem cutAns_len' (t : Int) (l : List Call) : (cutAns t l).1.length ≤ l.length := by
  unfold cutAns
  split
  · exact Nat.zero_le _
  · split
    · exact Nat.zero_le _
    · exact cutL_len t l
theorem search_len8 (l : List Call) : (searchL l).1.length ≤ l.length + 1 := by
  unfold searchL
  split
  · exact Nat.zero_le _
  · split
    · exact Nat.zero_le _
    · split
      · rename_i ks h
        have := comp_len l _ _ _ _ h
        exact this
      · exact Nat.zero_le _
/-- What lives from the book's first list on. -/
structure OwnB (w : World) (A : Option Addr) (l : List Call) (bk : Nat) (W : World) (vo : Value) (O : List (Value × List Call)) (I : List (Value × List Nat)) (v : Value) (L : List Bk) : Prop where
  bel : Below w.heap.size w W
  la : Rd Call.cells 10 W w.heap.size A l
  own : Made Call.cells 10 45 w.heap.size W vo l
  o : Outs Call.cells 10 45 w.heap.size W O
  i : Outs icell 1 3 w.heap.size W I
  b : BookZ W bk w.heap.size v L
  bk0 : w.heap.size ≤ bk
theorem OwnB.step {w : World} {A : Option Addr} {l : List Call} {bk : Nat} {W W' : World} {vo : Value} {O : List (Value × List Call)} {I : List (Value × List Nat)} {v v' : Value} {L L' : List Bk} (h : OwnB w A l bk W vo O I v L) (hk : Kept (BookZS W bk w.heap.size) W W') (hb : BookZ W' bk w.heap.size v' L') : OwnB w A l bk W' vo O I v' L' := by
  have hold : Below w.heap.size W W' := ⟨hk.os, hk.tape, hk.output, hk.size, fun j hj => by
    refine hk.block j (Nat.lt_of_lt_of_le hj h.bel.size) fun hq => ?_
    rcases hq with rfl | ⟨q, _⟩
    · have := h.bk0; omega
    · omega⟩
  have htc : ∀ j, (∃ cs, W.heap[j]? = some (.cells cs 45 (0, 0))) → ¬ BookZS W bk w.heap.size j := fun j ⟨cs, q⟩ hq => by
    rcases hq with rfl | ⟨_, cs', q'⟩
    · rw [h.b.at_] at q; cases q
    · rw [q] at q'; cases q'
  have hti : ∀ j, (∃ cs, W.heap[j]? = some (.cells cs 3 (0, 0))) → ¬ BookZS W bk w.heap.size j := fun j ⟨cs, q⟩ hq => by
    rcases hq with rfl | ⟨_, cs', q'⟩
    · rw [h.b.at_] at q; cases q
    · rw [q] at q'; cases q'
  exact ⟨h.bel.trans hold, h.la.below hold, h.own.same fun j hj => hk.block j (h.own.lt j hj).2 (htc j (h.own.cell_block hj)), h.o.keep fun j hj _ hc => hk.block j hj (htc j hc), h.i.keep fun j hj _ hc => hk.block j hj (hti j hc), hb, h.bk0⟩
theorem OwnB.apart {w : World} {A : Option Addr} {l : List Call} {bk : Nat} {W W' : World} {vo : Value} {O : List (Value × List Call)} {I : List (Value × List Nat)} {v : Value} {L : List Bk} (h : OwnB w A l bk W vo O I v L) (hL : Lists zcell 1 3 w.heap.size W L) (hk : Kept (fun j => ∃ q ∈ L, j = q.g) W W') : Below w.heap.size w W' ∧ Rd Call.cells 10 W' w.heap.size A l ∧ Made Call.cells 10 45 w.heap.size W' vo l ∧ Outs Call.cells 10 45 w.heap.size W' O := by
  have hty : ∀ j, (∃ q ∈ L, j = q.g) → w.heap.size ≤ j ∧ ∃ cs, W.heap[j]? = some (.cells cs 3 (0, 0)) := fun j ⟨q, hq, e⟩ => by
    obtain ⟨xs, _, hm⟩ := hL.made q hq
    subst e
    exact ⟨(hm.lt q.g rfl).1, hm.cell_block rfl⟩
  have hold : Below w.heap.size W W' := ⟨hk.os, hk.tape, hk.output, hk.size, fun j hj => hk.block j (Nat.lt_of_lt_of_le hj h.bel.size) fun hq => by have := (hty j hq).1; omega⟩
  have htc : ∀ j, (∃ cs, W.heap[j]? = some (.cells cs 45 (0, 0))) → ¬ ∃ q ∈ L, j = q.g := fun j ⟨cs, q⟩ hq => by
    obtain ⟨cs', q'⟩ := (hty j hq).2
    rw [q] at q'; cases q'
  exact ⟨h.bel.trans hold, h.la.below hold, h.own.same fun j hj => hk.block j (h.own.lt j hj).2 (htc j (h.own.cell_block hj)), h.o.keep fun j hj _ hc => hk.block j hj (htc j hc)⟩
end Go.Proofs.Ytmfidhlhcochoaa
