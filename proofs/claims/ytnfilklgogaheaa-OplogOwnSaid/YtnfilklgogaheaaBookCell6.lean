/- The book's lists of kind Cell: each is marked, grown by seventy, looked at: each still shows its own. Conditions: lists in memory of their own, none in another's block; lengths within Go's own limits. -/
import Derived.Test.YtnfilklgogaheaaOplogM1
import Derived.Test.YtnfilklgogaheaaOpen3
import Derived.Test.YtnfilklgogaheaaPlain
import Derived.Deep.MidRow
namespace Go.Proofs.Ytnfilklgogaheaa
open Go.RowKit
set_option linter.unusedVariables false
set_option linter.unusedSimpArgs false

def mkCell (i k : Nat) : Cell := ⟨-1000003 * ((i : Int) + 1) - k, ⟨#[]⟩⟩
theorem rowsCell : RowT Try.prog 60 41 1 24 := RowT.of (z := .slice none 0 0) Try.underlying60 (by kernel_rfl) rfl (by omega)
theorem sizeCellBk : (Try.prog.info? 56).map (·.size) = some 2 := by kernel_rfl
set_option maxRecDepth 100000 in
theorem markCellBk (i k : Nat) (w : World) (hi : i ≤ 1000) (hk : k ≤ 140737488355328) : Calls Try.prog 93 #[.int .i64 i, .int .i64 k] w fun e w' => e = .returned (.agg #[.int .i64 (mkCell i k).slot, .string (mkCell i k).value]) ∧ Below w.heap.size w w' := by
  unfold mkCell
  simp only
  go_enter Try.func93, Try.ntmps93
  go_wp2
  exact bodyPost_ret (by simp [results, Try.results93, go_sem]) rfl ⟨rfl, (Below.refl _ _).alloc (Nat.le_refl _) _⟩

theorem putCell_eq (W : World) (g o : Nat) (x : Cell) : putCells W g o (Cell.cells x) = ((W.setCell ⟨g, o, none⟩ (.int .i64 x.slot)).setCell ⟨g, o + 1, none⟩ (.string x.value)) := rfl

/-- The row of the book's slices, read in any world that keeps all but the lists' own blocks. -/
theorem slicesCell {base : Nat} {w wq : World} {Av : Option Addr} {n cv : Nat} {L : List Bk} (hv : Made slc 1 41 base w (.slice Av n cv) (L.map Bk.x)) (hL : ∀ l ∈ L, ∃ cs, w.heap[l.g]? = some (.cells cs 56 (0, 0))) (hk : Kept (fun j => ∃ l ∈ L, j = l.g) w wq) :
    Made slc 1 41 base wq (.slice Av n cv) (L.map Bk.x) := by
  refine hv.same fun b hb => hk.block b (hv.lt b hb).2 fun ⟨l, hl, e⟩ => ?_
  obtain ⟨cs, h1⟩ := hv.cell_block hb
  obtain ⟨cs', h2⟩ := hL l hl
  subst e
  rw [h2] at h1; cases h1

set_option maxRecDepth 100000 in
set_option maxHeartbeats 8000000 in
theorem apartCell (b : Nat) (v : Value) (L : List Bk) (base : Nat) (w : World) (hc : w.cell? ⟨b, 4, none⟩ = some v) (hv : Made slc 1 41 base w v (L.map Bk.x)) (hl : L.length ≤ 1000) (hn : ∀ l ∈ L, (l.n + 70) * 24 ≤ 140737488355328) (hL : Lists Cell.cells 2 56 base w L) (hbase : base ≤ w.heap.size) :
    Calls Try.prog 63 #[.pointer (some ⟨b, 0, none⟩)] w fun e w' => e = .returned (.bool true) ∧ Kept (fun j => ∃ l ∈ L, j = l.g) w w' := by
  obtain ⟨Av, cv, rfl, hcv⟩ := hv.form
  have hLT : ∀ l ∈ L, ∃ cs, w.heap[l.g]? = some (.cells cs 56 (0, 0)) := fun l hl => by
    obtain ⟨xs, _, hm⟩ := hL.made l hl
    exact hm.cell_block rfl
  have HSL := Lib.hid (fun wq (hk : Kept (fun j => ∃ l ∈ L, j = l.g) w wq) => slicesCell hv hLT hk)
  have HN := Lib.hid hn
  have HAP := Lib.hid hL.apart
  have HLL : Hid (∀ l ∈ L, l.g < w.heap.size) := fun l hl => by obtain ⟨xs, _, hm⟩ := hL.made l hl; exact (hm.lt l.g rfl).2
  have HM0 : Hid (MarkedAt mkCell Cell.cells 2 56 base w L 0 0) := MarkedAt.start hL
  have hlm : (L.map Bk.x).length = L.length := List.length_map _
  rw [hlm] at HSL hc hcv
  clear hv hLT hn hL hlm hcv
  go_enter Try.func63, Try.ntmps63
  go_wp2_with fail
  go_loopw [4, 5] (fun i _ wr => ∃ p : Nat, p ≤ L.length ∧ i = .int .i64 p ∧ Hid (MarkedAt mkCell Cell.cells 2 56 base wr L p 0) ∧ Hid (Kept (fun j => ∃ l ∈ L, j = l.g) w wr)) (fun i _ _ => L.length - (intOf i).toNat)
  case atStart => exact ⟨0, by omega, rfl, HM0.out, Kept.refl _ _⟩
  case round =>
    obtain ⟨p, hp, rfl, hmr, hkr⟩ := hrel
    by_cases h1 : p < L.length
    · have g1 : decide ((p:Int) < (L.length:Int)) = true := decide_eq_true (by omega)
      have g1b : decide (p < L.length) = true := decide_eq_true h1
      have k1 : IntKind.i64.wrap ((p:Int) + 1) = (p:Int) + 1 := IntWalk.i64_in _ (by omega)
      obtain ⟨l, hl0⟩ : ∃ l, l = L[p] := ⟨_, rfl⟩
      have hlp : L[p]? = some l := by rw [hl0]; exact List.getElem?_eq_getElem h1
      have HLP := Lib.hid hlp
      have hnl := HN.out l (List.mem_of_getElem? hlp)
      have hln : l.n ≤ 140737488355328 := by omega
      have hp1 : p ≤ 1000 := by omega
      obtain ⟨av, hAv, hsl0⟩ : ∃ av, Av = some av ∧ ∀ wq, Kept (fun j => ∃ l ∈ L, j = l.g) w wq → wq.cell? (av.add (p * 1)) = some (.slice (some ⟨l.g, 0, none⟩) l.n l.c) := by
        have hx : (L.map Bk.x)[p]? = some l.x := by rw [List.getElem?_map, hlp]; rfl
        obtain ⟨av, e, _, hat⟩ := Made.rd' encSlc.len (HSL.out w (Kept.refl _ _)) p l.x hx
        refine ⟨av, e, fun wq hk => ?_⟩
        obtain ⟨av', e', _, hat⟩ := Made.rd' encSlc.len (HSL.out wq hk) p l.x hx
        rw [e] at e'; cases e'
        exact hat 0 _ rfl
      rw [Nat.mul_one] at hsl0
      subst hAv
      have HSLP := Lib.hid hsl0
      clear hl0 hlp hsl0 hnl
      obtain ⟨g, n, c⟩ := l
      simp only at HSLP hln
      go_wp2_with fail
      go_loopw [5] (fun kk wq => ∃ q : Nat, q ≤ n ∧ kk = .int .i64 q ∧ Hid (MarkedAt mkCell Cell.cells 2 56 base wq L p q) ∧ Hid (Kept (fun j => ∃ l ∈ L, j = l.g) w wq)) (fun kk _ => n - (intOf kk).toNat)
      case atStart => exact ⟨0, by omega, rfl, hmr.out, hkr.out⟩
      case round =>
        obtain ⟨q, hq, rfl, hmq, hkq⟩ := hrel
        have w0 := HSLP.out wr hkq.out
        by_cases h2 : q < n
        · have g2 : decide ((q:Int) < (n:Int)) = true := decide_eq_true (by omega)
          have g2b : decide (q < n) = true := decide_eq_true h2
          have k2 : IntKind.i64.wrap ((q:Int) + 1) = (q:Int) + 1 := IntWalk.i64_in _ (by omega)
          have HMK := Lib.hid (fun W => markCellBk p q W hp1 (by omega))
          have i0 : (0:Int) ≤ (q:Int) := by omega
          have i1 : (0:Int) ≤ (p:Int) := by omega
          have i2 : (q:Int) < (n:Int) := by omega
          have i3 : (p:Int) < (L.length:Int) := by omega
          go_wp2_with fail
          go_region_held3 (fun W => W.cell? (av.add p) = some (.slice (some ⟨g, 0, none⟩) n c))
            (first
              | with_reducible exact HF6.out
              | with_reducible exact HF5.out
              | exact HF6.out
              | go_keep)
            (first
              | (go_at_call 93
                 refine (HMK.out _).mono ?_
                 rintro e w5 ⟨rfl, hb5⟩
                 have HF5 := Lib.hid (HSLP.out w5 (hkq.out.trans (Kept.of_below (a := wr) (b := w5) (by exact ⟨hb5.os, hb5.tape, hb5.output, hb5.size, hb5.block⟩) _)))
                 have hm5 : MarkedAt mkCell Cell.cells 2 56 base w5 L p q := hmq.out.below ⟨hb5.os, hb5.tape, hb5.output, hb5.size, hb5.block⟩
                 have HB5 : Hid (Below wr.heap.size wr w5) := ⟨hb5.os, hb5.tape, hb5.output, hb5.size, hb5.block⟩
                 obtain ⟨xs5, x1, x2, _, _⟩ := hm5 p _ HLP.out
                 have hst5 := x2.stepped encCell x1 h2 (mkCell p q)
                 simp only [Stepped, Cell.cells, Nat.add_zero, Nat.zero_add, Nat.reduceAdd] at hst5
                 obtain ⟨⟨_, _⟩, _, ⟨_, _⟩, _, _⟩ := hst5
                 have hkp5 : Kept (fun j => ∃ l ∈ L, j = l.g) w (putCells w5 g (q * 2) (Cell.cells (mkCell p q))) := (hkq.out.trans (Kept.of_below HB5.out _)).trans (putCells_kept.mono (fun j _ e => ⟨_, List.mem_of_getElem? HLP.out, e⟩))
                 have hm6 : MarkedAt mkCell Cell.cells 2 56 base (putCells w5 g (q * 2) (Cell.cells (mkCell p q))) L p (q + 1) := MarkedAt.step (l := ⟨g, n, c⟩) encCell.len (by omega) HAP.out hm5 HLP.out h2
                 rw [putCell_eq] at hkp5 hm6
                 have HF6 := Lib.hid (HSLP.out _ hkp5)
                 have HKP5 := Lib.hid hkp5
                 have HM5 := Lib.hid hm6
                 clear hkp5 hm6
                 clear x1 x2 hm5 hb5))
          all_goals
            go_wp2_with fail
            go_roundw
            case rel => exact ⟨q + 1, by omega, by go_num, HM5.out, HKP5.out⟩
            case measure => simp [intOf]; omega
        · have g2 : decide ((q:Int) < (n:Int)) = false := decide_eq_false (by omega)
          have g2b : decide (q < n) = false := decide_eq_false h2
          go_wp2_with fail
          go_roundw
          case rel => exact ⟨p + 1, by omega, by go_num, hmq.out.next HLP.out (by simp only; omega), hkq.out⟩
          case measure => simp [intOf]; omega
    · have g1 : decide ((p:Int) < (L.length:Int)) = false := decide_eq_false (by omega)
      have g1b : decide (p < L.length) = false := decide_eq_false h1
      obtain rfl : p = L.length := by omega
      have HG0 : Hid (GrownAt mkCell Cell.cells 2 56 base wr L [] 0) := GrownAt.start hmr.out encCell.len
      have HK0 := Lib.hid hkr.out
      clear hmr hkr HM0 g1 g1b h1
      go_wp2_with fail
      generalize wr = w2 at *
      go_loopw [6, 7, 8, 9] (fun gr i _ _ wr => ∃ (p : Nat) (G : List Bk) (Ag : Option Addr) (cg : Nat), p ≤ L.length ∧ i = .int .i64 p ∧ gr = .slice Ag p cg ∧ Hid (G.length = p) ∧ Hid (Made slc 1 41 w.heap.size wr (.slice Ag p cg) (G.map Bk.x)) ∧ Hid (GrownAt mkCell Cell.cells 2 56 base wr L G p) ∧ Hid (Kept (fun j => ∃ l ∈ L, j = l.g) w wr)) (fun _ i _ _ _ => L.length - (intOf i).toNat)
      case atStart => exact ⟨0, [], none, 0, by omega, rfl, rfl, rfl, Made.nil _ _ _, HG0.out, HK0.out⟩
      case round =>
        obtain ⟨p, G, Ag, cg, hp, rfl, rfl, hGl, hmg, hgr, hkr⟩ := hrel
        by_cases h1 : p < L.length
        · have g1 : decide ((p:Int) < (L.length:Int)) = true := decide_eq_true (by omega)
          have g1b : decide (p < L.length) = true := decide_eq_true h1
          have k1 : IntKind.i64.wrap ((p:Int) + 1) = (p:Int) + 1 := IntWalk.i64_in _ (by omega)
          obtain ⟨l, hl0⟩ : ∃ l, l = L[p] := ⟨_, rfl⟩
          have hlp : L[p]? = some l := by rw [hl0]; exact List.getElem?_eq_getElem h1
          have HLP := Lib.hid hlp
          have hnl := HN.out l (List.mem_of_getElem? hlp)
          have hln : l.n + 70 ≤ 140737488355328 := by omega
          have HNL := Lib.hid hnl
          have hp1 : p ≤ 1000 := by omega
          obtain ⟨av, hAv, hsl0⟩ : ∃ av, Av = some av ∧ ∀ wq, Kept (fun j => ∃ l ∈ L, j = l.g) w wq → wq.cell? (av.add (p * 1)) = some (.slice (some ⟨l.g, 0, none⟩) l.n l.c) := by
            have hx : (L.map Bk.x)[p]? = some l.x := by rw [List.getElem?_map, hlp]; rfl
            obtain ⟨av, e, _, hat⟩ := Made.rd' encSlc.len (HSL.out w (Kept.refl _ _)) p l.x hx
            refine ⟨av, e, fun wq hk => ?_⟩
            obtain ⟨av', e', _, hat⟩ := Made.rd' encSlc.len (HSL.out wq hk) p l.x hx
            rw [e] at e'; cases e'
            exact hat 0 _ rfl
          rw [Nat.mul_one] at hsl0
          subst hAv
          have w0 := hsl0 wr hkr.out
          have HGW : Hid (GrowAt mkCell Cell.cells 2 56 base wr L G p l l 0) := GrowAt.start hgr.out hlp HAP.out
          have HSW : Hid (w.heap.size ≤ wr.heap.size) := hkr.out.size
          clear hl0 hlp hsl0 hnl
          go_wp2_with fail
          go_loopw [8, 9] (fun gv m wq => ∃ (q : Nat) (c : Bk), q ≤ 70 ∧ m = .int .i64 q ∧ gv = .slice (some ⟨c.g, 0, none⟩) c.n c.c ∧ Hid (GrowAt mkCell Cell.cells 2 56 base wq L G p l c q) ∧ Hid (c.g = l.g ∨ w.heap.size ≤ c.g) ∧ Hid (Made slc 1 41 w.heap.size wq (.slice Ag p cg) (G.map Bk.x)) ∧ Hid (Kept (fun j => ∃ l ∈ L, j = l.g) w wq)) (fun _ m _ => 70 - (intOf m).toNat)
          case atStart => exact ⟨0, l, by omega, rfl, rfl, HGW.out, .inl rfl, hmg.out, hkr.out⟩
          case round =>
            obtain ⟨q, cb, hq, rfl, rfl, hgq, hcl, hmq, hkq⟩ := hrel
            have hcn := hgq.out.cn
            by_cases h2 : q < 70
            · have g2 : decide ((q:Int) < 70) = true := decide_eq_true (by omega)
              have k2 : IntKind.i64.wrap ((q:Int) + 1) = (q:Int) + 1 := IntWalk.i64_in _ (by omega)
              have hcn2 : cb.n + 1 ≤ l.n + 70 := by omega
              have HMK := Lib.hid (fun W => markCellBk p cb.n W hp1 (by omega))
              have HCN := Lib.hid hcn
              have hcl2 : (marks mkCell p cb.n).length = cb.n := marks_length _ _ _
              have HCL2 := Lib.hid hcl2
              have hkb : base ≤ wr.heap.size := by have := hkq.out.size; omega
              clear hcn hcl2
              obtain ⟨cbg, cbn, cbc⟩ := cb
              simp only at hcn2 HCN HCL2 HMK
              go_wp2_with (first
                | (go_at_call 93
                   refine (HMK.out _).mono ?_
                   rintro e w5 ⟨rfl, hb5⟩
                   have HG5 := Lib.hid ((hgq.out.below hb5).below ((Below.refl _ w5).alloc (Nat.le_refl _) (.cells #[.int .i64 (mkCell p cbn).slot, .string (mkCell p cbn).value] 56)))
                   have HS5 : Hid (wr.heap.size ≤ w5.heap.size) := hb5.size
                   have HM5 := Lib.hid ((hmq.out.below hb5 (fun b e => (hmq.out.lt b e).2)).alloc (.cells #[.int .i64 (mkCell p cbn).slot, .string (mkCell p cbn).value] 56))
                   have HK5 := Lib.hid ((hkq.out.trans (Kept.of_below hb5 _)).alloc (.cells #[.int .i64 (mkCell p cbn).slot, .string (mkCell p cbn).value] 56))
                   have HR5 := Lib.hid (rd_one encCell w5 (mkCell p cbn) #[.int .i64 (mkCell p cbn).slot, .string (mkCell p cbn).value] rfl 56)
                   clear hb5)
                | (at_builtin
                   refine wpList_app2 (g := cbg) (n := cbn) (cap := cbc) (xs := marks mkCell p cbn) (y := mkCell p cbn) rowCell encCell rfl (.tmp 54) (.tmp 59) rfl base rfl HCL2.out.symm HG5.out.cur rfl rfl HR5.out (by rw [HCL2.out]; have := HNL.out; omega) (by rw [HCL2.out]; unfold maxLen; omega) (by simp; have := HS5.out; omega) ?_
                   intro b6 w6 hbn hm6 hg6
                   have HBN := Lib.hid hbn
                   have HM6 := Lib.hid hm6
                   have HG6 := Lib.hid hg6
                   clear hbn hm6 hg6))
              go_roundw
              case rel =>
                have hw5 : w.heap.size ≤ (w5.alloc (.cells #[.int .i64 (mkCell p cbn).slot, .string (mkCell p cbn).value] 56)).heap.size := HK5.out.size
                refine ⟨q + 1, b6, by omega, by go_num, rfl, HG5.out.step encCell.len HLP.out (fun j b hj => ⟨_, List.getElem?_eq_getElem (by have h3 := (List.getElem?_eq_some_iff.1 hj).1; have h4 := hGl.out; omega)⟩) HBN.out HM6.out HG6.out, ?_, ?_, ?_⟩
                · rcases HG6.out with ⟨e, _⟩ | ⟨e, _⟩
                  · rw [e]; exact hcl.out
                  · exact .inr (by omega)
                · refine HM5.out.same fun j ej => ?_
                  have hj := HM5.out.lt j ej
                  rcases HG6.out with ⟨e, hgb⟩ | ⟨e, hgb⟩
                  · refine hgb.block j hj.2 fun e2 => ?_
                    obtain ⟨cs, h3⟩ := HM5.out.cell_block ej
                    obtain ⟨cs', h4⟩ := HG5.out.cur.cell_block (b := cbg) rfl
                    cases e2
                    rw [h3] at h4; cases h4
                  · exact hgb.block j hj.2
                · rcases HG6.out with ⟨e, hgb⟩ | ⟨e, hgb⟩
                  · refine ⟨hgb.os.trans HK5.out.os, hgb.tape.trans HK5.out.tape, hgb.output.trans HK5.out.output, Nat.le_trans HK5.out.size hgb.size, fun j hj hn => (hgb.block j (by omega) fun e2 => ?_).trans (HK5.out.block j hj hn)⟩
                    cases e2
                    rcases hcl.out with e3 | e3
                    · exact hn ⟨l, List.mem_of_getElem? HLP.out, e3⟩
                    · omega
                  · exact HK5.out.trans (Kept.of_below hgb _)
              case measure => simp [intOf]; omega
            · have g2 : decide ((q:Int) < 70) = false := decide_eq_false (by omega)
              obtain rfl : q = 70 := by omega
              obtain ⟨cbg, cbn, cbc⟩ := cb
              have HGL := hGl.out
              have hGL2 : (G.map Bk.x).length = p := by rw [List.length_map]; exact HGL
              have HFN := Lib.hid (hgq.out.finish HLP.out h1)
              have HM7 := Lib.hid (hmq.out.alloc (.cells #[.slice (some ⟨cbg, 0, none⟩) cbn cbc] 41))
              have HR7 := Lib.hid (rd_one encSlc wr (Bk.x ⟨cbg, cbn, cbc⟩) #[.slice (some ⟨cbg, 0, none⟩) cbn cbc] rfl 41)
              have HK7 := Lib.hid (hkq.out.alloc (.cells #[.slice (some ⟨cbg, 0, none⟩) cbn cbc] 41))
              have HSW7 : Hid (w.heap.size ≤ wr.heap.size) := hkq.out.size
              have HGL3 := Lib.hid hGL2
              clear HGL hGL2 hcn
              go_wp2_with (at_builtin; refine wpList_app (v := .slice Ag p cg) (xs := G.map Bk.x) (ys := [Bk.x ⟨cbg, cbn, cbc⟩]) rowsCell encSlc rfl (.tmp 61) (.tmp 63) rfl w.heap.size rfl HM7.out rfl rfl HR7.out (by rw [HGL3.out]; simp only [List.length_singleton]; omega) (by rw [HGL3.out]; unfold maxLen; simp only [List.length_singleton]; omega) (by simp; have := HSW7.out; omega) ?_; intro v8 w8 hm8 hg8 hat8; have HM8 := Lib.hid hm8; have HG8 := Lib.hid hg8; clear hm8 hg8 hat8)
              go_roundw
              case rel =>
                obtain ⟨A8, c8, hv8, hc8⟩ := HM8.out.form
                have hl8 : (G.map Bk.x ++ [Bk.x ⟨cbg, cbn, cbc⟩]).length = p + 1 := by rw [List.length_append, HGL3.out]; rfl
                have hm8 := HM8.out
                rw [hl8] at hv8
                subst hv8
                have e8 : G.map Bk.x ++ [Bk.x ⟨cbg, cbn, cbc⟩] = (G ++ [(⟨cbg, cbn, cbc⟩ : Bk)]).map Bk.x := by simp
                rw [e8] at hm8
                have hGl2 : (G ++ [(⟨cbg, cbn, cbc⟩ : Bk)]).length = p + 1 := by simp [hGl.out]
                refine ⟨p + 1, G ++ [(⟨cbg, cbn, cbc⟩ : Bk)], A8, c8, by omega, by go_num, rfl, hGl2, hm8, ?_, ?_⟩
                · refine (HFN.out.below ((Below.refl _ wr).alloc (Nat.le_refl _) _) (by omega)).keep HG8.out.size (fun l hl => HG8.out.block _ (Nat.lt_of_lt_of_le (HLL.out l hl) HK7.out.size) fun e => ?_) (fun b hb hlt hcs => HG8.out.block _ hlt fun e => ?_) (by omega)
                  · have h3 := (HM7.out.lt l.g e.symm).1
                    have h4 := HLL.out l hl
                    omega
                  · obtain ⟨cs, h3⟩ := HM7.out.cell_block e.symm
                    obtain ⟨cs', h4⟩ := hcs
                    rw [h3] at h4; cases h4
                · exact ⟨HG8.out.os.trans HK7.out.os, HG8.out.tape.trans HK7.out.tape, HG8.out.output.trans HK7.out.output, Nat.le_trans HK7.out.size HG8.out.size, fun j hj hn => (HG8.out.block j (Nat.lt_of_lt_of_le hj HK7.out.size) fun e => by have h3 := (HM7.out.lt j e.symm).1; omega).trans (HK7.out.block j hj hn)⟩
              case measure => simp [intOf]; omega
        · have g1 : decide ((p:Int) < (L.length:Int)) = false := decide_eq_false (by omega)
          have g1b : decide (p < L.length) = false := decide_eq_false h1
          obtain rfl : p = L.length := by omega
          have HKW := Lib.hid hkr.out
          have HGW := Lib.hid hgr.out
          have HGS := Lib.hid hmg.out
          clear hgr hkr hmg h1 g1 g1b HG0 HK0
          go_wp2_with fail
          generalize wr = w8 at *
          go_loopw [10, 11] (fun i _ wq => ∃ p : Nat, p ≤ L.length ∧ i = .int .i64 p ∧ Hid (Below w8.heap.size w8 wq)) (fun i _ _ => L.length - (intOf i).toNat)
          case atStart => exact ⟨0, by omega, rfl, Below.refl _ _⟩
          case round =>
            obtain ⟨p, hp, rfl, hbr⟩ := hrel
            by_cases h1 : p < L.length
            · have g1 : decide ((p:Int) < (L.length:Int)) = true := decide_eq_true (by omega)
              have g1b : decide (p < L.length) = true := decide_eq_true h1
              have k1 : IntKind.i64.wrap ((p:Int) + 1) = (p:Int) + 1 := IntWalk.i64_in _ (by omega)
              have hpG : p < G.length := by rw [hGl.out]; exact h1
              obtain ⟨l, hl0⟩ : ∃ l, l = L[p] := ⟨_, rfl⟩
              obtain ⟨b6, hb0⟩ : ∃ b6, b6 = G[p] := ⟨_, rfl⟩
              have hlp : L[p]? = some l := by rw [hl0]; exact List.getElem?_eq_getElem h1
              have hbp : G[p]? = some b6 := by rw [hb0]; exact List.getElem?_eq_getElem hpG
              obtain ⟨hbn, hbm⟩ := HGW.out.grown p b6 l hbp hlp
              have hnl := HN.out l (List.mem_of_getElem? hlp)
              have hln : l.n + 70 ≤ 140737488355328 := by omega
              have hp1 : p ≤ 1000 := by omega
              have hpi : (0:Int) ≤ (p:Int) := by omega
              have hpi2 : (p:Int) < (L.length:Int) := by omega
              have HRO := Lib.hid (HGW.out.old p l hlp)
              have HRG := Lib.hid (Made.rd' encCell.len hbm)
              obtain ⟨av, hAv, hsl0⟩ : ∃ av, Av = some av ∧ w8.cell? (av.add (p * 1)) = some (.slice (some ⟨l.g, 0, none⟩) l.n l.c) ∧ av.block < w8.heap.size := by
                have hx : (L.map Bk.x)[p]? = some l.x := by rw [List.getElem?_map, hlp]; rfl
                obtain ⟨av, e, hlt, hat⟩ := Made.rd' encSlc.len (HSL.out w8 HKW.out) p l.x hx
                exact ⟨av, e, hat 0 _ rfl, hlt⟩
              obtain ⟨ag, hAg, hsl1⟩ : ∃ ag, Ag = some ag ∧ w8.cell? (ag.add (p * 1)) = some (.slice (some ⟨b6.g, 0, none⟩) b6.n b6.c) ∧ ag.block < w8.heap.size := by
                have hx : (G.map Bk.x)[p]? = some b6.x := by rw [List.getElem?_map, hbp]; rfl
                obtain ⟨ag, e, hlt, hat⟩ := Made.rd' encSlc.len HGS.out p b6.x hx
                exact ⟨ag, e, hat 0 _ rfl, hlt⟩
              rw [Nat.mul_one] at hsl0 hsl1
              subst hAv hAg
              obtain ⟨g, n, c⟩ := l
              obtain ⟨bg, bn, bc⟩ := b6
              simp only at hbn hsl0 hsl1 HRO HRG hln
              subst hbn
              have HSW : Hid (∀ wq, Below w8.heap.size w8 wq → wq.cell? (av.add p) = some (.slice (some ⟨g, 0, none⟩) n c) ∧ wq.cell? (ag.add p) = some (.slice (some ⟨bg, 0, none⟩) (n + 70) bc)) := fun wq hb => ⟨(hb.cell (p := av.add p) (by rw [block_add]; exact hsl0.2)).trans hsl0.1, (hb.cell (p := ag.add p) (by rw [block_add]; exact hsl1.2)).trans hsl1.1⟩
              clear hl0 hb0 hlp hbp hbm hsl0 hsl1 hnl hpG
              go_wp2_with fail
              go_loopw [11] (fun kk wq => ∃ q : Nat, q ≤ n + 70 ∧ kk = .int .i64 q ∧ Hid (Below w8.heap.size w8 wq)) (fun kk _ => n + 70 - (intOf kk).toNat)
              case atStart => exact ⟨0, by omega, rfl, hbr.out⟩
              case round =>
                obtain ⟨q, hq, rfl, hbq⟩ := hrel
                have HBQ := Lib.hid hbq.out
                obtain ⟨w0, w1⟩ := HSW.out wr HBQ.out
                have i0 : (0:Int) ≤ (q:Int) := by omega
                have jn : (((n + 70 : Nat) : Int)) = (n : Int) + 70 := by omega
                by_cases h2 : q < n + 70
                · have HMK := Lib.hid (fun W => markCellBk p q W hp1 (by omega))
                  have i2 : (q:Int) < (n:Int) + 70 := by omega
                  have i2b : (q:Int) < ((n + 70 : Nat):Int) := by omega
                  have k2 : IntKind.i64.wrap ((q:Int) + 1) = (q:Int) + 1 := IntWalk.i64_in _ (by omega)
                  have hgr := guard_cell
                  have geq : ∀ W, (binOp .neq 56 (.agg #[.int .i64 (mkCell p q).slot, .string (mkCell p q).value]) (.agg #[.int .i64 (mkCell p q).slot, .string (mkCell p q).value])).run Try.prog W = .ok (.bool false) W := fun W => by have h := neq_cell (mkCell p q) (mkCell p q) W; simpa using h
                  have hatG : ∀ wq, Below w8.heap.size w8 wq → At wq ⟨bg, q * 2, none⟩ (Cell.cells (mkCell p q)) := fun wq hb => by
                    obtain ⟨ad, e, _, hat⟩ := (HRG.out.below hb) q _ (marks_get mkCell p (n + 70) h2)
                    cases e
                    rw [addr_at] at hat
                    exact hat
                  by_cases h3 : q < n
                  · have i3 : decide ((q:Int) < (n:Int)) = true := decide_eq_true (by omega)
                    have i4 : (q:Int) < (n:Int) := by omega
                    have i3b : decide (q < n) = true := decide_eq_true h3
                    have hatO : ∀ wq, Below w8.heap.size w8 wq → At wq ⟨g, q * 2, none⟩ (Cell.cells (mkCell p q)) := fun wq hb => by
                      obtain ⟨ad, e, _, hat⟩ := (HRO.out.below hb) q _ (marks_get mkCell p n h3)
                      cases e
                      rw [addr_at] at hat
                      exact hat
                    have HFX : Hid (∀ wq, Below w8.heap.size w8 wq → (wq.cell? (av.add p) = some (.slice (some ⟨g, 0, none⟩) n c) ∧ wq.cell? (ag.add p) = some (.slice (some ⟨bg, 0, none⟩) (n + 70) bc) ∧ wq.cell? ⟨bg, q * 2, none⟩ = some (.int .i64 (mkCell p q).slot) ∧ wq.cell? ⟨bg, q * 2 + 1, none⟩ = some (.string (mkCell p q).value) ∧ wq.cell? ⟨g, q * 2, none⟩ = some (.int .i64 (mkCell p q).slot) ∧ wq.cell? ⟨g, q * 2 + 1, none⟩ = some (.string (mkCell p q).value))) := fun wq hb => ⟨(HSW.out wq hb).1, (HSW.out wq hb).2, hatG wq hb 0 _ rfl, hatG wq hb 1 _ rfl, hatO wq hb 0 _ rfl, hatO wq hb 1 _ rfl⟩
                    clear hatG hatO w0 w1
                    obtain ⟨w0, w1, d0, d1, e0, e1⟩ := HFX.out wr HBQ.out
                    clear h2 h3
                    go_wp2_with fail
                    go_region_held3 (fun wq => (wq.cell? (av.add p) = some (.slice (some ⟨g, 0, none⟩) n c) ∧ wq.cell? (ag.add p) = some (.slice (some ⟨bg, 0, none⟩) (n + 70) bc) ∧ wq.cell? ⟨bg, q * 2, none⟩ = some (.int .i64 (mkCell p q).slot) ∧ wq.cell? ⟨bg, q * 2 + 1, none⟩ = some (.string (mkCell p q).value) ∧ wq.cell? ⟨g, q * 2, none⟩ = some (.int .i64 (mkCell p q).slot) ∧ wq.cell? ⟨g, q * 2 + 1, none⟩ = some (.string (mkCell p q).value)))
                      (first
                        | with_reducible exact HFX.out _ HB6.out
                        | with_reducible exact HFX.out _ HB5.out
                        | exact HFX.out _ HB6.out
                        | exact HFX.out _ HB5.out
                        | go_keep)
                      (first
                        | (go_at_call 93
                           refine (HMK.out _).mono ?_
                           rintro e w6 ⟨rfl, hb6⟩
                           have hb6' : Below w5.heap.size w5 w6 := ⟨hb6.os, hb6.tape, hb6.output, hb6.size, hb6.block⟩
                           have HB6 := Lib.hid (HB5.out.trans (hb6'.mono HB5.out.size))
                           clear hb6'
                           clear hb6)
                        | (go_at_call 93
                           refine (HMK.out _).mono ?_
                           rintro e w5 ⟨rfl, hb5⟩
                           have hb5' : Below wr.heap.size wr w5 := ⟨hb5.os, hb5.tape, hb5.output, hb5.size, hb5.block⟩
                           have HB5 := Lib.hid (HBQ.out.trans (hb5'.mono HBQ.out.size))
                           clear hb5'
                           clear hb5)
                        | fail)
                    all_goals
                      go_wp2_with fail
                      go_roundw
                      case rel => exact ⟨q + 1, by omega, by go_num, HB6.out⟩
                      case measure => simp [intOf]; omega
                  · have i3 : decide ((q:Int) < (n:Int)) = false := decide_eq_false (by omega)
                    have i3b : decide (q < n) = false := decide_eq_false h3
                    have HFX : Hid (∀ wq, Below w8.heap.size w8 wq → (wq.cell? (av.add p) = some (.slice (some ⟨g, 0, none⟩) n c) ∧ wq.cell? (ag.add p) = some (.slice (some ⟨bg, 0, none⟩) (n + 70) bc) ∧ wq.cell? ⟨bg, q * 2, none⟩ = some (.int .i64 (mkCell p q).slot) ∧ wq.cell? ⟨bg, q * 2 + 1, none⟩ = some (.string (mkCell p q).value))) := fun wq hb => ⟨(HSW.out wq hb).1, (HSW.out wq hb).2, hatG wq hb 0 _ rfl, hatG wq hb 1 _ rfl⟩
                    clear hatG w0 w1
                    obtain ⟨w0, w1, d0, d1⟩ := HFX.out wr HBQ.out
                    clear h2 h3
                    go_wp2_with fail
                    refine wp_region_held_drew (S := (fun wq => (wq.cell? (av.add p) = some (.slice (some ⟨g, 0, none⟩) n c) ∧ wq.cell? (ag.add p) = some (.slice (some ⟨bg, 0, none⟩) (n + 70) bc) ∧ wq.cell? ⟨bg, q * 2, none⟩ = some (.int .i64 (mkCell p q).slot) ∧ wq.cell? ⟨bg, q * 2 + 1, none⟩ = some (.string (mkCell p q).value)))) (by kernel_rfl) (HFX.out wr HBQ.out) (fun hHeld => ?_)
                    simp only [List.size_toArray, List.length_cons, List.length_nil, Nat.reduceAdd]
                    simp only [show Array.replicate 33 false = #[false, false, false, false, false, false, false, false, false, false, false, false, false, false, false, false, false, false, false, false, false, false, false, false, false, false, false, false, false, false, false, false, false] from rfl]
                    refine wpAnyH_take (i := 0) (oi := ⟨some 80, _, _, _, _, _⟩) (v := ?_) rfl (by kernel_rfl) (by kernel_rfl) (by kernel_rfl) (fun _ _ _ h => h) (Or.inl ⟨by kernel_rfl, ?_⟩) hHeld ?_
                    rotate_left
                    · intro w hSw; go_split_ands; go_simp; try with_reducible rfl
                    try simp only [Act.put, List.setIfInBounds_toArray, List.set_cons_zero, List.set_cons_succ]
                    refine wpAnyH_take (i := 1) (oi := ⟨some 81, _, _, _, _, _⟩) (v := ?_) rfl (by kernel_rfl) (by kernel_rfl) (by kernel_rfl) (fun _ _ _ h => h) (Or.inl ⟨by kernel_rfl, ?_⟩) hHeld ?_
                    rotate_left
                    · intro w hSw; go_split_ands; go_simp; try with_reducible rfl
                    try simp only [Act.put, List.setIfInBounds_toArray, List.set_cons_zero, List.set_cons_succ]
                    refine wpAnyH_take (i := 2) (oi := ⟨some 82, _, _, _, _, _⟩) (v := ?_) rfl (by kernel_rfl) (by kernel_rfl) (by kernel_rfl) (fun _ _ _ h => h) (Or.inl ⟨by kernel_rfl, ?_⟩) hHeld ?_
                    rotate_left
                    · intro w hSw; go_split_ands; go_simp; try with_reducible rfl
                    try simp only [Act.put, List.setIfInBounds_toArray, List.set_cons_zero, List.set_cons_succ]
                    refine wpAnyH_take (i := 3) (oi := ⟨some 83, _, _, _, _, _⟩) (v := ?_) rfl (by kernel_rfl) (by kernel_rfl) (by kernel_rfl) (fun _ _ _ h => h) (Or.inl ⟨by kernel_rfl, ?_⟩) hHeld ?_
                    rotate_left
                    · intro w hSw; go_split_ands; go_simp; try with_reducible rfl
                    try simp only [Act.put, List.setIfInBounds_toArray, List.set_cons_zero, List.set_cons_succ]
                    refine wpAnyH_take (i := 4) (oi := ⟨some 84, _, _, _, _, _⟩) (v := ?_) rfl (by kernel_rfl) (by kernel_rfl) (by kernel_rfl) (fun _ _ _ h => h) (Or.inl ⟨by kernel_rfl, ?_⟩) hHeld ?_
                    rotate_left
                    · intro w hSw; go_split_ands; go_simp; try with_reducible rfl
                    try simp only [Act.put, List.setIfInBounds_toArray, List.set_cons_zero, List.set_cons_succ]
                    refine wpAnyH_take (i := 5) (oi := ⟨some 85, _, _, _, _, _⟩) (v := ?_) rfl (by kernel_rfl) (by kernel_rfl) (by kernel_rfl) (fun _ _ _ h => h) (Or.inl ⟨by kernel_rfl, ?_⟩) hHeld ?_
                    rotate_left
                    · intro w hSw; go_split_ands; go_simp; try with_reducible rfl
                    try simp only [Act.put, List.setIfInBounds_toArray, List.set_cons_zero, List.set_cons_succ]
                    refine wpAnyH_take (i := 6) (oi := ⟨some 86, _, _, _, _, _⟩) (v := ?_) rfl (by kernel_rfl) (by kernel_rfl) (by kernel_rfl) (fun _ _ _ h => h) (Or.inl ⟨by kernel_rfl, ?_⟩) hHeld ?_
                    rotate_left
                    · intro w hSw; go_split_ands; go_simp; try with_reducible rfl
                    try simp only [Act.put, List.setIfInBounds_toArray, List.set_cons_zero, List.set_cons_succ]
                    refine wpAnyH_take (i := 7) (oi := ⟨some 87, _, _, _, _, _⟩) (v := ?_) rfl (by kernel_rfl) (by kernel_rfl) (by kernel_rfl) (fun _ _ _ h => h) (Or.inl ⟨by kernel_rfl, ?_⟩) hHeld ?_
                    rotate_left
                    · intro w hSw; go_split_ands; go_simp; try with_reducible rfl
                    try simp only [Act.put, List.setIfInBounds_toArray, List.set_cons_zero, List.set_cons_succ]
                    refine wpAnyH_take (i := 8) (oi := ⟨some 88, _, _, _, _, _⟩) (v := ?_) rfl (by kernel_rfl) (by kernel_rfl) (by kernel_rfl) (fun _ _ _ h => h) (Or.inl ⟨by kernel_rfl, ?_⟩) hHeld ?_
                    rotate_left
                    · intro w hSw; go_split_ands; go_simp; try with_reducible rfl
                    try simp only [Act.put, List.setIfInBounds_toArray, List.set_cons_zero, List.set_cons_succ]
                    refine wpAnyH_ready (rs := [9]) (by kernel_rfl) (by simp) ?_
                    refine AllReadyH.cons rfl (fun K hK => ?_) AllReadyH.nil
                    go_simp
                    refine (HMK.out _).mono ?_
                    rintro e w5 ⟨rfl, hb5⟩
                    have hb5' : Below wr.heap.size wr w5 := ⟨hb5.os, hb5.tape, hb5.output, hb5.size, hb5.block⟩
                    have HB5 := Lib.hid (HBQ.out.trans (hb5'.mono HBQ.out.size))
                    clear hb5 hb5'
                    dsimp only
                    clear hHeld
                    refine hK.out _ _ (HFX.out _ HB5.out) (fun hHeld => ?_)
                    clear hK K
                    simp only [Act.put, List.setIfInBounds_toArray, List.set_cons_zero, List.set_cons_succ]
                    refine wpAnyH_take (i := 10) (oi := ⟨some 90, _, _, _, _, _⟩) (v := ?_) rfl (by kernel_rfl) (by kernel_rfl) (by kernel_rfl) (fun _ _ _ h => h) (Or.inl ⟨by kernel_rfl, ?_⟩) hHeld ?_
                    rotate_left
                    · intro w hSw; go_split_ands; go_simp; try with_reducible rfl
                    try simp only [Act.put, List.setIfInBounds_toArray, List.set_cons_zero, List.set_cons_succ]
                    refine wpAnyH_take (i := 11) (oi := ⟨some 91, _, _, _, _, _⟩) (v := ?_) rfl (by kernel_rfl) (by kernel_rfl) (by kernel_rfl) (fun _ _ _ h => h) (Or.inl ⟨by kernel_rfl, ?_⟩) hHeld ?_
                    rotate_left
                    · intro w hSw; go_split_ands; go_simp; try with_reducible rfl
                    try simp only [Act.put, List.setIfInBounds_toArray, List.set_cons_zero, List.set_cons_succ]
                    refine wpAnyH_take (i := 12) (oi := ⟨some 92, _, _, _, _, _⟩) (v := ?_) rfl (by kernel_rfl) (by kernel_rfl) (by kernel_rfl) (fun _ _ _ h => h) (Or.inl ⟨by kernel_rfl, ?_⟩) hHeld ?_
                    rotate_left
                    · intro w hSw; go_split_ands; go_simp; try with_reducible rfl
                    try simp only [Act.put, List.setIfInBounds_toArray, List.set_cons_zero, List.set_cons_succ]
                    refine wpAnyH_take (i := 13) (oi := ⟨some 93, _, _, _, _, _⟩) (v := ?_) rfl (by kernel_rfl) (by kernel_rfl) (by kernel_rfl) (fun _ _ _ h => h) (Or.inl ⟨by kernel_rfl, ?_⟩) hHeld ?_
                    rotate_left
                    · intro w hSw; go_split_ands; go_simp; try with_reducible rfl
                    try simp only [Act.put, List.setIfInBounds_toArray, List.set_cons_zero, List.set_cons_succ]
                    refine wpAnyH_take (i := 14) (oi := ⟨some 94, _, _, _, _, _⟩) (v := ?_) rfl (by kernel_rfl) (by kernel_rfl) (by kernel_rfl) (fun _ _ _ h => h) (Or.inl ⟨by kernel_rfl, ?_⟩) hHeld ?_
                    rotate_left
                    · intro w hSw; go_split_ands; go_simp; try with_reducible rfl
                    try simp only [Act.put, List.setIfInBounds_toArray, List.set_cons_zero, List.set_cons_succ]
                    refine wpAnyH_take (i := 15) (oi := ⟨some 95, _, _, _, _, _⟩) (v := ?_) rfl (by kernel_rfl) (by kernel_rfl) (by kernel_rfl) (fun _ _ _ h => h) (Or.inl ⟨by kernel_rfl, ?_⟩) hHeld ?_
                    rotate_left
                    · intro w hSw; go_split_ands; go_simp; try with_reducible rfl
                    try simp only [Act.put, List.setIfInBounds_toArray, List.set_cons_zero, List.set_cons_succ]
                    refine wpAnyH_take (i := 16) (oi := ⟨some 96, _, _, _, _, _⟩) (v := ?_) rfl (by kernel_rfl) (by kernel_rfl) (by kernel_rfl) (fun _ _ _ h => h) (Or.inl ⟨by kernel_rfl, ?_⟩) hHeld ?_
                    rotate_left
                    · intro w hSw; go_split_ands; go_simp; try with_reducible rfl
                    try simp only [Act.put, List.setIfInBounds_toArray, List.set_cons_zero, List.set_cons_succ]
                    refine wpAnyH_take (i := 17) (oi := ⟨some 97, _, _, _, _, _⟩) (v := ?_) rfl (by kernel_rfl) (by kernel_rfl) (by kernel_rfl) (fun _ _ _ h => h) (Or.inl ⟨by kernel_rfl, ?_⟩) hHeld ?_
                    rotate_left
                    · intro w hSw; go_split_ands; go_simp; try with_reducible rfl
                    try simp only [Act.put, List.setIfInBounds_toArray, List.set_cons_zero, List.set_cons_succ]
                    refine wpAnyH_take (i := 18) (oi := ⟨some 98, _, _, _, _, _⟩) (v := ?_) rfl (by kernel_rfl) (by kernel_rfl) (by kernel_rfl) (fun _ _ _ h => h) (Or.inl ⟨by kernel_rfl, ?_⟩) hHeld ?_
                    rotate_left
                    · intro w hSw; go_split_ands; go_simp; try with_reducible rfl
                    try simp only [Act.put, List.setIfInBounds_toArray, List.set_cons_zero, List.set_cons_succ]
                    refine wpAnyH_take (i := 19) (oi := ⟨some 99, _, _, _, _, _⟩) (v := ?_) rfl (by kernel_rfl) (by kernel_rfl) (by kernel_rfl) (fun _ _ _ h => h) (Or.inl ⟨by kernel_rfl, ?_⟩) hHeld ?_
                    rotate_left
                    · intro w hSw; go_split_ands; go_simp; try with_reducible rfl
                    try simp only [Act.put, List.setIfInBounds_toArray, List.set_cons_zero, List.set_cons_succ]
                    refine wpAnyH_take (i := 20) (oi := ⟨some 100, _, _, _, _, _⟩) (v := undef) rfl (by kernel_rfl) (by kernel_rfl) (by kernel_rfl) (fun _ _ _ h => h) (Or.inr ⟨by kernel_rfl, rfl⟩) hHeld ?_
                    try simp only [Act.put, List.setIfInBounds_toArray, List.set_cons_zero, List.set_cons_succ]
                    refine wpAnyH_take (i := 21) (oi := ⟨some 101, _, _, _, _, _⟩) (v := undef) rfl (by kernel_rfl) (by kernel_rfl) (by kernel_rfl) (fun _ _ _ h => h) (Or.inr ⟨by kernel_rfl, rfl⟩) hHeld ?_
                    try simp only [Act.put, List.setIfInBounds_toArray, List.set_cons_zero, List.set_cons_succ]
                    refine wpAnyH_take (i := 22) (oi := ⟨some 102, _, _, _, _, _⟩) (v := undef) rfl (by kernel_rfl) (by kernel_rfl) (by kernel_rfl) (fun _ _ _ h => h) (Or.inr ⟨by kernel_rfl, rfl⟩) hHeld ?_
                    try simp only [Act.put, List.setIfInBounds_toArray, List.set_cons_zero, List.set_cons_succ]
                    refine wpAnyH_take (i := 23) (oi := ⟨some 103, _, _, _, _, _⟩) (v := undef) rfl (by kernel_rfl) (by kernel_rfl) (by kernel_rfl) (fun _ _ _ h => h) (Or.inr ⟨by kernel_rfl, rfl⟩) hHeld ?_
                    try simp only [Act.put, List.setIfInBounds_toArray, List.set_cons_zero, List.set_cons_succ]
                    refine wpAnyH_take (i := 24) (oi := ⟨some 104, _, _, _, _, _⟩) (v := undef) rfl (by kernel_rfl) (by kernel_rfl) (by kernel_rfl) (fun _ _ _ h => h) (Or.inr ⟨by kernel_rfl, rfl⟩) hHeld ?_
                    try simp only [Act.put, List.setIfInBounds_toArray, List.set_cons_zero, List.set_cons_succ]
                    refine wpAnyH_take (i := 25) (oi := ⟨some 105, _, _, _, _, _⟩) (v := undef) rfl (by kernel_rfl) (by kernel_rfl) (by kernel_rfl) (fun _ _ _ h => h) (Or.inr ⟨by kernel_rfl, rfl⟩) hHeld ?_
                    try simp only [Act.put, List.setIfInBounds_toArray, List.set_cons_zero, List.set_cons_succ]
                    refine wpAnyH_take (i := 26) (oi := ⟨some 106, _, _, _, _, _⟩) (v := undef) rfl (by kernel_rfl) (by kernel_rfl) (by kernel_rfl) (fun _ _ _ h => h) (Or.inr ⟨by kernel_rfl, rfl⟩) hHeld ?_
                    try simp only [Act.put, List.setIfInBounds_toArray, List.set_cons_zero, List.set_cons_succ]
                    refine wpAnyH_take (i := 27) (oi := ⟨some 107, _, _, _, _, _⟩) (v := undef) rfl (by kernel_rfl) (by kernel_rfl) (by kernel_rfl) (fun _ _ _ h => h) (Or.inr ⟨by kernel_rfl, rfl⟩) hHeld ?_
                    try simp only [Act.put, List.setIfInBounds_toArray, List.set_cons_zero, List.set_cons_succ]
                    refine wpAnyH_take (i := 28) (oi := ⟨some 108, _, _, _, _, _⟩) (v := undef) rfl (by kernel_rfl) (by kernel_rfl) (by kernel_rfl) (fun _ _ _ h => h) (Or.inr ⟨by kernel_rfl, rfl⟩) hHeld ?_
                    try simp only [Act.put, List.setIfInBounds_toArray, List.set_cons_zero, List.set_cons_succ]
                    refine wpAnyH_take (i := 29) (oi := ⟨some 109, _, _, _, _, _⟩) (v := undef) rfl (by kernel_rfl) (by kernel_rfl) (by kernel_rfl) (fun _ _ _ h => h) (Or.inr ⟨by kernel_rfl, rfl⟩) hHeld ?_
                    try simp only [Act.put, List.setIfInBounds_toArray, List.set_cons_zero, List.set_cons_succ]
                    refine wpAnyH_take (i := 30) (oi := ⟨some 110, _, _, _, _, _⟩) (v := undef) rfl (by kernel_rfl) (by kernel_rfl) (by kernel_rfl) (fun _ _ _ h => h) (Or.inr ⟨by kernel_rfl, rfl⟩) hHeld ?_
                    try simp only [Act.put, List.setIfInBounds_toArray, List.set_cons_zero, List.set_cons_succ]
                    refine wpAnyH_take (i := 31) (oi := ⟨some 111, _, _, _, _, _⟩) (v := ?_) rfl (by kernel_rfl) (by kernel_rfl) (by kernel_rfl) (fun _ _ _ h => h) (Or.inl ⟨by kernel_rfl, ?_⟩) hHeld ?_
                    rotate_left
                    · intro w hSw; go_split_ands; go_simp; try with_reducible rfl
                    try simp only [Act.put, List.setIfInBounds_toArray, List.set_cons_zero, List.set_cons_succ]
                    refine wpAnyH_take (i := 32) (oi := ⟨some 112, _, _, _, _, _⟩) (v := ?_) rfl (by kernel_rfl) (by kernel_rfl) (by kernel_rfl) (fun _ _ _ h => h) (Or.inl ⟨by kernel_rfl, ?_⟩) hHeld ?_
                    rotate_left
                    · intro w hSw; go_split_ands; go_simp; try with_reducible rfl
                    try simp only [Act.put, List.setIfInBounds_toArray, List.set_cons_zero, List.set_cons_succ]
                    refine wpAnyH_done (by kernel_rfl) ?_ _
                    clear hHeld
                    all_goals
                      go_wp2_with fail
                      go_roundw
                      case rel => exact ⟨q + 1, by omega, by go_num, HB5.out⟩
                      case measure => simp [intOf]; omega
                · have i2 : decide ((q:Int) < (n:Int) + 70) = false := decide_eq_false (by omega)
                  have i2b : decide ((q:Int) < ((n + 70 : Nat):Int)) = false := decide_eq_false (by omega)
                  have i2c : decide (q < n + 70) = false := decide_eq_false h2
                  go_wp2_with fail
                  go_roundw
                  case rel => exact ⟨p + 1, by omega, by go_num, HBQ.out⟩
                  case measure => simp [intOf]; omega
            · have g1 : decide ((p:Int) < (L.length:Int)) = false := decide_eq_false (by omega)
              have g1b : decide (p < L.length) = false := decide_eq_false h1
              go_wp2_with fail
              go_ret
              exact ⟨rfl, HKW.out.trans (Kept.of_below hbr.out _)⟩

end Go.Proofs.Ytnfilklgogaheaa
