/- amnesiaplain.Given: what Entries hands out, and what Intact then answers. Conditions: lengths within Go's own limits. -/
import Derived.Test.YtmfidhlhcochoaaPlain

import Derived.Deep.DeepMust
import Derived.Deep.RegionHeld3
import Derived.Deep.RegionLaw
import Derived.Deep.AppendLies
namespace Go.Proofs.Ytmfidhlhcochoaa
open Go.RowKit
set_option linter.unusedVariables false
set_option linter.unusedSimpArgs false

def mark : Entry := ⟨-77, -88, ⟨0, 0, ⟨#[]⟩⟩⟩
/-- One list that was handed out. -/
structure Gv where
  A : Option Addr
  c : Nat
  l : List Entry
def Gv.v (g : Gv) : Value := .slice g.A (g.l.length + 1) g.c
theorem encGv : Enc (fun v : Value => [v]) 1 → True := fun _ => trivial
def slc (v : { v : Value // v.oneCell' = true }) : List Value := [v.1]
theorem encSlc : Enc slc 1 := ⟨fun _ => rfl, fun x u hu => by simp [slc] at hu; subst hu; exact x.2⟩
def Gv.x (g : Gv) : { v : Value // v.oneCell' = true } := ⟨g.v, rfl⟩

def Given (w : World) (gb base : Nat) (G : List Gv) : Prop :=
  ∃ (ve vw : Value) (W : List Gv),
    w.heap[gb]? = some (.cells #[.slice none 0 0, .slice none 0 0, .slice none 0 0, .slice none 0 0, ve, vw, .slice none 0 0, .slice none 0 0, .slice none 0 0, .slice none 0 0] 78 (0, 0)) ∧ base ≤ gb ∧
    Made slc 1 75 base w ve (G.map Gv.x) ∧ Made slc 1 75 base w vw (W.map Gv.x) ∧ (∀ b, ve.ownBlock = some b → vw.ownBlock ≠ some b) ∧
    W.map Gv.l = G.map Gv.l ∧ (∀ g ∈ G ++ W, Made Entry.cells 5 119 base w g.v (g.l ++ [mark]))

/-- The blocks that Given may turn: its struct, and its two rows. -/
def GivenS (w : World) (gb : Nat) (k : Nat) : Prop := k = gb ∨ ∃ cs, w.heap[k]? = some (.cells cs 75 (0, 0))

set_option maxRecDepth 100000 in
set_option maxHeartbeats 1600000 in
theorem givenEntries (gb base : Nat) (G : List Gv) (A : Option Addr) (c : Nat) (xs : List Entry) (w : World) (hg : Given w gb base G) (hG : G.length ≤ 100) (hb : (xs.length + 1) * 48 ≤ 140737488355328) (ha : Rd Entry.cells 5 w base A xs) :
    Calls Try.prog 32 #[.pointer (some ⟨gb, 0, none⟩), .slice A xs.length c] w fun e w' => ∃ A' c', e = .returned (.slice A' xs.length c') ∧ xs.length < c' ∧ Given w' gb base (G ++ [⟨A', c', xs⟩]) ∧ Kept (GivenS w gb) w w' ∧ Below base w w' := by
  obtain ⟨ve, vw, W, hgb, hbase, hve, hvw, hne, hWG, hall⟩ := hg
  have hgl : gb < w.heap.size := (Array.getElem?_eq_some_iff.1 hgb).1
  go_enter Try.func32, Try.ntmps32
  go_wp2_with fail
  refine (copyEntries A c _ xs rfl w (by omega) (ha.more (by omega))).mono ?_
  rintro e w1 ⟨A1, c1, rfl, hm1, hb1⟩
  have hm1' := (hm1.base' (Nat.le_trans hbase (by omega))).alloc (.cells #[.int .i64 (-77), .int .i64 (-88), .int .i64 0, .int .i64 0, .string ⟨#[]⟩] 119)
  have hr1 := rd_one encEntry w1 mark #[.int .i64 (-77), .int .i64 (-88), .int .i64 0, .int .i64 0, .string ⟨#[]⟩] rfl 119
  have hbs := hb1.size
  have hve1 : ∀ b, ve.ownBlock = some b → base ≤ b ∧ b < w.heap.size := hve.lt
  have hvw1 : ∀ b, vw.ownBlock = some b → base ≤ b ∧ b < w.heap.size := hvw.lt
  have hm1l : ∀ b, (Value.slice A1 xs.length c1).ownBlock = some b → w.heap.size ≤ b ∧ b < w1.heap.size := hm1.lt
  have hne4 : ve.ownBlock ≠ some gb := fun e => by obtain ⟨cs, h⟩ := hve.cell_block e; rw [hgb] at h; cases h
  have hne5 : vw.ownBlock ≠ some gb := fun e => by obtain ⟨cs, h⟩ := hvw.cell_block e; rw [hgb] at h; cases h
  go_wp2_with (first
    | (at_builtin
       refine wpList_app (v := .slice A1 xs.length c1) (xs := xs) (ys := [mark]) rowEntry encEntry rfl (.tmp 7) (.tmp 9) rfl base rfl hm1' rfl rfl hr1 (by simpa using hb) (by unfold maxLen; simp; omega) (by simp; omega) ?_
       intro v2 w2 hm2 hg2 hat2
       obtain ⟨A2, c2, hv2, hc2⟩ := hm2.form
       rw [List.length_append, List.length_singleton] at hv2 hc2
       subst hv2
       have hk2 : ∀ k, k < w.heap.size → w2.heap[k]? = w.heap[k]? := fun k hk => (hg2.block k (by simp; omega) (fun e => by have := (hm1l k e.symm).1; omega)).trans ((Below.heap_alloc _ _ _ (by omega)).trans (hb1.block k hk))
       have hs2 : w1.heap.size + 1 ≤ w2.heap.size := by have := hg2.size; simpa using this
       have hgb2 := (hk2 gb hgl).trans hgb
       have g4 : w2.cell? ⟨gb, 4, none⟩ = some ve := cell_of_row w2 gb 4 _ _ _ hgb2
       have g5 : w2.cell? ⟨gb, 5, none⟩ = some vw := cell_of_row w2 gb 5 _ _ _ hgb2
       have f4 : w2.frozen? ⟨gb, 4, none⟩ = false := frozen_of_row w2 gb 4 _ _ hgb2
       have f5 : w2.frozen? ⟨gb, 5, none⟩ = false := frozen_of_row w2 gb 5 _ _ hgb2
       have hve2 := (hve.same (w' := w2) (fun b hb => hk2 b (hve1 b hb).2)).alloc (.cells #[.slice A2 (xs.length + 1) c2] 75)
       have hvw2 := (hvw.same (w' := w2) (fun b hb => hk2 b (hvw1 b hb).2))
       have hr2 := rd_one encSlc w2 (Gv.x ⟨A2, c2, xs⟩) #[.slice A2 (xs.length + 1) c2] rfl 75
       have HGB2 := Lib.hid hgb2
       have HM2 := Lib.hid hm2
       have HG2 := Lib.hid hg2
       have HAT2 := Lib.hid hat2
       have HK2 := Lib.hid hk2
       clear hgb2 hm2 hg2 hat2 hk2 hr1 hm1')
    | (at_builtin
       refine wpList_app (v := ve) (xs := G.map Gv.x) (ys := [Gv.x ⟨A2, c2, xs⟩]) rowEntries encSlc rfl (.tmp 15) (.tmp 17) rfl base rfl hve2 rfl rfl hr2 (by simp; omega) (by unfold maxLen; simp; omega) (by simp; omega) ?_
       intro v3 w3 hm3 hg3 hat3
       obtain ⟨A3, c3, hv3, hc3⟩ := hm3.form
       rw [List.length_append, List.length_singleton, List.length_map] at hv3 hc3
       subst hv3
       have hk3 : ∀ k, k < w.heap.size → ve.ownBlock ≠ some k → w3.heap[k]? = w.heap[k]? := fun k hk hn => (hg3.block k (by simp; omega) (fun e => hn e.symm)).trans ((Below.heap_alloc _ _ _ (by omega)).trans (HK2.out k hk))
       have hs3 : w2.heap.size + 1 ≤ w3.heap.size := by have := hg3.size; simpa using this
       have hgb3 := (hk3 gb hgl hne4).trans hgb
       have g4 : w3.cell? ⟨gb, 4, none⟩ = some ve := cell_of_row w3 gb 4 _ _ _ hgb3
       have f4 : w3.frozen? ⟨gb, 4, none⟩ = false := frozen_of_row w3 gb 4 _ _ hgb3
       have HGB3 := Lib.hid hgb3
       have HM3 := Lib.hid hm3
       have HG3 := Lib.hid hg3
       have HAT3 := Lib.hid hat3
       have HK3 := Lib.hid hk3
       clear hgb3 hm3 hg3 hat3 hk3 hve2 hr2))
  have hgb3 := HGB3.out
  have hm2 := HM2.out
  have hm3 := HM3.out
  obtain ⟨w4, hw4⟩ : ∃ w4, w4 = w3.setCell ⟨gb, 4, none⟩ (.slice A3 (G.length + 1) c3) := ⟨_, rfl⟩
  rw [← hw4]
  have hs4 : w4.heap.size = w3.heap.size := by rw [hw4]; simp [World.setCell]
  have hk4 : ∀ k, k ≠ gb → w4.heap[k]? = w3.heap[k]? := fun k hk => by rw [hw4]; exact Below.heap_setCell _ _ _ _ hk
  have hgb4 : w4.heap[gb]? = some (.cells #[.slice none 0 0, .slice none 0 0, .slice none 0 0, .slice none 0 0, .slice A3 (G.length + 1) c3, vw, .slice none 0 0, .slice none 0 0, .slice none 0 0, .slice none 0 0] 78 (0, 0)) := by
    rw [hw4, heap_setCell_same _ _ _ _ _ _ hgb3]; rfl
  have hsA : w2.heap.size ≤ w4.heap.size := by omega
  have hA2 : ∀ b, (Value.slice A2 (xs.length + 1) c2).ownBlock = some b → base ≤ b ∧ b < w2.heap.size := hm2.lt
  have hA2e : ve.ownBlock ≠ (Value.slice A2 (xs.length + 1) c2).ownBlock ∨ ve.ownBlock = none := by
    by_cases h : ve.ownBlock = none
    · exact .inr h
    · obtain ⟨b, hb⟩ := Option.ne_none_iff_exists'.1 h
      refine .inl fun e => ?_
      obtain ⟨cs, h1⟩ := hm2.cell_block (e.symm.trans hb)
      obtain ⟨cs', h2⟩ := hve.cell_block hb
      rw [HK2.out b (hve1 b hb).2, h2] at h1
      cases h1
  have hgA2 : (Value.slice A2 (xs.length + 1) c2).ownBlock ≠ some gb := fun e => by
    obtain ⟨cs, h1⟩ := hm2.cell_block e
    rw [HGB2.out] at h1; cases h1
  have hm4 : Made Entry.cells 5 119 base w4 (.slice A2 (xs.length + 1) c2) (xs ++ [mark]) := by
    refine hm2.same fun b hb => ?_
    rw [hk4 b (fun e => hgA2 (e ▸ hb))]
    refine (HG3.out.block b (by simp; have := (hA2 b hb).2; omega) (fun e => ?_)).trans (Below.heap_alloc _ _ _ (hA2 b hb).2)
    rcases hA2e with h | h
    · exact h (e.symm.trans hb.symm)
    · rw [h] at e; cases e
  have hv4 : Made slc 1 75 base w4 vw (W.map Gv.x) := hvw.same fun b hb => (hk4 b (fun e => hne5 (e ▸ hb))).trans (HK3.out b (hvw1 b hb).2 (fun e => hne b e hb))
  have hx4 : Made slc 1 75 base w4 (.slice A3 (G.length + 1) c3) (G.map Gv.x ++ [Gv.x ⟨A2, c2, xs⟩]) := hm3.same fun b hb => hk4 b (fun e => by
    subst e
    obtain ⟨cs, h1⟩ := hm3.cell_block hb
    rw [hgb3] at h1; cases h1)
  have g5' : w4.cell? ⟨gb, 5, none⟩ = some vw := cell_of_row w4 gb 5 _ _ _ hgb4
  have f5' : w4.frozen? ⟨gb, 5, none⟩ = false := frozen_of_row w4 gb 5 _ _ hgb4
  have hr4 : Rd Entry.cells 5 w4 w4.heap.size A2 (xs ++ [mark]) := by
    have h : Made Entry.cells 5 119 base w4 (.slice A2 (xs ++ [mark]).length c2) (xs ++ [mark]) := by simpa using hm4
    exact h.rd encEntry.len
  have hsz4 : w.heap.size + 1 ≤ w4.heap.size := by omega
  have hv4l : ∀ b, vw.ownBlock = some b → base ≤ b ∧ b < w4.heap.size := hv4.lt
  have HW4 := Lib.hid hw4
  have HGB4 := Lib.hid hgb4
  have HK4 := Lib.hid hk4
  have HM4 := Lib.hid hm4
  have HX4 := Lib.hid hx4
  have HWG := Lib.hid hWG
  have HALL := Lib.hid hall
  have HNE := Lib.hid hne
  have HVE := Lib.hid hve
  have HVW := Lib.hid hvw
  have HHGB := Lib.hid hgb
  have hWl : W.length = G.length := by have := congrArg List.length hWG; simpa using this
  have HS4 := Lib.hid hs4
  clear hw4 hgb4 hk4 hm4 hx4 hWG hall hne hve hvw hgb hA2e hgA2 hgb3 hm2 hm3 g4 f4 g5 f5 hs4 hvw2
  go_region_law
    (first
      | (go_simp
         go_at_call 62
         refine (copyEntries A2 c2 _ (xs ++ [mark]) (by simp) _ (by simpa using hb) (by exact hr4)).mono ?_
         rintro e w5 ⟨A5, c5, rfl, hm5, hb5⟩
         have hb5s : w4.heap.size ≤ w5.heap.size := hb5.size
         have g5c : w5.cell? ⟨gb, 5, none⟩ = some vw := (hb5.cell (p := ⟨gb, 5, none⟩) (by show gb < w4.heap.size; omega)).trans g5'
         have g5d : (w5.alloc (.cells #[.slice A5 (xs.length + 1) c5] 75)).cell? ⟨gb, 5, none⟩ = some vw := (World.cell?_alloc_lt _ _ _ (by show gb < w5.heap.size; omega)).trans g5c
         have hv5 : Made slc 1 75 base (w5.alloc (.cells #[.slice A5 (xs.length + 1) c5] 75)) vw (W.map Gv.x) := (hv4.same (w' := w5) (fun b hb => (hb5.block b (by simp; exact (hv4l b hb).2)))).alloc _
         have hr5 := rd_one encSlc w5 (Gv.x ⟨A5, c5, xs⟩) #[.slice A5 (xs.length + 1) c5] rfl 75)
      | (refine step_app (v := vw) (xs := W.map Gv.x) (ys := [Gv.x ⟨A5, c5, xs⟩]) rowEntries encSlc rfl (.tmp 25) (.tmp 28) rfl base rfl (by exact hv5) rfl rfl (by exact hr5) (by simp; omega) (by unfold maxLen; simp; omega) (by simp; omega) ?_
         intro v6 w6 hm6 hg6 hat6
         obtain ⟨A6, c6, hv6, hc6⟩ := hm6.form
         rw [List.length_append, List.length_singleton, List.length_map, hWl] at hv6 hc6
         subst hv6
         have hk6 : ∀ k, k < w4.heap.size → vw.ownBlock ≠ some k → w6.heap[k]? = w4.heap[k]? := fun k hk hn => (hg6.block k (by simp; omega) (fun e => hn e.symm)).trans ((Below.heap_alloc _ _ _ (by omega)).trans (hb5.block k hk))
         have HK6 := Lib.hid hk6
         have hs6 : w5.heap.size + 1 ≤ w6.heap.size := by have := hg6.size; simpa using this
         have hgb6 := (hk6 gb (by omega) hne5).trans HGB4.out
         have f5w : w6.frozen? ⟨gb, 5, none⟩ = false := frozen_of_row w6 gb 5 _ _ hgb6
         have g5w : w6.cell? ⟨gb, 5, none⟩ = some vw := cell_of_row w6 gb 5 _ _ _ hgb6
         have HGB6 := Lib.hid hgb6
         have HM6 := Lib.hid hm6
         have HG6 := Lib.hid hg6
         have HAT6 := Lib.hid hat6
         have HM5 := Lib.hid hm5
         clear hgb6 hm6 hg6 hat6 hk6 hv5 hr5 hm5))
  all_goals
    go_wp2
    go_ret
    have hgb6 := HGB6.out
    have hve := HVE.out
    have hvw := HVW.out
    obtain ⟨w7, hw7⟩ : ∃ w7, w7 = w6.setCell ⟨gb, 5, none⟩ (.slice A6 (G.length + 1) c6) := ⟨_, rfl⟩
    rw [← hw7]
    have hk67 : ∀ k, k ≠ gb → w7.heap[k]? = w6.heap[k]? := fun k hk => by rw [hw7]; exact Below.heap_setCell _ _ _ _ hk
    have hgb7 : w7.heap[gb]? = some (.cells #[.slice none 0 0, .slice none 0 0, .slice none 0 0, .slice none 0 0, .slice A3 (G.length + 1) c3, .slice A6 (G.length + 1) c6, .slice none 0 0, .slice none 0 0, .slice none 0 0, .slice none 0 0] 78 (0, 0)) := by
      rw [hw7, heap_setCell_same _ _ _ _ _ _ hgb6]; rfl
    have hs7 : w7.heap.size = w6.heap.size := by rw [hw7]; simp [World.setCell]
    have hk7 : ∀ k, k < w.heap.size → k ≠ gb → ve.ownBlock ≠ some k → vw.ownBlock ≠ some k → w7.heap[k]? = w.heap[k]? := fun k hk h1 h2 h3 =>
      (hk67 k h1).trans ((HK6.out k (by omega) h3).trans ((HK4.out k h1).trans (HK3.out k hk h2)))
    have hX7 : ∀ b, (Value.slice A3 (G.length + 1) c3).ownBlock = some b → b < w4.heap.size ∧ vw.ownBlock ≠ some b := fun b hb => by
      refine ⟨(HX4.out.lt b hb).2, ?_⟩
      rcases HAT3.out with h | h
      · exact HNE.out b (h ▸ hb)
      · intro e
        have h1 := (hvw1 b e).2
        rw [hb] at h
        simp at h
        omega
    refine ⟨A2, c2, rfl, by omega, ⟨.slice A3 (G.length + 1) c3, .slice A6 (G.length + 1) c6, W ++ [⟨A5, c5, xs⟩], hgb7, hbase, ?_, ?_, ?_, ?_, ?_⟩, ⟨?_, ?_, ?_, ?_, ?_⟩, ⟨?_, ?_, ?_, ?_, ?_⟩⟩
    · rw [List.map_append]
      refine HX4.out.same fun b hb => ?_
      have hne : b ≠ gb := fun e => by
        obtain ⟨cs, h⟩ := HX4.out.cell_block hb
        rw [e, HGB4.out] at h; cases h
      exact (hk67 b hne).trans (HK6.out b (hX7 b hb).1 (hX7 b hb).2)
    · rw [List.map_append]
      refine HM6.out.same fun b hb => hk67 b fun e => by
        obtain ⟨cs, h⟩ := HM6.out.cell_block hb
        rw [e, hgb6] at h; cases h
    · intro b hb e
      rcases HAT6.out with h | h
      · exact (hX7 b hb).2 (h.symm.trans e)
      · have h1 := (hX7 b hb).1
        rw [e] at h
        simp at h
        omega
    · simp [HWG.out]
    · intro g hg
      have hold : ∀ g ∈ G ++ W, Made Entry.cells 5 119 base w7 g.v (g.l ++ [mark]) := fun g hg => by
        have h := HALL.out g hg
        refine h.same fun b hb => hk7 b (h.lt b hb).2 (fun e => ?_) (fun e => ?_) (fun e => ?_)
        · obtain ⟨cs, h1⟩ := h.cell_block hb; rw [e, HHGB.out] at h1; cases h1
        · obtain ⟨cs, h1⟩ := h.cell_block hb; obtain ⟨cs', h2⟩ := hve.cell_block e; rw [h2] at h1; cases h1
        · obtain ⟨cs, h1⟩ := h.cell_block hb; obtain ⟨cs', h2⟩ := hvw.cell_block e; rw [h2] at h1; cases h1
      simp only [List.mem_append, List.mem_singleton] at hg
      rcases hg with (hg | rfl) | (hg | rfl)
      · exact hold g (by simp [hg])
      · refine HM4.out.same fun b hb => ?_
        have hne : b ≠ gb := fun e => by
          obtain ⟨cs, h⟩ := HM4.out.cell_block hb
          rw [e, HGB4.out] at h; cases h
        refine (hk67 b hne).trans (HK6.out b (HM4.out.lt b hb).2 fun e => ?_)
        obtain ⟨cs, h1⟩ := HM4.out.cell_block hb
        obtain ⟨cs', h2⟩ := hv4.cell_block e
        rw [h2] at h1; cases h1
      · exact hold g (by simp [hg])
      · refine (HM5.out.base' (show base ≤ w4.heap.size by omega)).same fun b hb => ?_
        have hl : w4.heap.size ≤ b ∧ b < w5.heap.size := HM5.out.lt b hb
        refine (hk67 b (by omega)).trans ((HG6.out.block b (by simp; omega) (fun e => ?_)).trans (Below.heap_alloc _ _ _ hl.2))
        have := (hv4l b e.symm).2
        omega
    · rw [hw7]; exact HG6.out.os.trans (hb5.os.trans (show w4.os = w.os by rw [HW4.out]; exact HG3.out.os.trans (HG2.out.os.trans hb1.os)))
    · rw [hw7]; exact HG6.out.tape.trans (hb5.tape.trans (show w4.tape = w.tape by rw [HW4.out]; exact HG3.out.tape.trans (HG2.out.tape.trans hb1.tape)))
    · rw [hw7]; exact HG6.out.output.trans (hb5.output.trans (show w4.output = w.output by rw [HW4.out]; exact HG3.out.output.trans (HG2.out.output.trans hb1.output)))
    · omega
    · intro k hk hn
      refine hk7 k hk (fun e => hn (.inl e)) (fun e => ?_) (fun e => ?_)
      · obtain ⟨cs, h⟩ := hve.cell_block e; exact hn (.inr ⟨cs, h⟩)
      · obtain ⟨cs, h⟩ := hvw.cell_block e; exact hn (.inr ⟨cs, h⟩)
    · rw [hw7]; exact HG6.out.os.trans (hb5.os.trans (show w4.os = w.os by rw [HW4.out]; exact HG3.out.os.trans (HG2.out.os.trans hb1.os)))
    · rw [hw7]; exact HG6.out.tape.trans (hb5.tape.trans (show w4.tape = w.tape by rw [HW4.out]; exact HG3.out.tape.trans (HG2.out.tape.trans hb1.tape)))
    · rw [hw7]; exact HG6.out.output.trans (hb5.output.trans (show w4.output = w.output by rw [HW4.out]; exact HG3.out.output.trans (HG2.out.output.trans hb1.output)))
    · omega
    · intro k hk
      exact hk7 k (by omega) (by omega) (fun e => by have := (hve1 k e).1; omega) (fun e => by have := (hvw1 k e).1; omega)
end Go.Proofs.Ytmfidhlhcochoaa
