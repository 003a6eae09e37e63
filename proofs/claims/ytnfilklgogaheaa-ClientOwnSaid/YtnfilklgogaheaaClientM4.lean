/- What Ask answers: from the table, and from the list itself; and the end of the two functions. Conditions: none.
client.Ask: the answer from the table. Conditions: sizes within Go's own limits.
The reference's Ask. Conditions: sizes within Go's own limits.
ClientAsks answers true, whatever the arguments. Conditions: sizes within the form's own reach. -/
import Derived.Test.YtnfilklgogaheaaClientM3
import Derived.Test.YtnfilklgogaheaaDoRef
namespace Go.Proofs.Ytnfilklgogaheaa
open Go.RowKit
set_option linter.unusedVariables false
set_option linter.unusedSimpArgs false

def ansR (r : Row) (n : Int) : Int × Res := if r.number < n then (1, zeroR) else if n < r.number then (4, zeroR) else if r.done = true then (3, r.res) else (2, zeroR)
def askR : List Row → Int → Int → Int × Res
  | [], _, _ => (1, zeroR)
  | r :: rs, c, n => if r.client ≠ c ∨ r.number < n then askR rs c n else ansR r n
theorem askR_none {rs : List Row} {c n : Int} (h : ∀ r ∈ rs, r.client ≠ c) : askR rs c n = (1, zeroR) := by
  induction rs with
  | nil => rfl
  | cons r rs ih =>
    rw [askR, if_pos (.inl (h r (by simp)))]
    exact ih fun x hx => h x (by simp [hx])
theorem askR_some {rs : List Row} {c n : Int} (hs : rs.Pairwise (fun a b => a.client < b.client)) {r : Row} (hr : r ∈ rs) (hc : r.client = c) : askR rs c n = ansR r n := by
  induction rs with
  | nil => cases hr
  | cons x rs ih =>
    obtain ⟨h1, h2⟩ := List.pairwise_cons.1 hs
    rcases List.mem_cons.1 hr with rfl | hm
    · rw [askR]
      by_cases h : r.number < n
      · rw [if_pos (.inr h), askR_none (fun y hy => by have := h1 y hy; omega)]
        unfold ansR; rw [if_pos h]
      · rw [if_neg (fun q => by rcases q with q | q; exact q hc; exact h q)]
    · have := h1 r hm
      rw [askR, if_pos (.inl (by omega))]
      exact ih h2 hm
/-- Ask's answer at a good list: the client's last entry. -/
def askE (xs : List Entry) (m : Nat) (c n : Int) : Int × Res := if h : lastP xs c = 0 then (1, zeroR) else ansR (rowOf xs m (lastP xs c - 1) (by have := lastP_le xs c; omega)) n
theorem ask_is {xs : List Entry} {m : Nat} (hg : GoodE xs) (hm : m ≤ xs.length) (c n : Int) : askR (tableE xs m) c n = askE xs m c n := by
  have hl := lastR_row hm c
  unfold askE
  by_cases h : lastP xs c = 0
  · rw [dif_pos h] at hl ⊢
    refine askR_none fun r hr e => ?_
    unfold tableE at hr
    obtain ⟨k, _, hk⟩ := List.mem_filterMap.1 hr
    have := (lastR_client hk).1
    rw [← this, e, hl] at hk
    cases hk
  · rw [dif_neg h] at hl ⊢
    exact askR_some (tableE_sorted xs m) ((mem_tableE hg hm _).2 ⟨c, hl⟩) (lastR_client hl).1

theorem results_tmp_cell_tmp {P : Program} {fn : Func} {p u v : Tmp} {ty : TypeId} (h : fn.results = #[.tmp u, .cell p ty, .tmp v]) (tmps : Array Value) (w : World) (g : Nat) (t : TypeId) (cs : Array Value) (fr : Nat × Nat) (d : TypeDesc)
    (hp : tmps.getD p undef = .pointer (some ⟨g, 0, none⟩)) (hg : w.heap[g]? = some (.cells cs t fr))
    (hu : P.underlying ty = some d) (hd : (match d with | .struct _ | .array _ _ => true | _ => false) = true) (hi : (P.info? ty).map (·.size) = some cs.size) :
    (results fn tmps).run P w = .ok (.tuple #[tmps.getD u undef, .agg cs, tmps.getD v undef]) w := by
  have hp' : tmps[p]?.getD undef = .pointer (some ⟨g, 0, none⟩) := by simpa using hp
  simp [results, h, hp', asAddr, run_loadVar_row w g t ty cs fr d hg hu hd hi]
def AskPost (w : World) (v : Int) (r : Res) (q : Int) (e : Ending) (w' : World) : Prop := e = .returned (.tuple #[.int .i64 v, .agg #[.int .i64 r.code, .int .i64 r.slot, .string r.value], .int .i64 q]) ∧ Below w.heap.size w w'
theorem ask_end {fn : Func} {p u v : Tmp} (hres : fn.results = #[.tmp u, .cell p 58, .tmp v]) {w0 : World} {a : Act} {w : World} {B : Nat} {r : Res} {T : TypeId} {x q : Int} (hv : a.tmps.getD u undef = .int .i64 x) (hq : a.tmps.getD v undef = .int .i64 q) (hp : a.tmps.getD p undef = .pointer (some ⟨B, 0, none⟩)) (hd : a.defers = [])
    (h : w.heap[B]? = some (.cells #[.int .i64 r.code, .int .i64 r.slot, .string r.value] T (0, 0))) (hR : Below w0.heap.size w0 w) : bodyPost Try.prog fn (AskPost w0 x r q) .ret a w := by
  refine bodyPost_ret (results_tmp_cell_tmp hres a.tmps w B T _ (0, 0) _ hp h Try.underlying58 rfl sizeResR) hd ⟨?_, hR⟩
  rw [hv, hq]
/-- The result's block, as it lies behind a call. -/
structure Res0 (w : World) (B : Nat) : Prop where
  row : w.heap[B]? = some (.cells #[.int .i64 0, .int .i64 0, .string ⟨#[]⟩] 58 (0, 0))
theorem Res0.facts {w : World} {B : Nat} (h : Res0 w B) : w.cell? ⟨B, 0, none⟩ = some (.int .i64 0) ∧ w.cell? ⟨B, 1, none⟩ = some (.int .i64 0) ∧ w.cell? ⟨B, 2, none⟩ = some (.string ⟨#[]⟩) ∧ w.frozen? ⟨B, 0, none⟩ = false ∧ w.frozen? ⟨B, 1, none⟩ = false ∧ w.frozen? ⟨B, 2, none⟩ = false :=
  ⟨cell_of_row w B 0 _ _ _ h.row, cell_of_row w B 1 _ _ _ h.row, cell_of_row w B 2 _ _ _ h.row, frozen_of_row w B 0 _ _ h.row, frozen_of_row w B 1 _ _ h.row, frozen_of_row w B 2 _ _ h.row⟩
theorem Res0.below {w w' : World} {B : Nat} (h : Res0 w B) (hb : Below w.heap.size w w') : Res0 w' B := ⟨(hb.block B (Array.getElem?_eq_some_iff.1 h.row).1).trans h.row⟩
end Go.Proofs.Ytnfilklgogaheaa

namespace Go.Proofs.Ytnfilklgogaheaa
open Go.RowKit
set_option linter.unusedVariables false
set_option linter.unusedSimpArgs false


set_option maxRecDepth 100000 in
set_option maxHeartbeats 1000000 in
theorem ask_err (A : Option Addr) (cc n : Nat) (xs : List Entry) (m c k : Int) (hn : n = xs.length) (hc : n ≤ cc) (w : World) (hl : xs.length ≤ 9223372036854775806) (hv : ∀ x ∈ xs, x.op.value.size ≤ 9223372036854775807) (ha : Rd Entry.cells 5 w w.heap.size A xs) (he : withinE xs m ≠ 0) :
    Calls Try.prog 43 #[.slice A n cc, .int .i64 m, .int .i64 c, .int .i64 k] w (AskPost w 0 ⟨0, 0, ⟨#[]⟩⟩ (withinE xs m)) := by
  (
    subst hn
    obtain ⟨W0, hW0⟩ : ∃ W0, W0 = w.alloc (.cells #[.int .i64 0, .int .i64 0, .string ⟨#[]⟩] 58) := ⟨_, rfl⟩
    have hb0 : Below w.heap.size w W0 := by rw [hW0]; exact (Below.refl _ _).alloc (Nat.le_refl _) _
    have hr0 : Res0 W0 w.heap.size := ⟨by rw [hW0]; exact heap_alloc_new _ _⟩
    have HT := Lib.hid (table_all A cc xs.length xs m rfl hc W0 hl hv ((ha.below hb0).more hb0.size))
    have HW0 := Lib.hid hW0
    have HB0 := Lib.hid hb0
    have HR0 := Lib.hid hr0
    clear ha hv hb0 hr0 hW0
    go_enter Try.func43, Try.ntmps43
    go_wp2_with fail
    rw [← HW0.out]
    clear HW0)
  generalize withinE xs m = q at *
  generalize tabRs xs m = rs at *
  have h1 : (q != 0) = true := by simpa using he
  have h2 : (q == 0) = false := by simpa using he
  clear he
  with_reducible refine HT.out.mono ?_
  rintro e w1 ⟨A2, c2, rfl, hm2, hb2⟩
  obtain ⟨d0, d1, d2, f0, f1, f2⟩ := (HR0.out.below hb2).facts
  have HR1 := Lib.hid (HR0.out.below hb2)
  have HB1 := Lib.hid (HB0.out.trans (hb2.mono HB0.out.size))
  clear hm2 hb2 HT HR0 HB0
  dsimp only
  go_wp2
  try simp only [Exit.inBlock, Exit.then]
  exact ask_end (r := ⟨0, 0, ⟨#[]⟩⟩) Try.results43 rfl rfl rfl rfl (row3R HR1.out.row _ _ _) (below3R HB1.out (Nat.le_refl _) _ _ _)

set_option maxRecDepth 100000 in
set_option maxHeartbeats 1000000 in
theorem ask_bad (A : Option Addr) (cc n : Nat) (xs : List Entry) (m c k : Int) (hn : n = xs.length) (hc : n ≤ cc) (w : World) (hl : xs.length ≤ 9223372036854775806) (hv : ∀ x ∈ xs, x.op.value.size ≤ 9223372036854775807) (ha : Rd Entry.cells 5 w w.heap.size A xs) (he : withinE xs m = 0) (hk : entryE c k ≠ 0) :
    Calls Try.prog 43 #[.slice A n cc, .int .i64 m, .int .i64 c, .int .i64 k] w (AskPost w 0 ⟨0, 0, ⟨#[]⟩⟩ (entryE c k)) := by
  (
    subst hn
    obtain ⟨W0, hW0⟩ : ∃ W0, W0 = w.alloc (.cells #[.int .i64 0, .int .i64 0, .string ⟨#[]⟩] 58) := ⟨_, rfl⟩
    have hb0 : Below w.heap.size w W0 := by rw [hW0]; exact (Below.refl _ _).alloc (Nat.le_refl _) _
    have hr0 : Res0 W0 w.heap.size := ⟨by rw [hW0]; exact heap_alloc_new _ _⟩
    have HT := Lib.hid (table_all A cc xs.length xs m rfl hc W0 hl hv ((ha.below hb0).more hb0.size))
    have HW0 := Lib.hid hW0
    have HB0 := Lib.hid hb0
    have HR0 := Lib.hid hr0
    clear ha hv hb0 hr0 hW0
    go_enter Try.func43, Try.ntmps43
    go_wp2_with fail
    rw [← HW0.out]
    clear HW0)
  rw [he] at HT
  have HE := Lib.hid (entry_client c k)
  generalize tabRs xs m = rs at *
  generalize entryE c k = q at *
  have h1 : (q != 0) = true := by simpa using hk
  clear he hk
  with_reducible refine HT.out.mono ?_
  rintro e w1 ⟨A2, c2, rfl, hm2, hb2⟩
  obtain ⟨d0, d1, d2, f0, f1, f2⟩ := (HR0.out.below hb2).facts
  have HR1 := Lib.hid (HR0.out.below hb2)
  have HB1 := Lib.hid (HB0.out.trans (hb2.mono HB0.out.size))
  clear hm2 hb2 HT HR0 HB0
  dsimp only
  go_wp2_with fail
  with_reducible refine (HE.out _).mono ?_
  rintro e w3 ⟨rfl, hw3⟩
  rw [hw3]
  clear hw3 w3
  dsimp only
  go_wp2
  try simp only [Exit.inBlock, Exit.then]
  exact ask_end (r := ⟨0, 0, ⟨#[]⟩⟩) Try.results43 rfl rfl rfl rfl (row3R HR1.out.row _ _ _) (below3R HB1.out (Nat.le_refl _) _ _ _)

set_option maxRecDepth 100000 in
set_option maxHeartbeats 2000000 in
theorem ask_ok (A : Option Addr) (cc n : Nat) (xs : List Entry) (m c k : Int) (hn : n = xs.length) (hc : n ≤ cc) (w : World) (hl : xs.length ≤ 9223372036854775806) (hv : ∀ x ∈ xs, x.op.value.size ≤ 9223372036854775807) (ha : Rd Entry.cells 5 w w.heap.size A xs) (he : withinE xs m = 0) (hk : entryE c k = 0) :
    Calls Try.prog 43 #[.slice A n cc, .int .i64 m, .int .i64 c, .int .i64 k] w (AskPost w (askR (tabRs xs m) c k).1 (askR (tabRs xs m) c k).2 0) := by
  obtain ⟨ans, hans⟩ : ∃ a, a = askR (tabRs xs m) c k := ⟨_, rfl⟩
  rw [← hans]
  (
    subst hn
    obtain ⟨W0, hW0⟩ : ∃ W0, W0 = w.alloc (.cells #[.int .i64 0, .int .i64 0, .string ⟨#[]⟩] 58) := ⟨_, rfl⟩
    have hb0 : Below w.heap.size w W0 := by rw [hW0]; exact (Below.refl _ _).alloc (Nat.le_refl _) _
    have hr0 : Res0 W0 w.heap.size := ⟨by rw [hW0]; exact heap_alloc_new _ _⟩
    have HT := Lib.hid (table_all A cc xs.length xs m rfl hc W0 hl hv ((ha.below hb0).more hb0.size))
    have HW0 := Lib.hid hW0
    have HB0 := Lib.hid hb0
    have HR0 := Lib.hid hr0
    clear ha hv hb0 hr0 hW0
    go_enter Try.func43, Try.ntmps43
    go_wp2_with fail
    rw [← HW0.out]
    clear HW0)
  rw [he] at HT
  have HE : Hid (∀ W, Calls Try.prog 81 #[.int .i64 c, .int .i64 k] W fun e w' => e = .returned (.int .i64 0) ∧ w' = W) := fun W => by have h := entry_client c k W; rw [hk] at h; exact h
  have hrl := tabRs_length xs m
  generalize tabRs xs m = rs at *
  have HANS : Hid (askR rs c k = ans) := hans.symm
  clear he hk hans
  with_reducible refine HT.out.mono ?_
  rintro e w1 ⟨A2, c2, rfl, hm2, hb2⟩
  have HR1 := Lib.hid (HR0.out.below hb2)
  have HB1 := Lib.hid (HB0.out.trans (hb2.mono HB0.out.size))
  have HD := Lib.hid (hm2.rd' encRow.len)
  have HLT : Hid (w.heap.size < w1.heap.size) := (Array.getElem?_eq_some_iff.1 (HR0.out.below hb2).row).1
  clear hm2 hb2 HT HR0 HB0
  dsimp only
  go_wp2_with fail
  with_reducible refine (HE.out _).mono ?_
  rintro e w3 ⟨rfl, hw3⟩
  rw [hw3]
  clear hw3 w3 HE
  dsimp only
  go_wp2_with fail
  go_loopw [14, 32] (fun _ i wr => ∃ j : Nat, j ≤ rs.length ∧ i = .int .i64 j ∧ Hid (askR (rs.drop j) c k = ans) ∧ Hid (Below w1.heap.size w1 wr)) (fun _ i _ => rs.length - (intOf i).toNat)
  case atStart => exact ⟨0, by omega, rfl, HANS.out, Below.refl _ _⟩
  case round =>
    obtain ⟨j, hj, rfl, has, hbr⟩ := hrel
    by_cases h1 : j < rs.length
    · obtain ⟨ad, hAd, hq0, hca⟩ := ((HD.out.below hbr.out).more hbr.out.size).at_ h1
      subst hAd
      have g1 : (j:Int) < (rs.length : Int) := by omega
      obtain ⟨c0, cc1, c3, c4, c5, c6, c7⟩ := hca.row
      have hst := Lib.hid (List.drop_eq_getElem_cons h1)
      clear hca hq0
      generalize rs[j] = r at *
      have HB2 : Hid (Below w.heap.size w (wr.alloc (.cells #[.int .i64 r.client, .int .i64 r.number, .int .i64 r.place, .bool r.done, .int .i64 r.res.code, .int .i64 r.res.slot, .string r.res.value] 90))) := (HB1.out.trans (hbr.out.mono HB1.out.size)).alloc (HB1.out.trans (hbr.out.mono HB1.out.size)).size _
      have HBR : Hid (Below w1.heap.size w1 (wr.alloc (.cells #[.int .i64 r.client, .int .i64 r.number, .int .i64 r.place, .bool r.done, .int .i64 r.res.code, .int .i64 r.res.slot, .string r.res.value] 90))) := hbr.out.alloc hbr.out.size _
      have HR2 := Lib.hid (HR1.out.below HBR.out)
      obtain ⟨d0, d1, d2, f0, f1, f2⟩ := HR2.out.facts
      by_cases q1 : r.client = c
      · have hne : (r.client != c) = false := by simp [q1]
        by_cases q2 : r.number < k
        · have g2 : decide (r.number < k) = true := decide_eq_true q2
          have hne2 : Hid (askR (rs.drop (j + 1)) c k = ans) := by show _ = _; rw [← has.out, hst.out, askR, if_pos (.inr q2)]
          clear d0 d1 d2 f0 f1 f2 q1 q2 has
          go_wp2_with fail
          go_roundw
          case rel => first
            | exact ⟨j + 1, by omega, by go_num, hne2, HBR.out⟩
            | exact ⟨_, .int .i64 ((j : Int) + 1), ⟨j + 1, by omega, by go_num, hne2, HBR.out⟩, rfl, rfl⟩
          case measure => simp [intOf]; omega
        · have g2 : decide (r.number < k) = false := decide_eq_false q2
          have hA : Hid (ans = ansR r k) := by show _ = _; rw [← has.out, hst.out, askR, if_neg (fun q => by rcases q with q | q; exact q q1; exact q2 q)]
          clear has hst
          by_cases q3 : k < r.number
          · have g3 : decide (k < r.number) = true := decide_eq_true q3
            obtain rfl : ans = (4, zeroR) := by rw [hA.out]; unfold ansR; rw [if_neg q2, if_pos q3]
            clear hA q1 q2 q3
            go_wp2
            try simp only [Exit.inBlock, Exit.then]
            exact ask_end (r := zeroR) Try.results43 rfl rfl rfl rfl (row3R HR2.out.row _ _ _) (below3R HB2.out (Nat.le_refl _) _ _ _)
          · have g3 : decide (k < r.number) = false := decide_eq_false q3
            by_cases q4 : r.done = true
            · obtain rfl : ans = (3, r.res) := by rw [hA.out]; unfold ansR; rw [if_neg q2, if_neg q3, if_pos q4]
              rw [q4] at HR2 HB2 d0 d1 d2 f0 f1 f2
              clear hA q1 q2 q3
              go_wp2_with fail
              go_region
              all_goals
                go_wp2_with fail
                try simp only [Exit.inBlock, Exit.then]
                first
                | exact ask_end (r := r.res) Try.results43 rfl rfl rfl rfl (row3R HR2.out.row _ _ _) (below3R HB2.out (Nat.le_refl _) _ _ _)
                | exact ask_end (r := r.res) Try.results43 rfl rfl rfl rfl (row3R HR2.out.row _ _ _) ((below3R HB2.out (Nat.le_refl _) _ _ _).drew)
            · have q4' : r.done = false := by simpa using q4
              obtain rfl : ans = (2, zeroR) := by rw [hA.out]; unfold ansR; rw [if_neg q2, if_neg q3, if_neg q4]
              rw [q4'] at HR2 HB2 d0 d1 d2 f0 f1 f2
              clear hA q1 q2 q3 q4
              go_wp2
              try simp only [Exit.inBlock, Exit.then]
              exact ask_end (r := zeroR) Try.results43 rfl rfl rfl rfl (row3R HR2.out.row _ _ _) (below3R HB2.out (Nat.le_refl _) _ _ _)
      · have hne : (r.client != c) = true := by simpa using q1
        have hne2 : Hid (askR (rs.drop (j + 1)) c k = ans) := by show _ = _; rw [← has.out, hst.out, askR, if_pos (.inl q1)]
        clear d0 d1 d2 f0 f1 f2 q1 has
        go_wp2_with fail
        go_roundw
        case rel => first
          | exact ⟨j + 1, by omega, by go_num, hne2, HBR.out⟩
          | exact ⟨_, .int .i64 ((j : Int) + 1), ⟨j + 1, by omega, by go_num, hne2, HBR.out⟩, rfl, rfl⟩
        case measure => simp [intOf]; omega
    · have g1 : decide ((j:Int) < (rs.length : Int)) = false := by simp; omega
      have g2 : decide (j < rs.length) = false := by simp; omega
      obtain rfl : ans = (1, zeroR) := by rw [← has.out, List.drop_eq_nil_of_le (by omega)]; rfl
      have HR2 := Lib.hid (HR1.out.below hbr.out)
      have HB2 := Lib.hid (HB1.out.trans (hbr.out.mono HB1.out.size))
      obtain ⟨d0, d1, d2, f0, f1, f2⟩ := HR2.out.facts
      clear has hbr h1
      go_wp2
      try simp only [Exit.inBlock, Exit.then]
      exact ask_end (r := zeroR) Try.results43 rfl rfl rfl rfl (row3R HR2.out.row _ _ _) (below3R HB2.out (Nat.le_refl _) _ _ _)
end Go.Proofs.Ytnfilklgogaheaa

namespace Go.Proofs.Ytnfilklgogaheaa
open Go.RowKit
set_option linter.unusedVariables false
set_option linter.unusedSimpArgs false

theorem askE_zero {xs : List Entry} {m : Nat} {c n : Int} (h : lastP xs c = 0) : askE xs m c n = (1, zeroR) := by unfold askE; rw [dif_pos h]
theorem askE_some {xs : List Entry} {m p : Nat} {c n : Int} (h : lastP xs c = p + 1) (hp : p < xs.length) : askE xs m c n = ansR (rowOf xs m p hp) n := by
  unfold askE
  rw [dif_neg (by omega)]
  congr 2
  omega


set_option maxRecDepth 100000 in
set_option maxHeartbeats 1000000 in
theorem askRef_err (A : Option Addr) (cc n : Nat) (xs : List Entry) (m c k : Int) (hn : n = xs.length) (w : World) (hl : (xs.length + 1) * 48 ≤ 140737488355328) (hv : ∀ x ∈ xs, x.op.value.size ≤ 9223372036854775807) (ha : Rd Entry.cells 5 w w.heap.size A xs) (he : withinE xs m ≠ 0) :
    Calls Try.prog 44 #[.slice A n cc, .int .i64 m, .int .i64 c, .int .i64 k] w (AskPost w 0 ⟨0, 0, ⟨#[]⟩⟩ (withinE xs m)) := by
  (
    subst hn
    obtain ⟨W0, hW0⟩ : ∃ W0, W0 = w.alloc (.cells #[.int .i64 0, .int .i64 0, .string ⟨#[]⟩] 58) := ⟨_, rfl⟩
    have hb0 : Below w.heap.size w W0 := by rw [hW0]; exact (Below.refl _ _).alloc (Nat.le_refl _) _
    have hr0 : Res0 W0 w.heap.size := ⟨by rw [hW0]; exact heap_alloc_new _ _⟩
    have HT := Lib.hid (within_ref5 A cc xs.length xs m rfl W0 (by omega) hv ((ha.below hb0).more hb0.size))
    have HW0 := Lib.hid hW0
    have HB0 := Lib.hid hb0
    have HR0 := Lib.hid hr0
    have HA := Lib.hid ha
    have HV := Lib.hid hv
    clear ha hv hb0 hr0 hW0
    go_enter Try.func44, Try.ntmps44
    go_wp2_with fail
    rw [← HW0.out]
    clear HW0)
  generalize withinE xs m = q at *
  have h1 : (q != 0) = true := by simpa using he
  clear he HA HV hl
  with_reducible refine HT.out.mono ?_
  rintro e w1 ⟨rfl, hb2⟩
  obtain ⟨d0, d1, d2, f0, f1, f2⟩ := (HR0.out.below hb2).facts
  have HR1 := Lib.hid (HR0.out.below hb2)
  have HB1 := Lib.hid (HB0.out.trans (hb2.mono HB0.out.size))
  clear hb2 HT HR0 HB0
  dsimp only
  go_wp2
  try simp only [Exit.inBlock, Exit.then]
  exact ask_end (r := ⟨0, 0, ⟨#[]⟩⟩) Try.results44 rfl rfl rfl rfl (row3R HR1.out.row _ _ _) (below3R HB1.out (Nat.le_refl _) _ _ _)

set_option maxRecDepth 100000 in
set_option maxHeartbeats 1000000 in
theorem askRef_bad (A : Option Addr) (cc n : Nat) (xs : List Entry) (m c k : Int) (hn : n = xs.length) (w : World) (hl : (xs.length + 1) * 48 ≤ 140737488355328) (hv : ∀ x ∈ xs, x.op.value.size ≤ 9223372036854775807) (ha : Rd Entry.cells 5 w w.heap.size A xs) (he : withinE xs m = 0) (hk : entryE c k ≠ 0) :
    Calls Try.prog 44 #[.slice A n cc, .int .i64 m, .int .i64 c, .int .i64 k] w (AskPost w 0 ⟨0, 0, ⟨#[]⟩⟩ (entryE c k)) := by
  obtain ⟨q, hq⟩ : ∃ q, q = entryE c k := ⟨_, rfl⟩
  rw [← hq]
  (
    subst hn
    obtain ⟨W0, hW0⟩ : ∃ W0, W0 = w.alloc (.cells #[.int .i64 0, .int .i64 0, .string ⟨#[]⟩] 58) := ⟨_, rfl⟩
    have hb0 : Below w.heap.size w W0 := by rw [hW0]; exact (Below.refl _ _).alloc (Nat.le_refl _) _
    have hr0 : Res0 W0 w.heap.size := ⟨by rw [hW0]; exact heap_alloc_new _ _⟩
    have HT := Lib.hid (within_ref5 A cc xs.length xs m rfl W0 (by omega) hv ((ha.below hb0).more hb0.size))
    have HW0 := Lib.hid hW0
    have HB0 := Lib.hid hb0
    have HR0 := Lib.hid hr0
    have HA := Lib.hid ha
    have HV := Lib.hid hv
    clear ha hv hb0 hr0 hW0
    go_enter Try.func44, Try.ntmps44
    go_wp2_with fail
    rw [← HW0.out]
    clear HW0)
  rw [he] at HT
  have HQ : Hid (q = entryE c k) := hq
  clear he HA HV hl hq
  with_reducible refine HT.out.mono ?_
  rintro e w1 ⟨rfl, hb2⟩
  obtain ⟨d0, d1, d2, f0, f1, f2⟩ := (HR0.out.below hb2).facts
  have HR1 := Lib.hid (HR0.out.below hb2)
  have HB1 := Lib.hid (HB0.out.trans (hb2.mono HB0.out.size))
  clear hb2 HT HR0 HB0
  dsimp only
  by_cases h1 : c < 0
  · obtain rfl : q = 62 := by rw [HQ.out]; unfold entryE; rw [if_pos (.inl h1)]
    clear HQ hk
    go_wp2
    try simp only [Exit.inBlock, Exit.then]
    exact ask_end (r := ⟨0, 0, ⟨#[]⟩⟩) Try.results44 rfl rfl rfl rfl (row3R HR1.out.row _ _ _) (below3R HB1.out (Nat.le_refl _) _ _ _)
  · have g1 : decide (c < 0) = false := decide_eq_false h1
    by_cases h2 : 16 ≤ c
    · have g2 : decide (16 ≤ c) = true := decide_eq_true h2
      obtain rfl : q = 62 := by rw [HQ.out]; unfold entryE; rw [if_pos (.inr h2)]
      clear HQ hk h1 h2
      go_wp2
      try simp only [Exit.inBlock, Exit.then]
      exact ask_end (r := ⟨0, 0, ⟨#[]⟩⟩) Try.results44 rfl rfl rfl rfl (row3R HR1.out.row _ _ _) (below3R HB1.out (Nat.le_refl _) _ _ _)
    · have g2 : decide (16 ≤ c) = false := decide_eq_false h2
      have h3 : k < 1 := by
        unfold entryE at hk
        rw [if_neg (by omega)] at hk
        by_cases h : k < 1
        · exact h
        · rw [if_neg h] at hk; exact absurd rfl hk
      have g3 : decide (k < 1) = true := decide_eq_true h3
      obtain rfl : q = 63 := by rw [HQ.out]; unfold entryE; rw [if_neg (by omega), if_pos h3]
      clear HQ hk h1 h2 h3
      go_wp2
      try simp only [Exit.inBlock, Exit.then]
      exact ask_end (r := ⟨0, 0, ⟨#[]⟩⟩) Try.results44 rfl rfl rfl rfl (row3R HR1.out.row _ _ _) (below3R HB1.out (Nat.le_refl _) _ _ _)

set_option maxRecDepth 100000 in
set_option maxHeartbeats 2000000 in
theorem askRef_ok (A : Option Addr) (cc n : Nat) (xs : List Entry) (m : Nat) (c k : Int) (hn : n = xs.length) (w : World) (hl : (xs.length + 1) * 48 ≤ 140737488355328) (hv : ∀ x ∈ xs, x.op.value.size ≤ 9223372036854775807) (ha : Rd Entry.cells 5 w w.heap.size A xs) (he : withinE xs m = 0) (hk : entryE c k = 0) :
    Calls Try.prog 44 #[.slice A n cc, .int .i64 m, .int .i64 c, .int .i64 k] w (AskPost w (askE xs m c k).1 (askE xs m c k).2 0) := by
  obtain ⟨ans, hans⟩ : ∃ a, a = askE xs m c k := ⟨_, rfl⟩
  rw [← hans]
  (
    subst hn
    obtain ⟨W0, hW0⟩ : ∃ W0, W0 = w.alloc (.cells #[.int .i64 0, .int .i64 0, .string ⟨#[]⟩] 58) := ⟨_, rfl⟩
    have hb0 : Below w.heap.size w W0 := by rw [hW0]; exact (Below.refl _ _).alloc (Nat.le_refl _) _
    have hr0 : Res0 W0 w.heap.size := ⟨by rw [hW0]; exact heap_alloc_new _ _⟩
    have HT := Lib.hid (within_ref5 A cc xs.length xs m rfl W0 (by omega) hv ((ha.below hb0).more hb0.size))
    have HW0 := Lib.hid hW0
    have HB0 := Lib.hid hb0
    have HR0 := Lib.hid hr0
    have HA := Lib.hid ha
    have HV := Lib.hid hv
    clear ha hv hb0 hr0 hW0
    go_enter Try.func44, Try.ntmps44
    go_wp2_with fail
    rw [← HW0.out]
    clear HW0)
  rw [he] at HT
  clear he
  obtain ⟨hx1, hx2, hx3⟩ : 0 ≤ c ∧ c < 16 ∧ 1 ≤ k := by
    unfold entryE at hk
    by_cases h : c < 0 ∨ 16 ≤ c
    · rw [if_pos h] at hk; omega
    · rw [if_neg h] at hk
      by_cases h2 : k < 1
      · rw [if_pos h2] at hk; omega
      · omega
  have g1 : decide (c < 0) = false := decide_eq_false (by omega)
  have g2 : decide (16 ≤ c) = false := decide_eq_false (by omega)
  have g3 : decide (k < 1) = false := decide_eq_false (by omega)
  clear hk hx1 hx2 hx3
  have HANS : Hid (ans = askE xs m c k) := hans
  clear hans
  with_reducible refine HT.out.mono ?_
  rintro e w1 ⟨rfl, hb2⟩
  have HR1 := Lib.hid (HR0.out.below hb2)
  have HB1 := Lib.hid (HB0.out.trans (hb2.mono HB0.out.size))
  have HLT : Hid (w.heap.size < w1.heap.size) := (Array.getElem?_eq_some_iff.1 (HR0.out.below hb2).row).1
  have HLA := Lib.hid (last_ref5 A cc xs.length xs c rfl w1 (by omega) ((HA.out.below HB1.out).more HB1.out.size))
  clear hb2 HT HR0 HB0
  obtain ⟨d0, d1, d2, f0, f1, f2⟩ := HR1.out.facts
  have hlp := lastP_le xs c
  obtain ⟨pl, hpl⟩ : ∃ pl, pl = lastP xs c := ⟨_, rfl⟩
  rw [← hpl] at HLA hlp
  dsimp only
  go_wp2_with fail
  with_reducible refine HLA.out.mono ?_
  rintro e w2 ⟨rfl, hw2⟩
  rw [← hw2]
  clear hw2 w2 HLA
  by_cases h0 : pl = 0
  · subst h0
    obtain rfl : ans = (1, zeroR) := by rw [HANS.out, askE_zero hpl.symm]
    clear HANS hpl hlp HA HV hl
    dsimp only
    go_wp2
    try simp only [Exit.inBlock, Exit.then]
    exact ask_end (r := zeroR) Try.results44 rfl rfl rfl rfl (row3R HR1.out.row _ _ _) (below3R HB1.out (Nat.le_refl _) _ _ _)
  · obtain ⟨p, hpp⟩ : ∃ p, pl = p + 1 := ⟨pl - 1, by omega⟩
    have hp : p < xs.length := by omega
    have hAE : ans = ansR (rowOf xs m p hp) k := by rw [HANS.out, askE_some (hpl.symm.trans hpp) hp]
    have HAE := Lib.hid hAE
    have HRW := Lib.hid (row_ref5T A cc xs.length xs pl p hpp rfl hp w1 hl HV.out ((HA.out.below HB1.out).more HB1.out.size) _ rfl)
    obtain ⟨ad, hAd, hq0, hca⟩ := (HA.out.below HB1.out).at_ hp
    subst hAd
    obtain ⟨c0, c1, _, _, _⟩ := hca.five
    have k1 : IntKind.i64.wrap ((pl : Int) - 1) = (p : Int) := by rw [show ((pl : Int) - 1) = (p : Int) by omega]; exact IntWalk.i64_in _ (by omega)
    have k2 : (p : Int) < (xs.length : Int) := by omega
    have k3 : ((pl : Int) == 0) = false := by simp; omega
    have k4 : (pl == 0) = false := by simp; omega
    have HPP : Hid (pl = p + 1) := hpp
    clear hAE hpl hlp hpp hca hq0 HANS h0
    have hro : rowOf xs m p hp = ⟨xs[p].client, xs[p].number, (p : Int) + 1, decide (p < m), if p < m then would (playC [] (opsOf (xs.take p))) xs[p].op else zeroR⟩ := rfl
    rw [hro] at HAE
    clear hro HA HV hl
    generalize xs[p].client = x0 at *
    generalize xs[p].number = x at *
    generalize would (playC [] (opsOf (xs.take p))) xs[p].op = rr at *
    by_cases q1 : x < k
    · have g4 : decide (x < k) = true := decide_eq_true q1
      obtain rfl : ans = (1, zeroR) := by rw [HAE.out]; unfold ansR; rw [if_pos q1]
      clear HAE q1 HRW
      dsimp only
      go_wp2
      try simp only [Exit.inBlock, Exit.then]
      exact ask_end (r := zeroR) Try.results44 rfl rfl rfl rfl (row3R HR1.out.row _ _ _) (below3R HB1.out (Nat.le_refl _) _ _ _)
    · have g4 : decide (x < k) = false := decide_eq_false q1
      by_cases q2 : k < x
      · have g5 : decide (k < x) = true := decide_eq_true q2
        obtain rfl : ans = (4, zeroR) := by rw [HAE.out]; unfold ansR; rw [if_neg q1, if_pos q2]
        clear HAE q1 q2 HRW
        dsimp only
        go_wp2
        try simp only [Exit.inBlock, Exit.then]
        exact ask_end (r := zeroR) Try.results44 rfl rfl rfl rfl (row3R HR1.out.row _ _ _) (below3R HB1.out (Nat.le_refl _) _ _ _)
      · have g5 : decide (k < x) = false := decide_eq_false q2
        by_cases q3 : p < m
        · have g6 : decide ((m : Int) < (pl : Int)) = false := decide_eq_false (by have := HPP.out; omega)
          have g7 : decide (m < pl) = false := decide_eq_false (by have := HPP.out; omega)
          obtain rfl : ans = (3, rr) := by rw [HAE.out]; unfold ansR; simp [q1, q2, q3]
          clear HAE q1 q2 q3
          dsimp only
          go_wp2_with fail
          with_reducible refine HRW.out.mono ?_
          rintro e w3 ⟨rfl, hb3⟩
          have HR3 := Lib.hid (HR1.out.below hb3)
          have HB3 := Lib.hid (HB1.out.trans (hb3.mono HB1.out.size))
          have hr4 : Res0 (w3.alloc (.cells #[.int .i64 x0, .int .i64 x, .int .i64 pl, .bool true, .int .i64 rr.code, .int .i64 rr.slot, .string rr.value] 90)) w.heap.size := HR3.out.below ((Below.refl _ _).alloc (Nat.le_refl _) _)
          have HB4 : Hid (Below w.heap.size w (w3.alloc (.cells #[.int .i64 x0, .int .i64 x, .int .i64 pl, .bool true, .int .i64 rr.code, .int .i64 rr.slot, .string rr.value] 90))) := HB3.out.alloc HB3.out.size _
          obtain ⟨e0, e1, e2, h0, h1, h2⟩ := hr4.facts
          have HR4 := Lib.hid hr4
          clear hr4 hb3 HRW d0 d1 d2 f0 f1 f2 c0 c1
          dsimp only
          go_wp2_with fail
          go_region
          all_goals
            go_wp2_with fail
            try simp only [Exit.inBlock, Exit.then]
            first
            | exact ask_end (r := rr) Try.results44 rfl rfl rfl rfl (row3R HR4.out.row _ _ _) (below3R HB4.out (Nat.le_refl _) _ _ _)
            | exact ask_end (r := rr) Try.results44 rfl rfl rfl rfl (row3R HR4.out.row _ _ _) (below3R HB4.out (Nat.le_refl _) _ _ _).drew
        · have g6 : decide ((m : Int) < (pl : Int)) = true := decide_eq_true (by have := HPP.out; omega)
          have g7 : decide (m < pl) = true := decide_eq_true (by have := HPP.out; omega)
          obtain rfl : ans = (2, zeroR) := by rw [HAE.out]; unfold ansR; simp [q1, q2, q3]
          clear HAE q1 q2 q3 HRW
          dsimp only
          go_wp2
          try simp only [Exit.inBlock, Exit.then]
          exact ask_end (r := zeroR) Try.results44 rfl rfl rfl rfl (row3R HR1.out.row _ _ _) (below3R HB1.out (Nat.le_refl _) _ _ _)
end Go.Proofs.Ytnfilklgogaheaa

namespace Go.Proofs.Ytnfilklgogaheaa
open Go.RowKit
set_option linter.unusedVariables false
set_option linter.unusedSimpArgs false

def askQ (xs : List Entry) (m c k : Int) : Int := if withinE xs m = 0 then entryE c k else withinE xs m
def askA (xs : List Entry) (m c k : Int) : Int × Res := if withinE xs m = 0 ∧ entryE c k = 0 then askE xs m.toNat c k else (0, ⟨0, 0, ⟨#[]⟩⟩)
theorem ask_all (A : Option Addr) (cc n : Nat) (xs : List Entry) (m c k : Int) (hn : n = xs.length) (hc : n ≤ cc) (w : World) (hl : xs.length ≤ 9223372036854775806) (hv : ∀ x ∈ xs, x.op.value.size ≤ 9223372036854775807) (ha : Rd Entry.cells 5 w w.heap.size A xs) :
    Calls Try.prog 43 #[.slice A n cc, .int .i64 m, .int .i64 c, .int .i64 k] w (AskPost w (askA xs m c k).1 (askA xs m c k).2 (askQ xs m c k)) := by
  by_cases h1 : withinE xs m = 0
  · by_cases h2 : entryE c k = 0
    · have e1 : askQ xs m c k = 0 := by unfold askQ; rw [if_pos h1]; exact h2
      have e2 : askA xs m c k = askR (tabRs xs m) c k := by
        unfold askA; rw [if_pos ⟨h1, h2⟩]
        obtain ⟨p1, p2, p3⟩ := within_zero h1
        unfold tabRs; rw [if_pos h1]
        exact (ask_is (good_logE p1).1 (by omega) c k).symm
      rw [e1, e2]
      exact ask_ok A cc n xs m c k hn hc w hl hv ha h1 h2
    · have e1 : askQ xs m c k = entryE c k := by unfold askQ; rw [if_pos h1]
      have e2 : askA xs m c k = (0, ⟨0, 0, ⟨#[]⟩⟩) := by unfold askA; rw [if_neg (fun q => h2 q.2)]
      rw [e1, e2]
      exact ask_bad A cc n xs m c k hn hc w hl hv ha h1 h2
  · have e1 : askQ xs m c k = withinE xs m := by unfold askQ; rw [if_neg h1]
    have e2 : askA xs m c k = (0, ⟨0, 0, ⟨#[]⟩⟩) := by unfold askA; rw [if_neg (fun q => h1 q.1)]
    rw [e1, e2]
    exact ask_err A cc n xs m c k hn hc w hl hv ha h1
theorem ask_allR (A : Option Addr) (cc n : Nat) (xs : List Entry) (m c k : Int) (hn : n = xs.length) (w : World) (hl : (xs.length + 1) * 48 ≤ 140737488355328) (hv : ∀ x ∈ xs, x.op.value.size ≤ 9223372036854775807) (ha : Rd Entry.cells 5 w w.heap.size A xs) :
    Calls Try.prog 44 #[.slice A n cc, .int .i64 m, .int .i64 c, .int .i64 k] w (AskPost w (askA xs m c k).1 (askA xs m c k).2 (askQ xs m c k)) := by
  by_cases h1 : withinE xs m = 0
  · by_cases h2 : entryE c k = 0
    · have e1 : askQ xs m c k = 0 := by unfold askQ; rw [if_pos h1]; exact h2
      obtain ⟨p1, p2, p3⟩ := within_zero h1
      obtain ⟨j, rfl⟩ : ∃ j : Nat, m = (j : Int) := ⟨m.toNat, by omega⟩
      have e2 : askA xs (j : Int) c k = askE xs j c k := by unfold askA; rw [if_pos ⟨h1, h2⟩]; rfl
      rw [e1, e2]
      exact askRef_ok A cc n xs j c k hn w hl hv ha h1 h2
    · have e1 : askQ xs m c k = entryE c k := by unfold askQ; rw [if_pos h1]
      have e2 : askA xs m c k = (0, ⟨0, 0, ⟨#[]⟩⟩) := by unfold askA; rw [if_neg (fun q => h2 q.2)]
      rw [e1, e2]
      exact askRef_bad A cc n xs m c k hn w hl hv ha h1 h2
  · have e1 : askQ xs m c k = withinE xs m := by unfold askQ; rw [if_neg h1]
    have e2 : askA xs m c k = (0, ⟨0, 0, ⟨#[]⟩⟩) := by unfold askA; rw [if_neg (fun q => h1 q.1)]
    rw [e1, e2]
    exact askRef_err A cc n xs m c k hn w hl hv ha h1

set_option maxRecDepth 100000 in
set_option maxHeartbeats 2000000 in
theorem asks5_calls (A : Option Addr) (c n : Nat) (xs : List Entry) (m u k : Int) (hn : n = xs.length) (hc : n ≤ c) (w : World) (hb : (xs.length + 1) * 48 ≤ 140737488355328) (hv : ∀ x ∈ xs, x.op.value.size ≤ 9223372036854775807) (ha : Rd Entry.cells 5 w w.heap.size A xs) :
    Calls Try.prog 10 #[.slice A n c, .int .i64 m, .int .i64 u, .int .i64 k] w fun e w' => e = .returned (.bool true) ∧ Below w.heap.size w w' := by
  subst hn
  have HA := Lib.hid ha
  have HV := Lib.hid hv
  clear hv
  go_enter Try.func10, Try.ntmps10
  go_wp2_with fail
  refine (givenEntries w.heap.size w.heap.size [] A c xs _ (given_new w _ (Nat.le_refl _)) (by simp) hb (ha.keep fun q hq => World.cell?_alloc_lt _ _ _ hq)).mono ?_
  rintro e w1 ⟨A1, c1, rfl, hc1, hg1, _, hb1⟩
  have hbw1 : Below w.heap.size w w1 := ((Below.refl _ w).alloc (Nat.le_refl _) _).trans hb1
  have HG1 := Lib.hid hg1
  have HB1 := Lib.hid hbw1
  have HR1 := Lib.hid (hg1.get (g := ⟨A1, c1, xs⟩) (by simp))
  clear hb1 hg1 hbw1 ha
  dsimp only
  have HP := Lib.hid (ask_all A1 c1 xs.length xs m u k rfl (by omega) w1 (by omega) HV.out HR1.out)
  have HF := Lib.hid (fun W (hW : Below w.heap.size w W) => ask_allR A c xs.length xs m u k rfl W (by omega) HV.out ((HA.out.below hW).more hW.size))
  generalize askQ xs m u k = q at *
  obtain ⟨v, hv⟩ : ∃ v, v = (askA xs m u k).1 := ⟨_, rfl⟩
  obtain ⟨r, hr⟩ : ∃ r, r = (askA xs m u k).2 := ⟨_, rfl⟩
  rw [← hv, ← hr] at HP HF
  clear hv hr
  have geq : ∀ W, (binOp .eql 58 (.agg #[.int .i64 r.code, .int .i64 r.slot, .string r.value]) (.agg #[.int .i64 r.code, .int .i64 r.slot, .string r.value])).run Try.prog W = .ok (.bool true) W := fun W => by have h := eql_res r r W; simpa using h
  have hgr := guard_res
  go_wp2_with fail
  with_reducible refine HP.out.mono ?_
  rintro e w2 ⟨rfl, hb2⟩
  obtain ⟨V2, hV2⟩ : ∃ V, V = w2.alloc (.cells #[.int .i64 r.code, .int .i64 r.slot, .string r.value] 58) := ⟨_, rfl⟩
  have ba2 : Below w2.heap.size w2 V2 := by rw [hV2]; exact (Below.refl _ _).alloc (Nat.le_refl _) _
  have bw2 := hb2.trans (ba2.mono hb2.size)
  have HB2 := Lib.hid (HB1.out.trans (bw2.mono HB1.out.size))
  have HG2 := Lib.hid (HG1.out.below6 bw2)
  have HK2 : Hid (V2.heap[w2.heap.size]? = some (.cells #[.int .i64 r.code, .int .i64 r.slot, .string r.value] 58 (0, 0))) := by show _ = _; rw [hV2]; exact heap_alloc_new _ _
  have HV2 := Lib.hid hV2
  clear hb2 ba2 bw2 hV2 HP HB1 HG1 HR1
  dsimp only
  go_wp2_with fail
  rw [← HV2.out]
  with_reducible refine (HF.out V2 HB2.out).mono ?_
  rintro e w3 ⟨rfl, hb3⟩
  obtain ⟨V3, hV3⟩ : ∃ V, V = w3.alloc (.cells #[.int .i64 r.code, .int .i64 r.slot, .string r.value] 58) := ⟨_, rfl⟩
  have ba3 : Below w3.heap.size w3 V3 := by rw [hV3]; exact (Below.refl _ _).alloc (Nat.le_refl _) _
  have bw3 := hb3.trans (ba3.mono hb3.size)
  have HB3 := Lib.hid (HB2.out.trans (bw3.mono HB2.out.size))
  have HG3 := Lib.hid (HG2.out.below6 bw3)
  have hk2 := (bw3.block _ (Array.getElem?_eq_some_iff.1 HK2.out).1).trans HK2.out
  have hk3 : V3.heap[w3.heap.size]? = some (.cells #[.int .i64 r.code, .int .i64 r.slot, .string r.value] 58 (0, 0)) := by rw [hV3]; exact heap_alloc_new _ _
  have HV3 := Lib.hid hV3
  clear hb3 ba3 bw3 hV3 HF HB2 HG2 HV2 HK2 HA HV
  dsimp only
  go_wp2_with fail
  rw [← HV3.out]
  clear HV3
  have x0 := cell_of_row V3 w2.heap.size 0 _ _ _ hk2
  have x1 := cell_of_row V3 w2.heap.size 1 _ _ _ hk2
  have x2 := cell_of_row V3 w2.heap.size 2 _ _ _ hk2
  have y0 := cell_of_row V3 w3.heap.size 0 _ _ _ hk3
  have y1 := cell_of_row V3 w3.heap.size 1 _ _ _ hk3
  have y2 := cell_of_row V3 w3.heap.size 2 _ _ _ hk3
  clear hk2 hk3
  with_reducible refine (num05 _ _).mono ?_
  rintro e w' ⟨rfl, hw4⟩
  rw [← hw4]
  clear hw4 w'
  dsimp only
  go_wp2_with fail
  refine (givenIntact w.heap.size w.heap.size _ _ HG3.out (by simp)).mono ?_
  rintro e w' ⟨rfl, q10, rfl⟩
  dsimp only
  go_wp2_with fail
  refine (alive05 _).mono ?_
  rintro e w5 ⟨rfl, hb5⟩
  have hbw5 := (below_drewN HB3.out q10).trans (hb5.mono HB3.out.size)
  have HB5 := Lib.hid hbw5
  clear hb5 hbw5
  dsimp only
  go_wp2_with fail
  go_ret
  exact ⟨rfl, HB5.out⟩
theorem asks5_law (W : World) (A : Option Addr) (c n : Nat) (xs : List Entry) (hn : n = xs.length) (hc : n ≤ c) (hrd : Rd Entry.cells 5 W W.heap.size A xs) (hwf : ∀ o ∈ xs, o.wf) (hsz : xs.length * 48 ≤ 140737488351232) (m : Int) (_ : I64 m) (u : Int) (_ : I64 u) (k : Int) (_ : I64 k) :
    Calls Try.prog 10 #[.slice A n c, .int .i64 m, .int .i64 u, .int .i64 k] W fun e w' => e = .returned (.bool true) ∧ Below W.heap.size W w' :=
  asks5_calls A c n xs m u k hn hc W (by omega) (fun o ho => (hwf o ho).op.value) hrd
end Go.Proofs.Ytnfilklgogaheaa
