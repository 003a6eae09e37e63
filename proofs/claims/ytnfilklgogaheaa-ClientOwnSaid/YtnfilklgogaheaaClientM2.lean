/- slices.SortFunc at rows: where its functions and types lie. Conditions: none.
slices.SortFunc at the program's own cells, as client.Table calls it: a row of rows of the call's own, then rising by client. Conditions: clients of 16.
slices.SortFunc at no element, a nil slice too: nothing turns. Conditions: none.
client.Table: the client table of a log. Conditions: sizes within Go's own limits.
The reference's Table. Conditions: sizes within Go's own limits.
alive of chapter 05 answers true. Conditions: none. -/
import Derived.Test.YtnfilklgogaheaaProg
import Derived.Shelf.SlSortCmp.WholeK
import Derived.KernelRfl
import Derived.Test.YtnfilklgogaheaaClientM1
import Derived.Test.YtnfilklgogaheaaApp
import Derived.WalkKit
import Derived.Deep.QuietTactic
import Derived.BigQuiet
namespace Go.Proofs.Ytnfilklgogaheaa
open Go.Shelf Go.RowKit Go.Lib Go.Sort
set_option linter.unusedVariables false
set_option linter.unusedSimpArgs false

def sortRenR : Go.Shelf.Ren := ⟨fun | 6 => 71 | 15 => 100 | 14 => 99 | 28 => 114 | 29 => 115 | 20 => 106 | 21 => 107 | 22 => 108 | 23 => 109 | 24 => 110 | 25 => 111 | 26 => 112 | 27 => 113 | 46 => 117 | 47 => 118 | 48 => 119 | 49 => 120 | 50 => 121 | 57 => 130 | n => n, fun | 22 => 76 | 24 => 90 | 25 => 136 | 3 => 3 | 39 => 175 | 0 => 0 | 53 => 197 | 55 => 153 | 4 => 4 | 46 => 191 | 45 => 190 | 50 => 157 | 5 => 5 | 9 => 9 | 66 => 200 | 70 => 204 | 76 => 211 | 77 => 212 | n => n, fun n => n⟩
theorem sortLayR : SlLaysF0.n6 Try.prog sortRenR := {
  mixed := by kernel_rfl,
  f6 := ⟨Try.f71.name, by decide, Try.func71.trans (congrArg some (by kernel_rfl))⟩,
  f14 := ⟨Try.f99.name, by decide, Try.func99.trans (congrArg some (by kernel_rfl))⟩,
  f15 := Try.func100.trans (congrArg some (by kernel_rfl)),
  f20 := ⟨Try.f106.name, by decide, Try.func106.trans (congrArg some (by kernel_rfl))⟩,
  f21 := ⟨Try.f107.name, by decide, Try.func107.trans (congrArg some (by kernel_rfl))⟩,
  f22 := ⟨Try.f108.name, by decide, Try.func108.trans (congrArg some (by kernel_rfl))⟩,
  f23 := ⟨Try.f109.name, by decide, Try.func109.trans (congrArg some (by kernel_rfl))⟩,
  f24 := ⟨Try.f110.name, by decide, Try.func110.trans (congrArg some (by kernel_rfl))⟩,
  f25 := ⟨Try.f111.name, by decide, Try.func111.trans (congrArg some (by kernel_rfl))⟩,
  f26 := ⟨Try.f112.name, by decide, Try.func112.trans (congrArg some (by kernel_rfl))⟩,
  f27 := ⟨Try.f113.name, by decide, Try.func113.trans (congrArg some (by kernel_rfl))⟩,
  f28 := Try.func114.trans (congrArg some (by kernel_rfl)),
  f29 := Try.func115.trans (congrArg some (by kernel_rfl)),
  f46 := ⟨Try.f117.name, by decide, Try.func117.trans (congrArg some (by kernel_rfl))⟩,
  f47 := Try.func118.trans (congrArg some (by kernel_rfl)),
  f48 := Try.func119.trans (congrArg some (by kernel_rfl)),
  f49 := ⟨Try.f120.name, by decide, Try.func120.trans (congrArg some (by kernel_rfl))⟩,
  f50 := ⟨Try.f121.name, by decide, Try.func121.trans (congrArg some (by kernel_rfl))⟩,
  f57 := ⟨Try.f130.name, by decide, Try.func130.trans (congrArg some (by kernel_rfl))⟩,
  t0 := Try.underlying0,
  a0 := Try.isAgg0,
  z0 := Try.sizeOf0,
  v0 := Try.zeroValue0,
  t3 := Try.underlying3,
  a3 := Try.isAgg3,
  z3 := Try.sizeOf3,
  v3 := Try.zeroValue3,
  t4 := Try.underlying4,
  a4 := Try.isAgg4,
  z4 := Try.sizeOf4,
  v4 := Try.zeroValue4,
  t5 := Try.underlying5,
  a5 := Try.isAgg5,
  z5 := Try.sizeOf5,
  v5 := Try.zeroValue5,
  t9 := Try.underlying9,
  a9 := Try.isAgg9,
  z9 := Try.sizeOf9,
  v9 := Try.zeroValue9,
  t22 := Try.underlying76,
  a22 := Try.isAgg76,
  z22 := Try.sizeOf76,
  v22 := Try.zeroValue76,
  t25 := Try.underlying136,
  a25 := Try.isAgg136,
  z25 := Try.sizeOf136,
  v25 := Try.zeroValue136,
  t39 := Try.underlying175,
  a39 := Try.isAgg175,
  z39 := Try.sizeOf175,
  v39 := Try.zeroValue175,
  t45 := Try.underlying190,
  a45 := Try.isAgg190,
  z45 := Try.sizeOf190,
  v45 := Try.zeroValue190,
  t46 := Try.underlying191,
  a46 := Try.isAgg191,
  z46 := Try.sizeOf191,
  v46 := Try.zeroValue191,
  t50 := Try.underlying157,
  a50 := Try.isAgg157,
  z50 := Try.sizeOf157,
  v50 := Try.zeroValue157,
  t53 := Try.underlying197,
  a53 := Try.isAgg197,
  z53 := Try.sizeOf197,
  v53 := Try.zeroValue197,
  t55 := Try.underlying153,
  a55 := Try.isAgg153,
  z55 := Try.sizeOf153,
  v55 := Try.zeroValue153,
  t66 := Try.underlying200,
  a66 := Try.isAgg200,
  z66 := Try.sizeOf200,
  v66 := Try.zeroValue200,
  t70 := Try.underlying204,
  a70 := Try.isAgg204,
  z70 := Try.sizeOf204,
  v70 := Try.zeroValue204,
  t76 := Try.underlying211,
  a76 := Try.isAgg211,
  z76 := Try.sizeOf211,
  v76 := Try.zeroValue211,
  t77 := Try.underlying212,
  a77 := Try.isAgg212,
  z77 := Try.sizeOf212,
  v77 := Try.zeroValue212 }
end Go.Proofs.Ytnfilklgogaheaa

namespace Go.Proofs.Ytnfilklgogaheaa
open Go.Shelf Go.RowKit Go.Lib Go.Sort
set_option linter.unusedVariables false
set_option linter.unusedSimpArgs false

def GoodR (r : Row) : Prop := 0 ≤ r.client ∧ r.client < 16
abbrev GR := { r : Row // GoodR r }
instance : Inhabited GR := ⟨⟨⟨0, 0, 0, false, ⟨0, 0, emp⟩⟩, by unfold GoodR; decide⟩⟩
def encGR (x : GR) : List Value := x.1.cells
def cfGR (x y : GR) : Int := x.1.client - y.1.client
theorem ltGR (x y : GR) : ltOf cfGR x y = decide (x.1.client < y.1.client) := by
  unfold ltOf cfGR
  congr 1
  rw [eq_iff_iff]
  omega
theorem swoGR : SWO (ltOf cfGR) where
  irrefl x := by rw [ltGR]; simp
  trans x y z h1 h2 := by rw [ltGR] at *; simp at *; omega
  ntrans x y z h1 h2 := by rw [ltGR] at *; simp at *; omega
/-- The comparison that Table hands over. -/
theorem cmpRows (x y : GR) (W : World) : Calls Try.prog 72 #[.agg #[.int .i64 x.1.client, .int .i64 x.1.number, .int .i64 x.1.place, .bool x.1.done, .int .i64 x.1.res.code, .int .i64 x.1.res.slot, .string x.1.res.value], .agg #[.int .i64 y.1.client, .int .i64 y.1.number, .int .i64 y.1.place, .bool y.1.done, .int .i64 y.1.res.code, .int .i64 y.1.res.slot, .string y.1.res.value]] W fun e w' => e = .returned (.int .i64 (cfGR x y)) ∧ ∃ q os', w' = grow (W.drewN q) os' := by
  obtain ⟨x, hx0, hx1⟩ := x
  obtain ⟨y, hy0, hy1⟩ := y
  have e : cfGR ⟨x, hx0, hx1⟩ ⟨y, hy0, hy1⟩ = x.client - y.client := rfl
  rw [e]
  clear e
  go_enter Try.func72, Try.ntmps72
  go_wp2
  go_ret
  exact ⟨rfl, 0, _, by rw [alloc_eq_grow, alloc_eq_grow, grow_grow]; rfl⟩
theorem aggRow : ∀ w, (isAgg 90).run Try.prog w = .ok true w := Try.isAgg90
theorem sizeRowS : ∀ w, (Go.sizeOf 90).run Try.prog w = .ok 7 w := Try.sizeOf90
theorem flat_flatKR (d : Array GR) : flatK encGR 7 d = (flat Row.cells (d.toList.map (·.1))).toArray := by
  apply Array.ext
  · simp only [size_flatK, List.size_toArray]
    rw [flat_length encRow.len]
    simp
  · intro t h1 h2
    simp only [size_flatK] at h1
    have h3 := get_flatK encGR 7 d t h1
    rw [getElem!_pos _ t (by simpa using h1)] at h3
    rw [h3]
    have hd : t / 7 < d.size := by omega
    have hg := flat_get encRow.len (d.toList.map (·.1)) (t / 7) (t % 7) d[t / 7].1 (encGR d[t / 7]!)[t % 7]! (by simp [hd]) (by
      rw [getElem!_pos d _ hd]
      have : t % 7 < (encGR d[t / 7]).length := by show t % 7 < (Row.cells _).length; rw [encRow.len]; omega
      rw [getElem!_pos (encGR d[t / 7]) (t % 7) this]
      exact List.getElem?_eq_getElem this)
    have ht : t / 7 * 7 + t % 7 = t := by omega
    rw [ht] at hg
    have h2' : t < (flat Row.cells (d.toList.map (·.1))).length := by simpa using h2
    rw [List.getElem?_eq_getElem h2'] at hg
    simp only [List.getElem_toArray]
    exact (Option.some.inj hg).symm

/-- THE SORT, at a row of the call's own. -/
theorem sortRows (g c : Nat) (xs : List Row) (base : Nat) (w : World) (hx : ∀ x ∈ xs, GoodR x) (hl : xs.length < 4611686018427387904) (hm : Made Row.cells 7 90 base w (.slice (some ⟨g, 0, none⟩) xs.length c) xs) :
    Calls Try.prog 71 #[.slice (some ⟨g, 0, none⟩) xs.length c, .func (.func 72) #[] #[]] w fun e w' => e = .returned (.tuple #[]) ∧ ∃ ys, ys.Perm xs ∧ ys.Pairwise (fun a b => a.client ≤ b.client) ∧ Made Row.cells 7 90 base w' (.slice (some ⟨g, 0, none⟩) xs.length c) ys ∧ Kept (fun k => k = g) w w' := by
  obtain ⟨d, hd⟩ : ∃ d : Array GR, d.toList.map (·.1) = xs := ⟨(xs.attach.map fun x => (⟨x.1, hx x.1 x.2⟩ : GR)).toArray, by simp⟩
  have hds : d.size = xs.length := by rw [← hd]; simp
  have hg := hm.lt g rfl
  have hrow : ∃ cur, w.heap[g]? = some (.cells cur 90 (0, 0)) ∧ xs.length ≤ c ∧ c ≤ maxLen ∧ cur.size = c * 7 ∧ cur.toList.take (xs.length * 7) = flat Row.cells xs := by
    rcases hm.2 with ⟨e, _⟩ | ⟨g', cap, cur, e, _, hgg, h1, h2, h3, h4⟩
    · cases e
    · injection e with e1 e2 e3
      injection e1 with e1
      injection e1 with e1
      subst e1; subst e3
      exact ⟨cur, hgg, h1, h2, h3, by rw [h4]⟩
  obtain ⟨cur, hgg, hc1, hc2, hc3, hc4⟩ := hrow
  have hfk := flat_flatKR d
  rw [hd] at hfk
  have hfl : (flat Row.cells xs).length = xs.length * 7 := flat_length encRow.len xs
  have hH : HoldsK encGR 7 w g 0 d := fun j hj => by
    rw [hfk] at hj ⊢
    simp only [List.size_toArray] at hj
    rw [Nat.zero_add]
    refine ⟨?_, frozen_of_row _ _ _ _ _ hgg⟩
    have h2 : (cur.toList.take (xs.length * 7))[j]? = some (flat Row.cells xs)[j] := by rw [hc4]; exact List.getElem?_eq_getElem hj
    rw [List.getElem?_take, if_pos (by omega)] at h2
    have h1 : cur[j]? = some (flat Row.cells xs)[j] := by simpa using h2
    rw [cell_of_row w g j _ _ _ hgg, h1]
    simp only [id]
    rw [getElem!_pos _ j (by simpa using hj)]
    simp
  have eg : ∀ args w, (callFunc 72 args).run Try.prog w = .ok (.enter 72 args) w := enters_of Try.func72 (by kernel_rfl) rfl
  have hcon := AnyQ.slices_SortFunc sortLayR 7 aggRow sizeRowS encGR (fun x => encRow.len x.1) (fun x => encRow.one x.1) cfGR swoGR 72 #[] g 0 c d w eg (fun _ _ _ _ x y => cmpRows x y _) hH hg.2 (by omega)
  rw [hds] at hcon
  refine Calls.mono (P := Try.prog) hcon ?_
  rintro e w' ⟨rfl, d', n, os, hp, hs, rfl⟩
  obtain ⟨hp1, _, hp3⟩ := hp
  have hp3' : d'.toList.Perm d.toList := by
    have e1 : d'.extract 0 xs.length = d' := by rw [← hds, ← hp1]; simp
    have e2 : d.extract 0 xs.length = d := by rw [← hds]; simp
    rwa [e1, e2] at hp3
  refine ⟨rfl, d'.toList.map (·.1), ?_, ?_, ?_, ?_⟩
  · rw [← hd]; exact hp3'.map _
  · rw [List.pairwise_map, List.pairwise_iff_getElem]
    intro i j hi hj hij
    have h1 := hs i j (Nat.zero_le _) hij (by simp at hj; omega)
    rw [ltGR] at h1
    have hi' : i < d'.size := by simpa using hi
    have hj' : j < d'.size := by simpa using hj
    rw [getElem!_pos d' j hj', getElem!_pos d' i hi'] at h1
    simp at h1 ⊢
    exact h1
  all_goals
    have hsz : (Sort.ahead w n).heap.size = w.heap.size := rfl
    have hW : ∀ k, k < w.heap.size → (sortWorldK encGR 7 w g 0 n d' os).heap[k]? = (w.heap[k]?).map (if g = k then onCells (putCells id 0 (flatK encGR 7 d')) else id) := fun k hk => by
      unfold sortWorldK grow putRowK putRow mapBlock
      simp only
      rw [Array.getElem?_append_left (by simp; exact hk), Array.getElem?_modify]
      by_cases h : g = k
      · simp [h]
      · simp [h]
  · have hgb := hW g hg.2
    rw [if_pos rfl, hgg] at hgb
    have hys : (flat Row.cells (d'.toList.map (·.1))).length = xs.length * 7 := by rw [flat_length encRow.len]; simp; omega
    have hyl : (d'.toList.map (·.1)).length = xs.length := by simp; omega
    rw [← hyl]
    rw [← hyl] at hys hc1
    refine ⟨hys, .inr ⟨g, c, _, rfl, hg.1, hgb, hc1, hc2, by simp [putCells, hc3], ?_⟩⟩
    rw [hyl] at hys hc1 ⊢
    apply List.ext_getElem?
    intro k
    rw [List.getElem?_take]
    by_cases hk : k < xs.length * 7
    · rw [if_pos hk]
      have hkc : k < cur.size := by omega
      have hkf : k < (flatK encGR 7 d').size := by rw [size_flatK]; omega
      have e1 : (putCells id 0 (flatK encGR 7 d') cur)[k]? = some ((flatK encGR 7 d')[k]!) := by
        unfold putCells
        rw [Array.getElem?_mapIdx, Array.getElem?_eq_getElem hkc]
        simp only [Option.map_some, Nat.zero_le, Nat.zero_add, true_and, Nat.sub_zero, id]
        rw [if_pos hkf]
      simp only [Array.getElem?_toList]
      rw [e1, flat_flatKR d', getElem!_pos _ k (by rw [List.size_toArray, hys]; exact hk)]
      simp
    · rw [if_neg hk, List.getElem?_eq_none (by omega)]
  · refine ⟨rfl, rfl, rfl, ?_, fun k hk hn => ?_⟩
    · unfold sortWorldK grow putRowK putRow mapBlock
      simp
    · rw [hW k hk, if_neg (fun e => hn e.symm)]; simp
end Go.Proofs.Ytnfilklgogaheaa

namespace Go.Proofs.Ytnfilklgogaheaa
open Go.Shelf Go.RowKit Go.Lib Go.Sort
set_option linter.unusedVariables false
set_option linter.unusedSimpArgs false

theorem insNoneR (p : Option Addr) (cap : Nat) (fv : Value) (w : World) :
    Calls Try.prog 106 #[.slice p 0 cap, .int .i64 0, .int .i64 0, fv] w fun e w' => e = .returned (.tuple #[]) ∧ w' = w := by
  go_enter Try.func106, Try.ntmps106
  go_wp2
  refine wp_loop_rounds 1 ?_
  rw [rounds_succ]
  go_wp2
  go_end0
  exact ⟨rfl, rfl⟩
theorem pdqNoneR (p : Option Addr) (cap : Nat) (lim : Int) (fv : Value) (w : World) :
    Calls Try.prog 99 #[.slice p 0 cap, .int .i64 0, .int .i64 0, .int .i64 lim, fv] w fun e w' => e = .returned (.tuple #[]) ∧ w' = w := by
  have hi := fun W => insNoneR p cap fv W
  go_enter Try.func99, Try.ntmps99
  go_wp2
  refine wp_loop_rounds 1 ?_
  rw [rounds_succ]
  go_wp2_with (go_at_call 106; refine (hi _).mono ?_; rintro e w' ⟨rfl, rfl⟩)
  (try simp only [Exit.inBlock, Exit.then]); refine bodyPost_ret (results_none rfl _ _ _) rfl ?_
  exact ⟨rfl, rfl⟩
theorem sortNoneR (p : Option Addr) (cap : Nat) (fv : Value) (w : World) :
    Calls Try.prog 71 #[.slice p 0 cap, fv] w fun e w' => e = .returned (.tuple #[]) ∧ w' = w := by
  have hp := fun lim W => pdqNoneR p cap lim fv W
  have hl : ∀ W, Calls Try.prog 100 #[.int .u64 0] W fun e w' => e = .returned (.int .i64 (Lib.bitLen 0 : Nat)) ∧ w' = W := fun W => by
    have h := Any.bits_Len (SlLaysF0.n15.bits (P := Try.prog) (ρ := sortRenR) { sortLayR with }) 0 W (by omega) (by omega)
    exact h
  go_enter Try.func71, Try.ntmps71
  go_wp2_with (first | (go_at_call 100; refine (hl _).mono ?_; rintro e w' ⟨rfl, rfl⟩) | (go_at_call 99; refine (hp _ _).mono ?_; rintro e w' ⟨rfl, rfl⟩))
  go_end0
  exact ⟨rfl, rfl⟩
end Go.Proofs.Ytnfilklgogaheaa

namespace Go.Proofs.Ytnfilklgogaheaa
open Go.RowKit
set_option linter.unusedVariables false
set_option linter.unusedSimpArgs false

def evR (r : Row) : Value := .agg #[.int .i64 r.client, .int .i64 r.number, .int .i64 r.place, .bool r.done, .int .i64 r.res.code, .int .i64 r.res.slot, .string r.res.value]
theorem undMapR : Try.prog.underlying 133 = some (.map 3 90) := Try.underlying133
theorem Rd.keptF {α : Type} {enc : α → List Value} {k : Nat} {S : Nat → Prop} {w w' : World} {A : Option Addr} {xs : List α} (h : Rd enc k w w.heap.size A xs) (hk : Kept S w w') (hA : ∀ ad, A = some ad → ad.block < w.heap.size → ¬ S ad.block) : Rd enc k w' w'.heap.size A xs :=
  h.keepAt hk.size fun ad e hb => hk.block _ hb (hA ad e hb)
theorem rowsP_take {xs : List Entry} {m k : Nat} (h : m + k < xs.length) : (rowsP m (xs.drop m)).take (k + 1) = (rowsP m (xs.drop m)).take k ++ [⟨xs[m + k].client, xs[m + k].number, (m : Int) + k + 1, false, zeroR⟩] := by
  have hg := rowsP_get (xs.drop m) m k (by simp; omega)
  obtain ⟨hk, e⟩ := List.getElem?_eq_some_iff.1 hg
  rw [List.take_succ_eq_append_getElem hk, e]
  simp

theorem table_perm {xs : List Entry} {m : Nat} (hg : GoodE xs) (hm : m ≤ xs.length) {ps : List (Int × Row)} (hn : (ps.map (·.1)).Nodup) (ht : tellsR (allR xs m) ps) : (ps.map (·.2)).Perm (tableE xs m) := by
  have hkey : ∀ p ∈ ps, p.2.client = p.1 := fun p hp => by
    have h1 := (mem_look hn p.1 p.2).1 hp
    rw [ht] at h1
    exact (lastR_client h1).1
  have hnd : (ps.map (·.2)).Nodup := by
    unfold List.Nodup
    rw [List.pairwise_map]
    have h1 := List.pairwise_map.1 hn
    refine h1.imp_of_mem fun {a b} ha hb h e => h ?_
    rw [← hkey a ha, ← hkey b hb, e]
  have hnd2 : (tableE xs m).Nodup := (tableE_sorted xs m).imp fun {a b} h e => by subst e; omega
  refine (List.perm_ext_iff_of_nodup hnd hnd2).2 fun r => ?_
  rw [mem_tableE hg hm]
  constructor
  · intro h
    obtain ⟨p, hp', rfl⟩ := List.mem_map.1 h
    exact ⟨p.1, by rw [← ht]; exact (mem_look hn p.1 p.2).1 hp'⟩
  · rintro ⟨c, h⟩
    rw [← ht] at h
    exact List.mem_map.2 ⟨(c, r), (mem_look hn c r).2 h, rfl⟩
theorem table_sorted {xs : List Entry} {m : Nat} {ys : List Row} (hp : ys.Perm (tableE xs m)) (hs : ys.Pairwise (fun a b => a.client ≤ b.client)) : ys = tableE xs m := by
  have key : ∀ r ∈ tableE xs m, lastR (allR xs m) r.client = some r := fun r h => by
    unfold tableE at h
    obtain ⟨c, _, h⟩ := List.mem_filterMap.1 h
    rw [(lastR_client h).1, h]
  refine hp.eq_of_pairwise (le := fun a b => a.client ≤ b.client) (fun a b ha hb h1 h2 => ?_) hs ((tableE_sorted xs m).imp (fun h => by omega))
  have e1 := key a (hp.mem_iff.1 ha)
  have e2 := key b hb
  rw [show a.client = b.client by omega, e2] at e1
  exact (Option.some.inj e1).symm
theorem tableE_good {xs : List Entry} {m : Nat} : ∀ r ∈ tableE xs m, GoodR r := fun r h => by
  unfold tableE at h
  obtain ⟨c, hc, h⟩ := List.mem_filterMap.1 h
  have h1 := (lastR_client h).1
  have h2 := List.mem_range.1 hc
  unfold GoodR
  omega

set_option maxRecDepth 100000 in
theorem table_err (A : Option Addr) (c n : Nat) (xs : List Entry) (m : Int) (hn : n = xs.length) (w : World) (hl : xs.length ≤ 9223372036854775806) (hv : ∀ x ∈ xs, x.op.value.size ≤ 9223372036854775807) (ha : Rd Entry.cells 5 w w.heap.size A xs) (he : logE xs 256 ≠ 0) :
    Calls Try.prog 33 #[.slice A n c, .int .i64 m] w fun e w' => e = .returned (.tuple #[.slice none 0 0, .int .i64 (logE xs 256)]) ∧ Below w.heap.size w w' := by
  subst hn
  have HC := Lib.hid (check_client A c xs.length xs rfl w hl hv ha)
  clear ha hv
  generalize logE xs 256 = q at *
  have h1 : (q != 0) = true := by simpa using he
  clear he
  go_enter Try.func33, Try.ntmps33
  go_wp2_with fail
  refine HC.out.mono ?_
  rintro e w1 ⟨rfl, hb1⟩
  have HB1 := Lib.hid hb1
  clear hb1
  dsimp only
  go_wp2_with fail
  go_ret2
  exact ⟨rfl, HB1.out⟩
set_option maxRecDepth 100000 in
theorem table_bad (A : Option Addr) (c n : Nat) (xs : List Entry) (m : Int) (hn : n = xs.length) (w : World) (hl : xs.length ≤ 9223372036854775806) (hv : ∀ x ∈ xs, x.op.value.size ≤ 9223372036854775807) (ha : Rd Entry.cells 5 w w.heap.size A xs) (he : logE xs 256 = 0) (hm : m < 0 ∨ (xs.length : Int) < m) :
    Calls Try.prog 33 #[.slice A n c, .int .i64 m] w fun e w' => e = .returned (.tuple #[.slice none 0 0, .int .i64 50]) ∧ Below w.heap.size w w' := by
  subst hn
  have HC := Lib.hid (check_client A c xs.length xs rfl w hl hv ha)
  clear ha hv
  rw [he] at HC
  clear he
  have hcs : m < 0 ∨ (¬ m < 0 ∧ (xs.length : Int) < m) := by omega
  clear hm
  rcases hcs with h | ⟨h1, h⟩
  all_goals
    try have h1' : decide (m < 0) = false := decide_eq_false h1
    try clear h1
    go_enter Try.func33, Try.ntmps33
    go_wp2_with fail
    refine HC.out.mono ?_
    rintro e w1 ⟨rfl, hb1⟩
    have HB1 := Lib.hid hb1
    clear hb1
    dsimp only
    go_wp2_with fail
    go_ret2
    exact ⟨rfl, HB1.out⟩

set_option maxRecDepth 100000 in
set_option maxHeartbeats 8000000 in
theorem table_ok (A : Option Addr) (c n : Nat) (xs : List Entry) (m : Nat) (hn : n = xs.length) (hc : n ≤ c) (w : World) (hv : ∀ x ∈ xs, x.op.value.size ≤ 9223372036854775807) (ha : Rd Entry.cells 5 w w.heap.size A xs) (he : logE xs 256 = 0) (hm : m ≤ xs.length) :
    Calls Try.prog 33 #[.slice A n c, .int .i64 m] w (MadeRows2 w (tableE xs m)) := by
  subst hn
  obtain ⟨hgd, hl⟩ := good_logE he
  have HGD := Lib.hid hgd
  have HC := Lib.hid (check_client A c xs.length xs rfl w (by omega) hv ha)
  rw [he] at HC
  have HR := Lib.hid (fun W (hW : Below w.heap.size w W) => rows_prog A c xs.length xs m rfl hm hc W hl hv ((ha.below hW).more hW.size))
  have HRL : Hid ((rowsD 0 [] (xs.take m)).length = m) := by show _ = _; rw [rowsD_length]; simp; omega
  have h1' : decide ((m : Int) < 0) = false := by simp
  have h2' : decide ((xs.length : Int) < (m : Int)) = false := by simp; omega
  have h2n : decide (xs.length < m) = false := by simp; omega
  have hmc : m ≤ c := by omega
  have HA := Lib.hid ha
  clear ha hv he hgd
  have hmm := @run_makeMap Try.prog
  go_enter Try.func33, Try.ntmps33
  go_wp2_with fail
  refine HC.out.mono ?_
  rintro e w1 ⟨rfl, hb1⟩
  have HB1 := Lib.hid hb1
  obtain ⟨W1, hW1⟩ : ∃ W1, W1 = w1.alloc (.map #[] 0) := ⟨_, rfl⟩
  have hb11 : Below w1.heap.size w1 W1 := by rw [hW1]; exact (Below.refl _ _).alloc (Nat.le_refl _) _
  have hmp : MapIs evR W1 w1.heap.size [] := by rw [hW1]; exact MapIs.new w1
  have HBW := Lib.hid (hb1.trans (hb11.mono hb1.size))
  have HMP := Lib.hid hmp
  have HW1 := Lib.hid hW1
  have HS1 : Hid (W1.heap.size = w1.heap.size + 1) := by show _ = _; rw [hW1]; simp
  have hw1 : w.heap.size ≤ w1.heap.size := hb1.size
  clear hb1 hb11 hmp hW1 HC
  dsimp only
  go_wp2_with fail
  rw [← HW1.out]
  clear hmm HW1 h1' h2' h2n
  refine (HR.out W1 HBW.out).mono ?_
  rintro e w2 ⟨v2, rfl, hm2, hb2⟩
  obtain ⟨A2, c2, rfl, hc2⟩ := hm2.form
  have HR2 := Lib.hid (hm2.rd' encRow.len)
  have HA2 : Hid (∀ ad, A2 = some ad → W1.heap.size ≤ ad.block) := fun ad e => by subst e; exact (hm2.lt ad.block rfl).1
  have HM2 := Lib.hid (HMP.out.same (hb2.block _ HMP.out.lt))
  have HB2 := Lib.hid (HBW.out.trans (hb2.mono HBW.out.size))
  rw [HRL.out]
  generalize hmb : w1.heap.size = mb at *
  have HMB : Hid (w.heap.size ≤ mb ∧ mb < W1.heap.size) := by have := HS1.out; show _ ∧ _; omega
  clear hm2 hb2 HR HBW HMP hmb HS1 hc2
  dsimp only
  go_wp2_with fail
  -- the rows that are carried out
  go_loopw [9, 33] (fun _ i wr => ∃ k : Nat, k ≤ m ∧ i = .int .i64 k ∧ Hid (∃ ps, MapIs evR wr mb ps ∧ tellsR ((rowsD 0 [] (xs.take m)).take k) ps) ∧ Hid (Kept (fun j => j = mb) w2 wr)) (fun _ i _ => m - (intOf i).toNat)
  case atStart => exact ⟨0, by omega, rfl, ⟨[], HM2.out, by rw [List.take_zero]; exact tellsR.nil⟩, Kept.refl _ _⟩
  case round =>
    obtain ⟨k, hk, rfl, hmr, hkr⟩ := hrel
    by_cases h1 : k < m
    · have hkl : k < (rowsD 0 [] (xs.take m)).length := by rw [HRL.out]; exact h1
      obtain ⟨ad, hAd, _, hca⟩ := (HR2.out.keptF hkr.out (fun ad e _ q => by have := HA2.out ad e; have := HMB.out; omega)).at_ hkl
      subst hAd
      have g1 : (k:Int) < (m : Int) := by omega
      obtain ⟨c0, cc1, cc2, c3, c4, c5, c6⟩ := hca.row
      have hst := Lib.hid (List.take_succ_eq_append_getElem hkl)
      obtain ⟨ps, hps, htl⟩ := hmr.out
      clear hca
      generalize (rowsD 0 [] (xs.take m))[k] = r at *
      have hps2 : MapIs evR (wr.alloc (.cells #[.int .i64 r.client, .int .i64 r.number, .int .i64 r.place, .bool r.done, .int .i64 r.res.code, .int .i64 r.res.slot, .string r.res.value] 90)) mb ps := hps.same (heap_alloc_old _ _ hps.lt)
      have HPS := Lib.hid hps2
      have HTL := Lib.hid htl
      have HMBW : Hid (mb < wr.heap.size) := hps.lt
      clear hps htl hmr hkl hps2
      go_wp2_with (at_mapUpdate; refine wpList_update (ev := evR) HPS.out rfl _ _ _ rfl undMapR undIntI rfl r.client rfl r rfl ?_; intro w4 hm4 hg4 hs4; have HM4 := Lib.hid hm4; have HG4 := Lib.hid hg4; clear hm4 hg4)
      go_roundw
      case rel =>
        refine ⟨k + 1, by omega, by go_num, ⟨_, HM4.out, ?_⟩, ?_⟩
        · rw [hst.out]; exact HTL.out.snoc r
        · exact (hkr.out.alloc _).trans ((Kept.of_grown HG4.out).mono fun j _ hj => by simpa using hj.symm)
      case measure => simp [intOf]; omega
    · have g1 : decide ((k:Int) < (m : Int)) = false := by simp; omega
      have g2 : decide (k < m) = false := by simp; omega
      rw [List.take_of_length_le (by rw [HRL.out]; omega)] at hmr
      have HL2 : Hid ((xs.drop m).length = xs.length - m) := by show _ = _; simp
      have HKR := Lib.hid hkr.out
      have HMR := Lib.hid hmr.out
      have HD : Hid (Rd Entry.cells 5 w w.heap.size (A.map (·.add (m * 5))) (xs.drop m)) := HA.out.drop m
      have hbr0 := HB2.out
      clear hkr hmr HA2 HR2 HM2 hk h1 hbr0
      -- 'log[commit:]' at the end of its room keeps the old address; then nothing comes
      obtain ⟨A9, c9, hsl, hA9⟩ : ∃ A9 c9, (∀ W : World, (Instr.slice 22 (.slice A xs.length c) (some (.int .i64 m)) none none).run Try.prog W = .ok (.slice A9 (xs.length - m) c9) W) ∧ (A9 = A.map (·.add (m * 5)) ∨ xs.length = m) := by
        have hu := Try.underlying22
        by_cases hcm : c = m
        · refine ⟨A, 0, fun W => ?_, .inr (by omega)⟩
          have e0 : xs.length - m = 0 := by omega
          subst hcm
          go_simp
        · have h3 : ¬ c = m := hcm
          cases A with
          | none =>
            have := HA.out.none_
            subst this
            have hm0 : m = 0 := by simpa using hm
            subst hm0
            refine ⟨none, c, fun W => ?_, .inr rfl⟩
            go_simp
          | some ad =>
            refine ⟨some (ad.add (m * 5)), c - m, fun W => ?_, .inl rfl⟩
            go_simp
      go_wp2_with (first | (rw [hsl]) | fail)
      clear hsl
      -- the rows of entries that are not carried out
      go_loopw [10, 11, 46] (fun _ _ i wq => ∃ k : Nat, k ≤ xs.length - m ∧ i = .int .i64 k ∧ Hid (∃ ps, MapIs evR wq mb ps ∧ tellsR (rowsD 0 [] (xs.take m) ++ (rowsP m (xs.drop m)).take k) ps) ∧ Hid (Kept (fun j => j = mb) wr wq)) (fun _ _ i _ => xs.length - m - (intOf i).toNat)
      case atStart => exact ⟨0, by omega, rfl, (by rw [List.take_zero, List.append_nil]; exact HMR.out), Kept.refl _ _⟩
      case round =>
        obtain ⟨k, hk, rfl, hmr, hkr⟩ := hrel
        by_cases h1 : k < xs.length - m
        · have hkl : k < (xs.drop m).length := by rw [HL2.out]; exact h1
          have hA9 := hA9.resolve_right (by omega)
          subst hA9
          obtain ⟨ad1, hAd1, hbl1, hq1⟩ := HD.out.at_ hkl
          clear hq1
          obtain ⟨ad0, hAd, hq2, hca⟩ := (((HD.out.below HB2.out).more HB2.out.size).keptF ((HKR.out.trans hkr.out)) (fun ad e hb q => by have q' : ad.block = mb := q; have := HMB.out; have hbb : ad.block < w.heap.size := (by rw [e] at hAd1; cases hAd1; exact hbl1); omega)).at_ hkl
          clear hq2
          have he0 : ad0 = ad1 := by rw [hAd1] at hAd; exact (Option.some.inj hAd).symm
          subst he0
          clear hAd
          have hg1 := rowsP_take (xs := xs) (m := m) (k := k) (by omega)
          have hdr : (xs.drop m)[k] = xs[m + k]'(by omega) := by simp
          rw [hdr] at hca
          have g1 : (k:Int) < ((xs.length - m : Nat) : Int) := by omega
          obtain ⟨c0, cc1, c2, c3, c4⟩ := hca.five
          have hst := Lib.hid hg1
          obtain ⟨ps, hps, htl⟩ := hmr.out
          have hmk : m + k < xs.length := by omega
          have k1 : IntKind.i64.wrap ((m : Int) + k) = (m : Int) + k := IntWalk.i64_in _ (by omega)
          have k2 : IntKind.i64.wrap ((m : Int) + k + 1) = (m : Int) + k + 1 := IntWalk.i64_in _ (by omega)
          clear hca hg1 hdr
          generalize xs[m + k] = r at *
          have hps2 : MapIs evR (wr.alloc (.cells #[.int .i64 r.client, .int .i64 r.number, .int .i64 r.op.kind, .int .i64 r.op.slot, .string r.op.value] 32)) mb ps := hps.same (heap_alloc_old _ _ hps.lt)
          have HPS := Lib.hid hps2
          have HTL := Lib.hid htl
          have HMBW : Hid (mb < wr.heap.size) := hps.lt
          clear hps htl hmr hkl hps2
          go_wp2_with (at_mapUpdate; refine wpList_update (ev := evR) HPS.out rfl _ _ _ rfl undMapR undIntI rfl r.client rfl ⟨r.client, r.number, (m : Int) + k + 1, false, zeroR⟩ rfl ?_; intro w4 hm4 hg4 hs4; have HM4 := Lib.hid hm4; have HG4 := Lib.hid hg4; clear hm4 hg4)
          go_roundw
          case rel =>
            refine ⟨_, _, .int .i64 ((k : Int) + 1), ⟨k + 1, by omega, by go_num, ⟨_, HM4.out, ?_⟩, ?_⟩, rfl, rfl, rfl⟩
            · rw [hst.out, ← List.append_assoc]; exact HTL.out.snoc _
            · exact (hkr.out.alloc _).trans ((Kept.of_grown HG4.out).mono fun j _ hj => by simpa using hj.symm)
          case measure => simp [intOf]; omega
        · have g1 : decide ((k:Int) < ((xs.length - m : Nat) : Int)) = false := by simp; omega
          have g2 : decide (k < xs.length - m) = false := by simp; omega
          have e9 := List.take_of_length_le (show (rowsP m (xs.drop m)).length ≤ k by rw [rowsP_length, HL2.out]; omega)
          rw [e9] at hmr
          clear e9
          have HMR3 : Hid (∃ ps, MapIs evR wr mb ps ∧ tellsR (allR xs m) ps) := hmr.out
          have HK3 := Lib.hid (HKR.out.trans hkr.out)
          obtain ⟨ps, hps, htl⟩ := HMR3.out
          have HPM := Lib.hid (table_perm HGD.out hm hps.nodup htl)
          clear hA9 hkr hmr HMR HKR HMR3 h1 hk htl
          have hpl : ps.length ≤ 16 := by have h1 := HPM.out.length_eq; have h2 := tableE_length xs m; simp at h1; omega
          have hml : mb < wr.heap.size := hps.lt
          have HB3 : Hid (Below w.heap.size w wr) := Kept.ledger_below5 HB2.out HK3.out (fun j q => by have := HMB.out; subst q; omega)
          have HHP := Lib.hid hps
          clear hps HK3 HB2
          go_wp2_with (with_reducible refine at_range ?_; go_loud (refine wpList_rangeM HHP.out rfl (.tmp 64) rfl undMapR rfl ?_); intro w1 hr1 hb1 hs1)
          go_simp
          have HR1 := Lib.hid hr1
          have HSW : Hid (w.heap.size ≤ wr.heap.size) := HB3.out.size
          have HB1 := Lib.hid (HB3.out.trans (hb1.mono HSW.out))
          clear hr1 hb1 hs1 HHP
          obtain ⟨w3, hw3⟩ : ∃ w3, w3 = wr := ⟨_, rfl⟩
          rw [← hw3] at HR1 HSW HB3 hml ⊢
          clear hw3
          go_loopg [12, 14] ps.length (fun g o _ wq => ∃ (done left : List (Int × Row)) (A1 : Option Addr) (c1 : Nat), g = left.length ∧ o = .slice A1 done.length c1 ∧ Hid (Made Row.cells 7 90 w.heap.size wq (.slice A1 done.length c1) (done.map (·.2))) ∧ Hid (RangeIs evR wq mb w3.heap.size ps left) ∧ Hid ((done ++ left).Perm ps) ∧ Hid (Below w.heap.size w wq))
          case atStart => exact ⟨[], ps, none, 0, rfl, rfl, Made.nil _ _ _, HR1.out, List.Perm.refl _, HB1.out⟩
          case round =>
            clear HR1 HB1
            obtain ⟨done, left, A1, c1, hgk, rfl, hmd, hR, hpm, hbr⟩ := hrel
            have hdl : done.length ≤ 16 := by have := hpm.out.length_eq; simp at this; omega
            have hdm : Hid ((done.map (·.2)).length = done.length) := List.length_map _
            cases left with
            | nil =>
              have hpd : Hid (done.Perm ps) := by have := hpm.out; rwa [List.append_nil] at this
              have hpc : Hid ((done.map (·.2)).Perm (tableE xs m)) := (hpd.out.map _).trans HPM.out
              have HRo := hR.out
              go_wp2_with (with_reducible refine at_next ?_; refine wpList_nextM HRo rfl (.tmp 65) rfl rfl (fun _ => ?_) (fun k u l' w' hp => absurd hp.length_eq (by simp)))
              clear HRo
              by_cases h0 : done.length = 0
              · have hd0 : done = [] := List.eq_nil_of_length_eq_zero h0
                subst hd0
                have hcs : Hid (tableE xs m = []) := by have := hpc.out.length_eq; exact List.eq_nil_of_length_eq_zero this.symm
                refine (sortNoneR A1 c1 _ wr).mono ?_
                rintro e w0 ⟨rfl, hw0⟩
                rw [hw0]
                clear hw0 w0
                have HMD := Lib.hid hmd.out
                clear hR hpm hpd hpc hmd
                dsimp only
                go_wp2_with fail
                go_ret2
                rw [hcs.out]
                exact ⟨_, _, rfl, HMD.out, hbr.out⟩
              · have hgd : ∀ x ∈ done.map (·.2), GoodR x := fun x hx => tableE_good x (hpc.out.mem_iff.1 hx)
                obtain ⟨g, hA1⟩ : ∃ g, A1 = some ⟨g, 0, none⟩ := by
                  rcases hmd.out.2 with ⟨e, hn⟩ | ⟨g, _, _, e, _⟩
                  · rw [hdm.out] at hn; exact absurd hn h0
                  · injection e with e1 e2 e3
                    exact ⟨g, e1⟩
                subst hA1
                have hbg := (hmd.out.lt g rfl).1
                have hmd' := hmd.out
                clear hmd hR hpm hpd
                generalize done.map (·.2) = rs at *
                generalize done.length = n at *
                have en := hdm.out
                clear hdm
                subst en
                refine (sortRows g c1 rs w.heap.size wr hgd (by omega) hmd').mono ?_
                rintro e w6 ⟨rfl, ys, hys, hsd, hm6, hk6⟩
                have HB6 : Hid (Below w.heap.size w w6) := hbr.out.trans (hk6.below hbr.out.size (fun q e => by omega))
                have HYS := Lib.hid (hys.trans hpc.out)
                have HSD := Lib.hid hsd
                have HYL := Lib.hid hys.length_eq
                have HM6 := Lib.hid hm6
                clear hm6 hk6 hpc hmd' hys hsd hbr
                dsimp only
                go_wp2_with fail
                go_ret2
                have e := table_sorted HYS.out HSD.out
                have el : (tableE xs m).length = rs.length := by rw [← e]; exact HYL.out
                have hm6 := HM6.out
                rw [e, ← el] at hm6
                refine ⟨some ⟨g, 0, none⟩, c1, ?_, hm6, HB6.out⟩
                rw [el]
                rfl
            | cons p0 left0 =>
              have hne : p0 :: left0 ≠ [] := by simp
              have hq : ∀ q, (Value.slice A1 done.length c1).ownBlock = some q → q ≠ w3.heap.size := fun q hq e => by
                obtain ⟨cs', hcs⟩ := hmd.out.cell_block hq
                obtain ⟨es, cl, si, se, c0', _, _, _, _, _, hrr, _⟩ := hR.out
                subst e
                rw [hcs] at hrr; cases hrr
              have HQ := Lib.hid hq
              have hRo := hR.out
              have HRM := Lib.hid hR.out.map
              have HBR := hbr
              have hsz3 : w.heap.size ≤ wr.heap.size := hbr.out.size
              clear hq hR
              go_wp2_with (first
                | (with_reducible refine at_next ?_; refine wpList_nextM hRo rfl (.tmp 65) rfl rfl (fun h => absurd h hne) (fun k u left' w2 hp2 hR2 hg2 hs2 hent => ?_)
                   have hmd2 : Made Row.cells 7 90 w.heap.size w2 (.slice A1 done.length c1) (done.map (·.2)) := hmd.out.same fun q hq => hg2.block q (hmd.out.lt q hq).2 (fun e => HQ.out q hq (by cases e; rfl))
                   have hmd4 := Lib.hid ((hmd2.alloc (.cells #[.int .i64 u.client, .int .i64 u.number, .int .i64 u.place, .bool u.done, .int .i64 u.res.code, .int .i64 u.res.slot, .string u.res.value] 90)).alloc (.cells #[.int .i64 u.client, .int .i64 u.number, .int .i64 u.place, .bool u.done, .int .i64 u.res.code, .int .i64 u.res.slot, .string u.res.value] 90))
                   have hrd4 : Hid (Rd Row.cells 7 ((w2.alloc (.cells #[.int .i64 u.client, .int .i64 u.number, .int .i64 u.place, .bool u.done, .int .i64 u.res.code, .int .i64 u.res.slot, .string u.res.value] 90)).alloc (.cells #[.int .i64 u.client, .int .i64 u.number, .int .i64 u.place, .bool u.done, .int .i64 u.res.code, .int .i64 u.res.slot, .string u.res.value] 90)) (wr.heap.size + 1 + 1) (some ⟨wr.heap.size + 1, 0, none⟩) [u]) := by
                     have h := rd_one encRow (w2.alloc (.cells #[.int .i64 u.client, .int .i64 u.number, .int .i64 u.place, .bool u.done, .int .i64 u.res.code, .int .i64 u.res.slot, .string u.res.value] 90)) u #[.int .i64 u.client, .int .i64 u.number, .int .i64 u.place, .bool u.done, .int .i64 u.res.code, .int .i64 u.res.slot, .string u.res.value] rfl 90
                     rw [show (w2.alloc (.cells #[.int .i64 u.client, .int .i64 u.number, .int .i64 u.place, .bool u.done, .int .i64 u.res.code, .int .i64 u.res.slot, .string u.res.value] 90)).heap.size = wr.heap.size + 1 by simp [hs2]] at h
                     exact h
                   have HR2 := Lib.hid hR2
                   have HP2 := Lib.hid hp2
                   have HG2 := Lib.hid hg2
                   clear hR2 hp2 hg2 hmd2 hRo
                   simp only [evR] at hent ⊢)
                | (at_builtin; go_loud (refine wpList_app (v := .slice A1 done.length c1) (xs := done.map (·.2)) (ys := [u]) rowRow encRow rfl (.tmp 70) (.tmp 72) rfl w.heap.size rfl hmd4.out rfl rfl hrd4.out (by rw [hdm.out]; simp only [List.length_singleton]; omega) (by rw [hdm.out]; unfold maxLen; simp only [List.length_singleton]; omega) (by simp; omega) ?_)
                   intro v5 w5 hm5 hg5 hat5))
              go_roundg left'.length
              case rel =>
                have hb2 : Below w.heap.size w w2 := HBR.out.grown HG2.out hsz3 (fun q e => by cases e; exact HSW.out)
                have hsz2 : w.heap.size ≤ w2.heap.size := hb2.size
                have hb4 := (hb2.alloc hsz2 (.cells #[.int .i64 u.client, .int .i64 u.number, .int .i64 u.place, .bool u.done, .int .i64 u.res.code, .int .i64 u.res.slot, .string u.res.value] 90)).alloc (by simp; omega) (.cells #[.int .i64 u.client, .int .i64 u.number, .int .i64 u.place, .bool u.done, .int .i64 u.res.code, .int .i64 u.res.slot, .string u.res.value] 90)
                have hown : ∀ q, (Value.slice A1 done.length c1).ownBlock = some q → w.heap.size ≤ q ∧ q < w2.heap.size := fun q hq => by have := hmd.out.lt q hq; omega
                have hr2 := HR2.out.lt
                have hml' := hml
                have hnm : ∀ q, (Value.slice A1 done.length c1).ownBlock = some q → q ≠ mb := fun q hq e => by
                  obtain ⟨cs', hcs⟩ := hmd.out.cell_block hq
                  have hmp := HRM.out
                  subst e
                  obtain ⟨es, cl, hmm, _⟩ := hmp
                  rw [hcs] at hmm; cases hmm
                have hb5 : Below w.heap.size w w5 := hb4.grown hg5 hb4.size (fun q e => (hown q e).1)
                have hR5 : RangeIs evR w5 mb w3.heap.size ps left' := by
                  refine HR2.out.same ?_ ?_
                  · rw [hg5.block mb (by simp; omega) (fun e => hnm mb e.symm rfl), heap_alloc_old _ _ (by simp; omega), heap_alloc_old _ _ (by omega)]
                  · rw [hg5.block w3.heap.size (by simp; omega) (fun e => HQ.out _ e.symm rfl), heap_alloc_old _ _ (by simp; omega), heap_alloc_old _ _ (by omega)]
                obtain ⟨A5, c5, rfl, hc5⟩ := hm5.form
                have e5 : done.map (·.2) ++ [u] = (done ++ [(k, u)]).map (·.2) := by simp
                have e6 : (done.map (·.2) ++ [u]).length = (done ++ [(k, u)]).length := by simp
                rw [e6, e5] at hm5
                refine ⟨done ++ [(k, u)], left', A5, c5, rfl, by rw [e6], hm5, hR5, ?_, hb5⟩
                have h1 := hpm.out
                refine List.Perm.trans ?_ h1
                rw [List.append_assoc]
                exact (List.Perm.append_left done HP2.out.symm)
              case measure => have := HP2.out.length_eq; simp at this; simp at hgk; omega
end Go.Proofs.Ytnfilklgogaheaa

namespace Go.Proofs.Ytnfilklgogaheaa
open Go.RowKit
set_option linter.unusedVariables false
set_option linter.unusedSimpArgs false

def tabK (xs : List Entry) (m k : Nat) : List Row := (List.range k).filterMap fun (c : Nat) => lastR (allR xs m) c
theorem tabK_16 (xs : List Entry) (m : Nat) : tabK xs m 16 = tableE xs m := rfl
theorem tabK_length (xs : List Entry) (m k : Nat) : (tabK xs m k).length ≤ k := by
  unfold tabK
  exact Nat.le_trans (List.length_filterMap_le _ _) (by simp)
theorem tabK_none {xs : List Entry} {m k : Nat} (hm : m ≤ xs.length) (h : lastP xs k = 0) : tabK xs m (k + 1) = tabK xs m k := by
  unfold tabK
  rw [List.range_succ, List.filterMap_append]
  have := lastR_row hm (k : Int)
  rw [dif_pos h] at this
  simp [this]
theorem tabK_some {xs : List Entry} {m k p : Nat} (hm : m ≤ xs.length) (h : lastP xs k = p + 1) (hp : p < xs.length) : tabK xs m (k + 1) = tabK xs m k ++ [rowOf xs m p hp] := by
  unfold tabK
  rw [List.range_succ, List.filterMap_append]
  have := lastR_row hm (k : Int)
  rw [dif_neg (by omega)] at this
  have e : rowOf xs m (lastP xs k - 1) (by omega) = rowOf xs m p hp := by congr 1; omega
  simp [this, e]

set_option maxRecDepth 100000 in
theorem table_refBad (A : Option Addr) (c n : Nat) (xs : List Entry) (m : Int) (hn : n = xs.length) (w : World) (hl : xs.length ≤ 9223372036854775806) (hv : ∀ x ∈ xs, x.op.value.size ≤ 9223372036854775807) (ha : Rd Entry.cells 5 w w.heap.size A xs) (he : withinE xs m ≠ 0) :
    Calls Try.prog 34 #[.slice A n c, .int .i64 m] w fun e w' => e = .returned (.tuple #[.slice none 0 0, .int .i64 (withinE xs m)]) ∧ Below w.heap.size w w' := by
  subst hn
  have HC := Lib.hid (within_ref5 A c xs.length xs m rfl w hl hv ha)
  clear ha hv hl
  generalize withinE xs m = q at *
  have h1 : (q != 0) = true := by simpa using he
  clear he
  go_enter Try.func34, Try.ntmps34
  go_wp2_with fail
  refine HC.out.mono ?_
  rintro e w1 ⟨rfl, hb1⟩
  have HB1 := Lib.hid hb1
  clear hb1
  dsimp only
  go_wp2_with fail
  go_ret2
  exact ⟨rfl, HB1.out⟩

set_option maxRecDepth 100000 in
set_option maxHeartbeats 600000 in
theorem table_refOk (A : Option Addr) (c n : Nat) (xs : List Entry) (m : Nat) (hn : n = xs.length) (w : World) (hl : (xs.length + 1) * 48 ≤ 140737488355328) (hv : ∀ x ∈ xs, x.op.value.size ≤ 9223372036854775807) (ha : Rd Entry.cells 5 w w.heap.size A xs) (he : withinE xs m = 0) (hm : m ≤ xs.length) :
    Calls Try.prog 34 #[.slice A n c, .int .i64 m] w (MadeRows2 w (tableE xs m)) := by
  subst hn
  have HC := Lib.hid (within_ref5 A c xs.length xs m rfl w (by omega) hv ha)
  rw [he] at HC
  have HA := Lib.hid ha
  have HV := Lib.hid hv
  clear ha hv he
  go_enter Try.func34, Try.ntmps34
  go_wp2_with fail
  refine HC.out.mono ?_
  rintro e w1 ⟨rfl, hb1⟩
  have HB1 := Lib.hid hb1
  clear hb1 HC
  dsimp only
  go_wp2_with fail
  go_loopg [7, 8, 9] 16 (fun g o i _ wr => ∃ (k l : Nat) (A1 : Option Addr) (c1 : Nat), g + k = 16 ∧ i = .int .i64 k ∧ l = (tabK xs m k).length ∧ o = .slice A1 l c1 ∧ Hid (Made Row.cells 7 90 w.heap.size wr (.slice A1 l c1) (tabK xs m k)) ∧ Hid (Below w.heap.size w wr))
  case atStart => exact ⟨0, 0, none, 0, rfl, rfl, rfl, rfl, Made.nil _ _ _, HB1.out⟩
  case round =>
    obtain ⟨k, l, A1, c1, hgk, rfl, hll, rfl, hmd, hbr⟩ := hrel
    have hl16 : l ≤ k := by rw [hll]; exact tabK_length _ _ _
    by_cases h1 : k < 16
    · have g1 : decide ((k:Int) < 16) = true := decide_eq_true (by omega)
      have HLA := Lib.hid (last_ref5 A c xs.length xs (k : Int) rfl wr (by omega) ((HA.out.below hbr.out).more hbr.out.size))
      have hlp := lastP_le xs (k : Int)
      obtain ⟨pl, hpl⟩ : ∃ pl, pl = lastP xs (k : Int) := ⟨_, rfl⟩
      rw [← hpl] at HLA hlp
      go_wp2_with fail
      refine HLA.out.mono ?_
      rintro e w2 ⟨rfl, hw2⟩
      rw [← hw2]
      clear hw2 w2 HLA
      by_cases h0 : pl = 0
      · subst h0
        dsimp only
        go_wp2_with fail
        go_roundg (16 - (k + 1))
        case rel =>
          have e := tabK_none hm hpl.symm
          refine ⟨k + 1, l, A1, c1, by omega, by go_num, by rw [e]; exact hll, rfl, ?_, hbr⟩
          rw [e]
          exact hmd
        case measure => omega
      · obtain ⟨p, hpp⟩ : ∃ p, pl = p + 1 := ⟨pl - 1, by omega⟩
        have hp : p < xs.length := by omega
        have hst := Lib.hid (tabK_some hm (hpl.symm.trans hpp) hp)
        clear hpl
        have g2 : decide ((0:Int) < (pl : Int)) = true := decide_eq_true (by omega)
        have g2b : decide (0 < pl) = true := decide_eq_true (by omega)
        have HPP : Hid (pl = p + 1) := hpp
        clear hpp
        dsimp only
        by_cases h2 : p < m
        · have g3 : decide ((pl : Int) ≤ (m : Int)) = true := decide_eq_true (by have := HPP.out; omega)
          have g3a : decide (pl ≤ m) = true := decide_eq_true (by have := HPP.out; omega)
          have HRW := Lib.hid (row_ref5T A c xs.length xs pl p HPP.out rfl hp wr hl HV.out ((HA.out.below hbr.out).more hbr.out.size) _ rfl)
          go_wp2_with fail
          with_reducible refine HRW.out.mono ?_
          rintro e w2 ⟨rfl, hb2⟩
          have hro : rowOf xs m p hp = ⟨xs[p].client, xs[p].number, (pl : Int), true, would (playC [] (opsOf (xs.take p))) xs[p].op⟩ := by unfold rowOf; simp [h2, HPP.out]
          rw [hro] at hst
          have HB2 := Lib.hid (hbr.out.trans (hb2.mono hbr.out.size))
          have HM2 := Lib.hid (hmd.out.below hb2 fun q e => (hmd.out.lt q e).2)
          have HTL : Hid ((tabK xs m k).length = l) := hll.symm
          clear hro hb2 HRW hmd hbr hll
          generalize xs[p].client = x1 at *
          generalize xs[p].number = x2 at *
          generalize would (playC [] (opsOf (xs.take p))) xs[p].op = r at *
          dsimp only
          go_wp2_with (at_builtin; go_loud (refine wpList_app (v := .slice A1 l c1) (xs := tabK xs m k) (ys := [⟨x1, x2, (pl : Int), true, r⟩]) rowRow encRow rfl (.tmp 25) (.tmp 32) rfl w.heap.size rfl (by exact HM2.out.alloc _) rfl rfl (by exact rd_one encRow w2 ⟨x1, x2, (pl : Int), true, r⟩ #[.int .i64 x1, .int .i64 x2, .int .i64 (pl : Int), .bool true, .int .i64 r.code, .int .i64 r.slot, .string r.value] rfl 90) (by rw [HTL.out]; simp only [List.length_singleton]; omega) (by rw [HTL.out]; unfold maxLen; simp only [List.length_singleton]; omega) (by have := HB2.out.size; simp; omega) ?_)
                       intro v5 w5 hm5 hg5 hat5)
          go_roundg (16 - (k + 1))
          case rel =>
            rw [← hst.out] at hm5
            obtain ⟨A5, c5, rfl, hc5⟩ := hm5.form
            have hb5 : Below w.heap.size w w5 := (HB2.out.alloc HB2.out.size _).grown hg5 (by simp; have := HB2.out.size; omega) (fun q e => (HM2.out.lt q e).1)
            exact ⟨k + 1, _, A5, c5, by omega, by go_num, rfl, rfl, hm5, hb5⟩
          case measure => omega
        · have g3 : decide ((pl : Int) ≤ (m : Int)) = false := decide_eq_false (by have := HPP.out; omega)
          have g3a : decide (pl ≤ m) = false := decide_eq_false (by have := HPP.out; omega)
          have HRW := Lib.hid (row_ref5F A c xs.length xs pl p HPP.out rfl hp wr (by omega) ((HA.out.below hbr.out).more hbr.out.size))
          go_wp2_with fail
          with_reducible refine HRW.out.mono ?_
          rintro e w2 ⟨rfl, hb2⟩
          have hro : rowOf xs m p hp = ⟨xs[p].client, xs[p].number, (pl : Int), false, zeroR⟩ := by unfold rowOf; simp [h2, HPP.out]
          rw [hro] at hst
          have HB2 := Lib.hid (hbr.out.trans (hb2.mono hbr.out.size))
          have HM2 := Lib.hid (hmd.out.below hb2 fun q e => (hmd.out.lt q e).2)
          have HTL : Hid ((tabK xs m k).length = l) := hll.symm
          clear hro hb2 HRW hmd hbr hll
          generalize xs[p].client = x1 at *
          generalize xs[p].number = x2 at *
          dsimp only
          go_wp2_with (at_builtin; go_loud (refine wpList_app (v := .slice A1 l c1) (xs := tabK xs m k) (ys := [⟨x1, x2, (pl : Int), false, zeroR⟩]) rowRow encRow rfl (.tmp 25) (.tmp 32) rfl w.heap.size rfl (by exact HM2.out.alloc _) rfl rfl (by exact rd_one encRow w2 ⟨x1, x2, (pl : Int), false, zeroR⟩ #[.int .i64 x1, .int .i64 x2, .int .i64 (pl : Int), .bool false, .int .i64 0, .int .i64 0, .string ⟨#[]⟩] rfl 90) (by rw [HTL.out]; simp only [List.length_singleton]; omega) (by rw [HTL.out]; unfold maxLen; simp only [List.length_singleton]; omega) (by have := HB2.out.size; simp; omega) ?_)
                       intro v5 w5 hm5 hg5 hat5)
          go_roundg (16 - (k + 1))
          case rel =>
            rw [← hst.out] at hm5
            obtain ⟨A5, c5, rfl, hc5⟩ := hm5.form
            have hb5 : Below w.heap.size w w5 := (HB2.out.alloc HB2.out.size _).grown hg5 (by simp; have := HB2.out.size; omega) (fun q e => (HM2.out.lt q e).1)
            exact ⟨k + 1, _, A5, c5, by omega, by go_num, rfl, rfl, hm5, hb5⟩
          case measure => omega
    · have g1 : decide ((k:Int) < 16) = false := decide_eq_false (by omega)
      obtain rfl : k = 16 := by omega
      subst hll
      go_wp2_with fail
      go_ret2
      exact ⟨_, _, rfl, hmd.out, hbr.out⟩
end Go.Proofs.Ytnfilklgogaheaa

namespace Go.Proofs.Ytnfilklgogaheaa
open Go.RowKit
set_option linter.unusedVariables false
set_option linter.unusedSimpArgs false

section
variable {α : Type} {enc : α → List Value} {k : Nat}
theorem rd_many (E : Enc enc k) (w : World) (xs : List α) (hx : 0 < xs.length) (cs : Array Value) (hcs : cs.toList = flat enc xs) (t' : TypeId) : Rd enc k (w.alloc (.cells cs t')) (w.heap.size + 1) (some ⟨w.heap.size, 0, none⟩) xs := by
  refine Rd.of_flat E.len (by simp) ?_
  intro j u hu
  have hadd : (⟨w.heap.size, 0, none⟩ : Addr).add j = ⟨w.heap.size, j, none⟩ := by unfold Addr.add; split <;> simp_all
  rw [hadd, cell_of_row (w.alloc (.cells cs t')) w.heap.size j cs t' (0, 0) (heap_alloc_new w _)]
  rw [← hcs] at hu
  simpa using hu
end
def aliveL : List Entry := [⟨1, 1, ⟨1, 7, ⟨#[97]⟩⟩⟩, ⟨2, 5, ⟨1, 7, ⟨#[98]⟩⟩⟩, ⟨1, 2, ⟨3, 7, ⟨#[]⟩⟩⟩]
def aliveR : List Row := [⟨1, 2, 3, false, ⟨0, 0, ⟨#[]⟩⟩⟩, ⟨2, 5, 2, true, ⟨2, 7, ⟨#[97]⟩⟩⟩]
theorem alive_log : logE aliveL 256 = 0 := by decide
theorem alive_table : tableE aliveL 2 = aliveR := by kernel_rfl
theorem sizeOp5 : (Try.prog.info? 30).map (·.size) = some 3 := by kernel_rfl
theorem op_end {fn : Func} {p : Tmp} (hres : fn.results = #[.cell p 30]) {R : Ending → World → Prop} {a : Act} {w : World} {B : Nat} {r : Op} {T : TypeId} (hp : a.tmps.getD p undef = .pointer (some ⟨B, 0, none⟩)) (hd : a.defers = [])
    (h : w.heap[B]? = some (.cells #[.int .i64 r.kind, .int .i64 r.slot, .string r.value] T (0, 0))) (hR : R (.returned (.agg #[.int .i64 r.kind, .int .i64 r.slot, .string r.value])) w) : bodyPost Try.prog fn R .ret a w :=
  bodyPost_ret (results_cell_row hres a.tmps w B T _ (0, 0) _ hp h Try.underlying30 rfl sizeOp5) hd hR
theorem write05 (s : Int) (v : ByteArray) (w : World) :
    Calls Try.prog 46 #[.int .i64 s, .string v] w fun e w' => e = .returned (.agg #[.int .i64 1, .int .i64 s, .string v]) ∧ Below w.heap.size w w' := by
  go_enter Try.func46, Try.ntmps46
  go_wp2
  exact op_end (r := ⟨1, s, v⟩) Try.results46 rfl rfl (B := w.heap.size) (T := 30) (heap_alloc_new _ _) ⟨rfl, (Below.refl _ _).alloc (Nat.le_refl _) _⟩
theorem num05 (x : Int) (w : World) : Calls Try.prog 35 #[.int .i64 x] w fun e w' => e = .returned (.int .i64 x) ∧ w = w' := by
  go_enter Try.func35, Try.ntmps35
  go_wp2
  go_ret
  exact ⟨rfl, rfl⟩
set_option maxRecDepth 100000 in
theorem three05 (w : World) : Calls Try.prog 76 #[] w fun e w' => ∃ b, e = .returned (.slice (some ⟨b, 0, none⟩) 3 3) ∧ Rd Entry.cells 5 w' w'.heap.size (some ⟨b, 0, none⟩) aliveL ∧ Below w.heap.size w w' := by
  go_enter Try.func76, Try.ntmps76
  go_wp2_with fail
  refine (write05 _ _ _).mono ?_
  rintro e w1 ⟨rfl, hb1⟩
  dsimp only
  go_wp2_with fail
  refine (write05 _ _ _).mono ?_
  rintro e w2 ⟨rfl, hb2⟩
  dsimp only
  go_wp2_with fail
  have hb := hb1.trans (hb2.mono hb1.size)
  go_ret
  refine ⟨_, rfl, ?_, hb.alloc hb.size _⟩
  have h := rd_many encEntry w2 aliveL (by decide) #[.int .i64 1, .int .i64 1, .int .i64 1, .int .i64 7, .string ⟨#[97]⟩, .int .i64 2, .int .i64 5, .int .i64 1, .int .i64 7, .string ⟨#[98]⟩, .int .i64 1, .int .i64 2, .int .i64 3, .int .i64 7, .string ⟨#[]⟩] rfl 32
  exact h.more (by simp)
set_option maxRecDepth 100000 in
set_option maxHeartbeats 2000000 in
theorem alive05 (w : World) : Calls Try.prog 37 #[] w fun e w' => e = .returned (.bool true) ∧ Below w.heap.size w w' := by
  go_enter Try.func37, Try.ntmps37
  go_wp2_with fail
  refine (three05 _).mono ?_
  rintro e w1 ⟨b, rfl, hr1, hb1⟩
  dsimp only
  go_wp2_with fail
  refine (table_ok _ _ _ aliveL 2 rfl (by decide) w1 (by decide) hr1 alive_log (by decide)).mono ?_
  rintro e w2 ⟨A2, c2, rfl, hm2, hb2⟩
  rw [alive_table] at *
  have hbw := hb1.trans (hb2.mono hb1.size)
  dsimp only
  go_wp2_with fail
  refine (num05 _ _).mono ?_
  rintro e w3 ⟨rfl, hw3⟩
  rw [← hw3]
  clear hw3 w3
  obtain ⟨W3, hW3⟩ : ∃ W3, W3 = w2.alloc (.cells #[.int .i64 1, .int .i64 2, .int .i64 3, .bool false, .int .i64 0, .int .i64 0, .string ⟨#[]⟩, .int .i64 2, .int .i64 5, .int .i64 2, .bool true, .int .i64 2, .int .i64 7, .string ⟨#[97]⟩] 90) := ⟨_, rfl⟩
  have hr3 := rd_many encRow w2 aliveR (by decide) #[.int .i64 1, .int .i64 2, .int .i64 3, .bool false, .int .i64 0, .int .i64 0, .string ⟨#[]⟩, .int .i64 2, .int .i64 5, .int .i64 2, .bool true, .int .i64 2, .int .i64 7, .string ⟨#[97]⟩] rfl 90
  have hb3 : Below w2.heap.size w2 W3 := by rw [hW3]; exact (Below.refl _ _).alloc (Nat.le_refl _) _
  have hs3 : W3.heap.size = w2.heap.size + 1 := by rw [hW3]; simp
  rw [← hW3] at hr3
  have hbw3 := hbw.trans (hb3.mono hbw.size)
  have hs := sameRowsTrue A2 (some ⟨w2.heap.size, 0, none⟩) c2 2 2 aliveR rfl W3 (by decide) (((hm2.rd' encRow.len).below hb3).more hb3.size) (hr3.more (by omega))
  have ea : aliveR.length = 2 := rfl
  rw [ea]
  clear hr3 hm2
  dsimp only
  go_wp2_with fail
  rw [← hW3]
  refine hs.mono ?_
  rintro e w4 ⟨rfl, q, rfl⟩
  dsimp only
  go_wp2_with fail
  go_ret
  refine ⟨rfl, ?_⟩
  rw [hW3] at hbw3
  exact below_drewN hbw3 q
end Go.Proofs.Ytnfilklgogaheaa
