/- slices.SortFunc at the program's own cells, as ledger.Cells calls it: a row of cells of the call's own, then rising by slot. Conditions: the cells are good ones (slots below 1024). -/
import Derived.Test.YtmfidhlhcochoaaSortLay
import Derived.Test.YtmfidhlhcochoaaCells
import Derived.Test.YtmfidhlhcochoaaApp
import Derived.WalkKit
namespace Go.Proofs.Ytmfidhlhcochoaa
open Go.Shelf Go.RowKit Go.Lib Go.Sort
set_option linter.unusedVariables false
set_option linter.unusedSimpArgs false

abbrev GC := { c : Cell // Good c }
instance : Inhabited GC := ⟨⟨⟨0, emp⟩, by unfold Good; decide⟩⟩
def encG (x : GC) : List Value := x.1.cells
def cfG (x y : GC) : Int := x.1.slot - y.1.slot
theorem ltG (x y : GC) : ltOf cfG x y = decide (x.1.slot < y.1.slot) := by
  unfold ltOf cfG
  congr 1
  rw [eq_iff_iff]
  omega
theorem swoG : SWO (ltOf cfG) where
  irrefl x := by rw [ltG]; simp
  trans x y z h1 h2 := by rw [ltG] at *; simp at *; omega
  ntrans x y z h1 h2 := by rw [ltG] at *; simp at *; omega
/-- The comparison that Cells hands over. -/
theorem cmpCells (x y : GC) (W : World) : Calls Try.prog 98 #[.agg #[.int .i64 x.1.slot, .string x.1.value], .agg #[.int .i64 y.1.slot, .string y.1.value]] W fun e w' => e = .returned (.int .i64 (cfG x y)) ∧ ∃ q os', w' = grow (W.drewN q) os' := by
  obtain ⟨x, hx0, hx1, hx2⟩ := x
  obtain ⟨y, hy0, hy1, hy2⟩ := y
  have e : cfG ⟨x, hx0, hx1, hx2⟩ ⟨y, hy0, hy1, hy2⟩ = x.slot - y.slot := rfl
  rw [e]
  clear e
  go_enter Try.func98, Try.ntmps98
  go_wp2
  go_ret
  exact ⟨rfl, 0, _, by rw [alloc_eq_grow, alloc_eq_grow, grow_grow]; rfl⟩
theorem aggCell : ∀ w, (isAgg 107).run Try.prog w = .ok true w := Try.isAgg107
theorem sizeCell : ∀ w, (Go.sizeOf 107).run Try.prog w = .ok 2 w := Try.sizeOf107
theorem flat_flatK (d : Array GC) : flatK encG 2 d = (flat Cell.cells (d.toList.map (·.1))).toArray := by
  apply Array.ext
  · simp only [size_flatK, List.size_toArray]
    rw [flat_length encCell.len]
    simp
  · intro t h1 h2
    simp only [size_flatK] at h1
    have h3 := get_flatK encG 2 d t h1
    rw [getElem!_pos _ t (by simpa using h1)] at h3
    rw [h3]
    have hd : t / 2 < d.size := by omega
    have hg := flat_get encCell.len (d.toList.map (·.1)) (t / 2) (t % 2) d[t / 2].1 (encG d[t / 2]!)[t % 2]! (by simp [hd]) (by
      rw [getElem!_pos d _ hd]
      have : t % 2 < (encG d[t / 2]).length := by show t % 2 < (Cell.cells _).length; rw [encCell.len]; omega
      rw [getElem!_pos (encG d[t / 2]) (t % 2) this]
      exact List.getElem?_eq_getElem this)
    have ht : t / 2 * 2 + t % 2 = t := by omega
    rw [ht] at hg
    have h2' : t < (flat Cell.cells (d.toList.map (·.1))).length := by simpa using h2
    rw [List.getElem?_eq_getElem h2'] at hg
    simp only [List.getElem_toArray]
    exact (Option.some.inj hg).symm

/-- THE SORT, at a row of the call's own. -/
theorem sortCells (g c : Nat) (xs : List Cell) (base : Nat) (w : World) (hx : ∀ x ∈ xs, Good x) (hl : xs.length < 4611686018427387904) (hm : Made Cell.cells 2 107 base w (.slice (some ⟨g, 0, none⟩) xs.length c) xs) :
    Calls Try.prog 97 #[.slice (some ⟨g, 0, none⟩) xs.length c, .func (.func 98) #[] #[]] w fun e w' => e = .returned (.tuple #[]) ∧ ∃ ys, ys.Perm xs ∧ ys.Pairwise (fun a b => a.slot ≤ b.slot) ∧ Made Cell.cells 2 107 base w' (.slice (some ⟨g, 0, none⟩) xs.length c) ys ∧ Kept (fun k => k = g) w w' := by
  obtain ⟨d, hd⟩ : ∃ d : Array GC, d.toList.map (·.1) = xs := ⟨(xs.attach.map fun x => (⟨x.1, hx x.1 x.2⟩ : GC)).toArray, by simp⟩
  have hds : d.size = xs.length := by rw [← hd]; simp
  have hg := hm.lt g rfl
  have hrow : ∃ cur, w.heap[g]? = some (.cells cur 107 (0, 0)) ∧ xs.length ≤ c ∧ c ≤ maxLen ∧ cur.size = c * 2 ∧ cur.toList.take (xs.length * 2) = flat Cell.cells xs := by
    rcases hm.2 with ⟨e, _⟩ | ⟨g', cap, cur, e, _, hgg, h1, h2, h3, h4⟩
    · cases e
    · injection e with e1 e2 e3
      injection e1 with e1
      injection e1 with e1
      subst e1; subst e3
      exact ⟨cur, hgg, h1, h2, h3, by rw [h4]⟩
  obtain ⟨cur, hgg, hc1, hc2, hc3, hc4⟩ := hrow
  have hfk := flat_flatK d
  rw [hd] at hfk
  have hfl : (flat Cell.cells xs).length = xs.length * 2 := flat_length encCell.len xs
  have hH : HoldsK encG 2 w g 0 d := fun j hj => by
    rw [hfk] at hj ⊢
    simp only [List.size_toArray] at hj
    rw [Nat.zero_add]
    refine ⟨?_, frozen_of_row _ _ _ _ _ hgg⟩
    have h2 : (cur.toList.take (xs.length * 2))[j]? = some (flat Cell.cells xs)[j] := by rw [hc4]; exact List.getElem?_eq_getElem hj
    rw [List.getElem?_take, if_pos (by omega)] at h2
    have h1 : cur[j]? = some (flat Cell.cells xs)[j] := by simpa using h2
    rw [cell_of_row w g j _ _ _ hgg, h1]
    simp only [id]
    rw [getElem!_pos _ j (by simpa using hj)]
    simp
  have eg : ∀ args w, (callFunc 98 args).run Try.prog w = .ok (.enter 98 args) w := enters_of Try.func98 (by kernel_rfl) rfl
  have hcon := AnyQ.slices_SortFunc sortLay 2 aggCell sizeCell encG (fun x => encCell.len x.1) (fun x => encCell.one x.1) cfG swoG 98 #[] g 0 c d w eg (fun _ _ _ _ x y => cmpCells x y _) hH hg.2 (by omega)
  rw [hds] at hcon
  refine Calls.mono (P := Try.prog) hcon ?_
  rintro e w' ⟨rfl, d', n, os, hp, hs, rfl⟩
  obtain ⟨hp1, _, hp3⟩ := hp
  have hp3' : d'.toList.Perm d.toList := by
    have e1 : d'.extract 0 xs.length = d' := by rw [← hds, ← hp1]; simp
    have e2 : d.extract 0 xs.length = d := by rw [← hds]; simp
    rwa [e1, e2] at hp3
  refine ⟨rfl, d'.toList.map (·.1), ?_, ?_, ?_, ?_⟩
  · rw [← hd]; exact hp3'.map _
  · rw [List.pairwise_map, List.pairwise_iff_getElem]
    intro i j hi hj hij
    have h1 := hs i j (Nat.zero_le _) hij (by simp at hj; omega)
    rw [ltG] at h1
    have hi' : i < d'.size := by simpa using hi
    have hj' : j < d'.size := by simpa using hj
    rw [getElem!_pos d' j hj', getElem!_pos d' i hi'] at h1
    simp at h1 ⊢
    exact h1
  all_goals
    have hsz : (Sort.ahead w n).heap.size = w.heap.size := rfl
    have hW : ∀ k, k < w.heap.size → (sortWorldK encG 2 w g 0 n d' os).heap[k]? = (w.heap[k]?).map (if g = k then onCells (putCells id 0 (flatK encG 2 d')) else id) := fun k hk => by
      unfold sortWorldK grow putRowK putRow mapBlock
      simp only
      rw [Array.getElem?_append_left (by simp; exact hk), Array.getElem?_modify]
      by_cases h : g = k
      · simp [h]
      · simp [h]
  · have hgb := hW g hg.2
    rw [if_pos rfl, hgg] at hgb
    have hys : (flat Cell.cells (d'.toList.map (·.1))).length = xs.length * 2 := by rw [flat_length encCell.len]; simp; omega
    have hyl : (d'.toList.map (·.1)).length = xs.length := by simp; omega
    rw [← hyl]
    rw [← hyl] at hys hc1
    refine ⟨hys, .inr ⟨g, c, _, rfl, hg.1, hgb, hc1, hc2, by simp [putCells, hc3], ?_⟩⟩
    rw [hyl] at hys hc1 ⊢
    apply List.ext_getElem?
    intro k
    rw [List.getElem?_take]
    by_cases hk : k < xs.length * 2
    · rw [if_pos hk]
      have hkc : k < cur.size := by omega
      have hkf : k < (flatK encG 2 d').size := by rw [size_flatK]; omega
      have e1 : (putCells id 0 (flatK encG 2 d') cur)[k]? = some ((flatK encG 2 d')[k]!) := by
        unfold putCells
        rw [Array.getElem?_mapIdx, Array.getElem?_eq_getElem hkc]
        simp only [Option.map_some, Nat.zero_le, Nat.zero_add, true_and, Nat.sub_zero, id]
        rw [if_pos hkf]
      simp only [Array.getElem?_toList]
      rw [e1, flat_flatK d', getElem!_pos _ k (by rw [List.size_toArray, hys]; exact hk)]
      simp
    · rw [if_neg hk, List.getElem?_eq_none (by omega)]
  · refine ⟨rfl, rfl, rfl, ?_, fun k hk hn => ?_⟩
    · unfold sortWorldK grow putRowK putRow mapBlock
      simp
    · rw [hW k hk, if_neg (fun e => hn e.symm)]; simp
end Go.Proofs.Ytmfidhlhcochoaa
