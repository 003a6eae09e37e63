/- The ledger's put, whether the slot is taken or not. Conditions: a good cell. -/
import Derived.Test.YtmfidhlhcochoaaSetC
import Derived.Test.YtmfidhlhcochoaaLedger
namespace Go.Proofs.Ytmfidhlhcochoaa
open Go.RowKit
set_option linter.unusedVariables false
set_option linter.unusedSimpArgs false

theorem mem_look {α : Type} {ps : List (Int × α)} (h : (ps.map (·.1)).Nodup) (k : Int) (v : α) : (k, v) ∈ ps ↔ look ps k = some v := by
  constructor
  · intro hm
    induction ps with
    | nil => simp at hm
    | cons p ps ih =>
      obtain ⟨h1, h2⟩ := List.nodup_cons.1 (by simpa using h : (p.1 :: ps.map (·.1)).Nodup)
      unfold look at ih ⊢
      rw [List.find?_cons]
      rcases List.mem_cons.1 hm with rfl | hm
      · simp
      · have : p.1 ≠ k := fun e => h1 (List.mem_map.2 ⟨_, hm, e.symm⟩)
        rw [show (p.1 == k) = false by simpa using this]
        exact ih h2 hm
  · intro hl
    simp only [look, Option.map_eq_some_iff] at hl
    obtain ⟨p, h1, rfl⟩ := hl
    have h2 := List.find?_some h1
    have h3 := List.mem_of_find?_eq_some h1
    simp at h2
    subst h2
    exact h3
theorem perm_setC {ps : List (Int × ByteArray)} {cs : List Cell} (hn : (ps.map (·.1)).Nodup) (hp : (ps.map (fun p => (⟨p.1, p.2⟩ : Cell))).Perm cs) (hr : Rising cs) {k : Int} {s : ByteArray} (hg : Good ⟨k, s⟩) :
    ((setP ps k s).map (fun p => (⟨p.1, p.2⟩ : Cell))).Perm (setC cs ⟨k, s⟩) := by
  have hn' := keys_nodup_setP hn k s
  have hr' := setC_rising hr hg
  have nd1 : ((setP ps k s).map (fun p => (⟨p.1, p.2⟩ : Cell))).Nodup := by
    exact List.pairwise_map.2 ((List.pairwise_map.1 hn').imp fun h e => h (by injection e))
  have nd2 : (setC cs ⟨k, s⟩).Nodup := by
    refine hr'.sorted.imp fun {a b} h e => ?_
    subst e
    omega
  refine (List.perm_ext_iff_of_nodup nd1 nd2).2 fun c => ?_
  have h1 : c ∈ (setP ps k s).map (fun p => (⟨p.1, p.2⟩ : Cell)) ↔ look (setP ps k s) c.slot = some c.value := by
    rw [← mem_look hn']
    constructor
    · intro h
      obtain ⟨p, hp, rfl⟩ := List.mem_map.1 h
      exact hp
    · intro h
      exact List.mem_map.2 ⟨_, h, rfl⟩
  have h2 : c ∈ setC cs ⟨k, s⟩ ↔ getC (setC cs ⟨k, s⟩) c.slot = some c.value := ⟨fun h => getC_of_mem hr' h, fun h => getC_some h⟩
  rw [h1, h2, look_setP, getC_setC hr hg, look_cells hp hr]

set_option maxRecDepth 100000 in
theorem setLedger (b mb : Nat) (cs : List Cell) (k : Int) (s : ByteArray) (w : World) (h : Ledger w b mb cs) (hg : Good ⟨k, s⟩) :
    Calls Try.prog 77 #[.pointer (some ⟨b, 0, none⟩), .int .i64 k, .string s] w fun e w' => e = .returned (.tuple #[]) ∧ Ledger w' b mb (setC cs ⟨k, s⟩) ∧ Kept (LedS b mb) w w' := by
  have hne := h.ne
  obtain ⟨hbl, hml⟩ := h.lt
  obtain ⟨ps, hb, hm, hp, hr⟩ := h
  have c0 : w.cell? ⟨b, 0, none⟩ = some (.map (some mb)) := cell_of_row w b 0 _ _ _ hb
  have HPERM := Lib.hid (perm_setC hm.nodup hp hr hg)
  have HRI := Lib.hid (setC_rising hr hg)
  have hnb := nextC_bounds hr
  have HNP := Lib.hid (nextC_setC hr ⟨k, s⟩ hg)
  obtain ⟨hk0, hk1, hk2⟩ := hg
  simp only at hk0 hk1 hk2
  generalize hq : nextC cs = q at *
  have HQ := Lib.hid hq
  have HB := Lib.hid hb
  clear hq hb hp
  have hnil := fun (W : World) (r : Option Nat) => run_eql_map_nil (P := Try.prog) W 153 _ _ r undMap
  go_enter Try.func77, Try.ntmps77
  go_wp2_with (at_mapUpdate; refine wpList_update (ev := evS) hm rfl _ _ _ rfl undMap undInt rfl k rfl s rfl ?_; intro w1 hm1 hg1 hs1; have hb1 := (hg1.block b hbl (by simpa using hne)).trans HB.out; have c1 : w1.cell? ⟨b, 1, none⟩ = some (.int .i64 q) := cell_of_row w1 b 1 _ _ _ hb1; have f1 : w1.frozen? ⟨b, 1, none⟩ = false := frozen_of_row w1 b 1 _ _ hb1; have HB1 := Lib.hid hb1; have HG1 := Lib.hid hg1; have HM1 := Lib.hid hm1; clear hb1 hm c0 hg1 hm1)
  all_goals
    go_end0
    have hval : ∀ v : Int, v = max q (k + 1) → Ledger (w1.setCell ⟨b, 1, none⟩ (.int .i64 v)) b mb (setC cs ⟨k, s⟩) ∧ Kept (LedS b mb) w (w1.setCell ⟨b, 1, none⟩ (.int .i64 v)) := fun v hv => by
      refine ⟨⟨setP ps k s, ?_, HM1.out.same (Below.heap_setCell _ _ _ _ (by simpa using hne.symm)), HPERM.out, HRI.out⟩, ?_⟩
      · rw [heap_setCell_same w1 b 1 _ _ _ HB1.out, HNP.out, hv]; rfl
      · refine Kept.setCell ((Kept.of_grown HG1.out).mono fun j _ hj => .inr (by simpa using hj.symm)) (fun _ => .inl rfl) _
    exact ⟨rfl, hval _ (by omega)⟩
end Go.Proofs.Ytmfidhlhcochoaa
