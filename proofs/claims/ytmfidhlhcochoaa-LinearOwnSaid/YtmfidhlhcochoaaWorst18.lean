/- linear.Worst and the reference's: they answer worstL. Conditions: Go lengths. -/
import Derived.Test.YtmfidhlhcochoaaCut18
import Derived.Test.YtmfidhlhcochoaaRefM18
import Derived.Test.YtmfidhlhcochoaaSearch
namespace Go.Proofs.Ytmfidhlhcochoaa
open Go.RowKit
set_option linter.unusedVariables false
set_option linter.unusedSimpArgs false

def worstStep (ok : Bool) (l : List Call) (b : Int) (x : Call) : Int := if ok = true ∨ x.fin < 0 ∨ (0 ≤ b ∧ b ≤ x.fin) then b else if best (cutL (x.fin + 1) l) = none then x.fin else b
/-- What Worst answers. -/
def worstL (l : List Call) : Int × Int := if (searchL l).2.2 ≠ 0 then (0, (searchL l).2.2) else (l.foldl (worstStep (searchL l).2.1 l) (-1), 0)
theorem worst_ok (l m : List Call) (b : Int) : m.foldl (worstStep true l) b = b := by
  induction m generalizing b with
  | nil => rfl
  | cons x m ih => rw [List.foldl_cons, show worstStep true l b x = b by simp [worstStep]]; exact ih b
theorem worst_snoc {l : List Call} (ok : Bool) {k0 : Nat} (h : k0 < l.length) : (l.take (k0 + 1)).foldl (worstStep ok l) (-1) = worstStep ok l ((l.take k0).foldl (worstStep ok l) (-1)) l[k0] := by
  rw [List.take_succ_eq_append_getElem h, List.foldl_append]; rfl
theorem search_ok {l : List Call} (h : (searchL l).2.2 = 0) : checkL l = 0 ∧ l.length ≤ 8 ∧ (searchL l).2.1 = decide (best l ≠ none) := by
  unfold searchL at h ⊢
  by_cases h1 : checkL l ≠ 0
  · rw [if_pos h1] at h; exact absurd h h1
  · rw [if_neg h1] at h ⊢
    by_cases h2 : 8 < l.length
    · rw [if_pos h2] at h; cases h
    · rw [if_neg h2] at h ⊢
      refine ⟨by omega, by omega, ?_⟩
      cases best l <;> rfl
theorem checkL_zero {l : List Call} (h : checkL l = 0) : GoodL l := by
  unfold checkL at h
  by_cases hg : GoodL l
  · exact hg
  · rw [if_neg hg] at h; cases h
theorem checkL_of {l : List Call} (h : GoodL l) : checkL l = 0 := if_pos h
theorem search_sub {l m : List Call} (hg : GoodL m) (hl : m.length ≤ 8) : (searchL m).2.2 = 0 ∧ (searchL m).2.1 = decide (best m ≠ none) := by
  unfold searchL
  rw [if_neg (by rw [checkL_of hg]; decide), if_neg (by omega)]
  cases best m <;> exact ⟨rfl, rfl⟩
theorem cut_vals {l : List Call} {t : Int} (h : ∀ x ∈ l, x.op.value.size ≤ 9223372036854775807) : ∀ x ∈ cutL t l, x.op.value.size ≤ 9223372036854775807 := fun x hx => by
  obtain ⟨y, hy, _, rfl⟩ := mem_cut.1 hx
  rw [truncC_op]; exact h y hy
def WorstPost (l : List Call) (w : World) (e : Ending) (w' : World) : Prop := e = .returned (.tuple #[.int .i64 (worstL l).1, .int .i64 (worstL l).2]) ∧ Below w.heap.size w w'

set_option maxRecDepth 100000 in
set_option maxHeartbeats 8000000 in
theorem worst_prog (A : Option Addr) (c n : Nat) (l : List Call) (hn : n = l.length) (w : World) (hl : (l.length + 1) * 96 ≤ 140737488355328) (hv : ∀ x ∈ l, x.op.value.size ≤ 9223372036854775807) (ha : Rd Call.cells 10 w w.heap.size A l) :
    Calls Try.prog 36 #[.slice A n c] w (WorstPost l w) := by
  subst hn
  obtain ⟨T0, hT0⟩ : ∃ T0 : Ending → World → Prop, T0 = WorstPost l w := ⟨_, rfl⟩
  rw [← hT0]
  have HT0 := Lib.hid hT0
  have HA := Lib.hid ha
  have HV := Lib.hid hv
  clear ha hv hT0
  go_enter Try.func36, Try.ntmps36
  go_wp2_with fail
  refine (search_prog A c l.length l rfl w (by omega) HV.out HA.out).mono ?_
  rintro e w1 ⟨v1, rfl, hm1, hb1⟩
  have HB1 := Lib.hid hb1
  have hr1 := (HA.out.below hb1).more hb1.size
  have HR1 := Lib.hid hr1
  clear hb1 hr1 hm1
  obtain ⟨ok, hok⟩ : ∃ ok, ok = (searchL l).2.1 := ⟨_, rfl⟩
  obtain ⟨ez, hez⟩ : ∃ ez, ez = (searchL l).2.2 := ⟨_, rfl⟩
  rw [← hok, ← hez]
  have HOK := Lib.hid hok
  have HEZ := Lib.hid hez
  clear hok hez
  by_cases he0 : ez = 0
  · subst he0
    have HAN : Hid (worstL l = (l.foldl (worstStep ok l) (-1), 0)) := by show _ = _; unfold worstL; rw [if_neg (by rw [← HEZ.out]; decide), ← HOK.out]
    have HSO := Lib.hid (search_ok HEZ.out.symm)
    have HGD : Hid (GoodL l) := checkL_zero HSO.out.1
    have hl8 : l.length ≤ 8 := HSO.out.2.1
    dsimp only
    go_wp2_with fail
    go_loopw [27, 7] (fun i v wr => ∃ k0 : Nat, ∃ b : Int, k0 ≤ l.length ∧ i = .int .i64 k0 ∧ v = .int .i64 b ∧ Hid (b = (l.take k0).foldl (worstStep ok l) (-1)) ∧ Hid (Below w1.heap.size w1 wr)) (fun i _ _ => l.length - (intOf i).toNat)
    case atStart => exact ⟨0, -1, by omega, rfl, rfl, rfl, Below.refl _ _⟩
    case round =>
      obtain ⟨k0, b, hk, rfl, rfl, hbv, hbo⟩ := hrel
      obtain ⟨wo, hwo⟩ : ∃ wo, wo = wr := ⟨_, rfl⟩
      subst hwo
      by_cases h1 : k0 < l.length
      · obtain ⟨ad, hA, hal, hca⟩ := (HR1.out.below hbo.out).at_ h1
        have g1 : (k0:Int) < (l.length : Int) := by omega
        have i1 : (0:Int) ≤ (k0:Int) := by omega
        have HWS := Lib.hid (worst_snoc ok h1)
        have HZM : Hid (l[k0] ∈ l) := List.getElem_mem h1
        obtain ⟨c0, c1, c2, c3, c4, c5', c6, c7, c8, c9⟩ := hca.call
        cases hA
        clear hca
        obtain ⟨z, hz⟩ : ∃ z, z = l[k0] := ⟨_, rfl⟩
        rw [← hz] at c0 c1 c2 c3 c4 c5' c6 c7 c8 c9 HWS HZM
        clear hz
        have hzo : w1.heap.size ≤ wo.heap.size := hbo.out.size
        have HSK : Hid ((ok = true ∨ z.fin < 0 ∨ (0 ≤ b ∧ b ≤ z.fin)) → b = (l.take (k0 + 1)).foldl (worstStep ok l) (-1)) := fun h => by
          rw [HWS.out, ← hbv.out]; unfold worstStep; rw [if_pos h]
        have HGO : Hid (¬ (ok = true ∨ z.fin < 0 ∨ (0 ≤ b ∧ b ≤ z.fin)) → (if best (cutL (z.fin + 1) l) = none then z.fin else b) = (l.take (k0 + 1)).foldl (worstStep ok l) (-1)) := fun h => by
          rw [HWS.out, ← hbv.out]; unfold worstStep; rw [if_neg h]
        clear HWS hbv
        cases ok
        · by_cases hf : z.fin < 0
          · have hf2 : decide (z.fin < 0) = true := decide_eq_true hf
            have HS := Lib.hid (HSK.out (.inr (.inl hf)))
            clear HSK HGO
            go_wp2_with fail
            go_roundw
            case rel => exact ⟨k0 + 1, b, by omega, by go_num, rfl, HS.out, hbo.out.alloc hzo _⟩
            case measure => simp [intOf]; omega
          · have hf2 : decide (z.fin < 0) = false := decide_eq_false hf
            by_cases hp : 0 ≤ b
            · have hp2 : decide (0 ≤ b) = true := decide_eq_true hp
              by_cases hq : b ≤ z.fin
              · have hq2 : decide (b ≤ z.fin) = true := decide_eq_true hq
                have HS := Lib.hid (HSK.out (.inr (.inr ⟨hp, hq⟩)))
                clear HSK HGO
                go_wp2_with fail
                go_roundw
                case rel => exact ⟨k0 + 1, b, by omega, by go_num, rfl, HS.out, hbo.out.alloc hzo _⟩
                case measure => simp [intOf]; omega
              · have hq2 : decide (b ≤ z.fin) = false := decide_eq_false hq
                have HS := Lib.hid (HGO.out (fun h => by rcases h with h | h | h; cases h; exact hf h; exact hq h.2))
                clear HSK HGO
                obtain ⟨W1, hW1⟩ : ∃ W1, W1 = wo.alloc (.cells #[.int .i64 z.client, .int .i64 z.number, .int .i64 z.op.kind, .int .i64 z.op.slot, .string z.op.value, .int .i64 z.beg, .int .i64 z.fin, .int .i64 z.res.code, .int .i64 z.res.slot, .string z.res.value] 45) := ⟨_, rfl⟩
                have hbw1 : Below w1.heap.size w1 W1 := by rw [hW1]; exact hbo.out.alloc hzo _
                have hz1 : W1.heap.size = wo.heap.size + 1 := by rw [hW1]; simp
                have hx1 : W1.heap[wo.heap.size]? = some (.cells #[.int .i64 z.client, .int .i64 z.number, .int .i64 z.op.kind, .int .i64 z.op.slot, .string z.op.value, .int .i64 z.beg, .int .i64 z.fin, .int .i64 z.res.code, .int .i64 z.res.slot, .string z.res.value] 45 (0, 0)) := by rw [hW1]; exact heap_alloc_new _ _
                have HBW1 := Lib.hid hbw1
                have HX1 := Lib.hid hx1
                have HZ1 := Lib.hid hz1
                have HW1 := Lib.hid hW1
                clear hbw1 hx1 hz1 hW1
                go_wp2_with fail
                rw [← HW1.out]
                go_loopw [49, 10] (fun i v wr => ∃ k : Nat, ∃ out A5 c5, k ≤ l.length ∧ i = .int .i64 k ∧ v = .slice A5 out.length c5 ∧ Hid (out = cutL (z.fin + 1) (l.take k)) ∧ Hid (Made Call.cells 10 45 W1.heap.size wr (.slice A5 out.length c5) out) ∧ Hid (Below W1.heap.size W1 wr)) (fun i _ _ => l.length - (intOf i).toNat)
                case atStart => exact ⟨0, [], none, 0, by omega, rfl, rfl, rfl, Made.nil _ _ _, Below.refl _ _⟩
                case round =>
                  obtain ⟨k, out, A5, c5, hk, rfl, rfl, ho, hmd, hbr⟩ := hrel
                  have hzb : W1.heap.size ≤ wr.heap.size := hbr.out.size
                  have hz := hmd.out.lt
                  have e6 : ∀ o, (wr.alloc o).cell? ⟨wo.heap.size, 6, none⟩ = some (.int .i64 z.fin) := fun o => (World.cell?_alloc_lt _ _ _ (by have := hbr.out.size; have := HZ1.out; show wo.heap.size < wr.heap.size; omega)).trans (cell_of_row _ _ 6 _ _ _ ((hbr.out.block _ (by rw [HZ1.out]; omega)).trans HX1.out))
                  by_cases h1 : k < l.length
                  · obtain ⟨ad, hA, hal, hca⟩ := (HR1.out.below (HBW1.out.trans (hbr.out.mono HBW1.out.size))).at_ h1
                    have g1 : (k:Int) < (l.length : Int) := by omega
                    have i1 : (0:Int) ≤ (k:Int) := by omega
                    have HCS := Lib.hid (cutL_snoc (z.fin + 1) h1)
                    have HOL : Hid (out.length ≤ k) := by show _ ≤ _; rw [ho.out]; exact Nat.le_trans (cutL_len _ _) (by rw [List.length_take]; omega)
                    obtain ⟨c0, c1, c2, c3, c4, c5', c6, c7, c8, c9⟩ := hca.call
                    cases hA
                    clear hca
                    generalize l[k] = x at *
                    by_cases hb : x.beg < (z.fin + 1)
                    · have hb2 : decide (z.fin < x.beg) = false := decide_eq_false (by omega)
                      by_cases hf : (z.fin + 1) ≤ x.fin
                      · have hf2 : decide (z.fin < x.fin) = true := decide_eq_true (by omega)
                        have hnx : Hid (out ++ [(⟨x.client, x.number, x.op, x.beg, -1, zres⟩ : Call)] = cutL (z.fin + 1) (l.take (k + 1))) := by
                          show _ = _
                          rw [HCS.out, if_pos hb, ho.out]
                          unfold truncC
                          rw [if_pos hf]
                        clear HCS hb hf
                        go_wp2_with (at_builtin; go_loud (refine wpList_app (v := .slice A5 out.length c5) (xs := out) (ys := [(⟨x.client, x.number, x.op, x.beg, -1, zres⟩ : Call)]) rowCall encCall rfl (.tmp 66) (.tmp 68) rfl W1.heap.size rfl ((hmd.out.alloc _).alloc _) rfl rfl (rd_at encCall _ (⟨x.client, x.number, x.op, x.beg, -1, zres⟩) #[.int .i64 x.client, .int .i64 x.number, .int .i64 x.op.kind, .int .i64 x.op.slot, .string x.op.value, .int .i64 x.beg, .int .i64 (-1), .int .i64 0, .int .i64 0, .string ⟨#[]⟩] rfl 45 (by simp [World.setCell]) (Nat.lt_succ_self _)) (by have := HOL.out; simp only [List.length_singleton]; omega) (by have := HOL.out; unfold maxLen; simp only [List.length_singleton]; omega) (by simp; omega) ?_); intro v7 w7 hm7 hg7 hat7; have HM7 := Lib.hid hm7; go_loud (have hg7b := Below.grown ((hbr.out.alloc hzb _).alloc (by simp; omega) _) hg7 (by simp; have h55 := hzb; omega) (fun q e => (hz q e).1)); have HG7 := Lib.hid hg7b; obtain ⟨A7, c7, rfl, hc7⟩ := hm7.form; clear hm7 hg7 hat7 hc7 hg7b)
                        go_roundw
                        case rel => exact ⟨k + 1, out ++ [(⟨x.client, x.number, x.op, x.beg, -1, zres⟩ : Call)], A7, c7, by omega, by go_num, by rw [List.length_append]; rfl, hnx.out, HM7.out, HG7.out⟩
                        case measure => simp [intOf]; omega
                      · have hf2 : decide (z.fin < x.fin) = false := decide_eq_false (by omega)
                        have hnx : Hid (out ++ [x] = cutL (z.fin + 1) (l.take (k + 1))) := by
                          show _ = _
                          rw [HCS.out, if_pos hb, ho.out]
                          unfold truncC
                          rw [if_neg hf]
                        clear HCS hb hf
                        go_wp2_with (at_builtin; go_loud (refine wpList_app (v := .slice A5 out.length c5) (xs := out) (ys := [x]) rowCall encCall rfl (.tmp 66) (.tmp 68) rfl W1.heap.size rfl ((hmd.out.alloc _).alloc _) rfl rfl (rd_at encCall _ (x) #[.int .i64 x.client, .int .i64 x.number, .int .i64 x.op.kind, .int .i64 x.op.slot, .string x.op.value, .int .i64 x.beg, .int .i64 x.fin, .int .i64 x.res.code, .int .i64 x.res.slot, .string x.res.value] rfl 45 (by simp [World.setCell]) (Nat.lt_succ_self _)) (by have := HOL.out; simp only [List.length_singleton]; omega) (by have := HOL.out; unfold maxLen; simp only [List.length_singleton]; omega) (by simp; omega) ?_); intro v7 w7 hm7 hg7 hat7; have HM7 := Lib.hid hm7; go_loud (have hg7b := Below.grown ((hbr.out.alloc hzb _).alloc (by simp; omega) _) hg7 (by simp; have h55 := hzb; omega) (fun q e => (hz q e).1)); have HG7 := Lib.hid hg7b; obtain ⟨A7, c7, rfl, hc7⟩ := hm7.form; clear hm7 hg7 hat7 hc7 hg7b)
                        go_roundw
                        case rel => exact ⟨k + 1, out ++ [x], A7, c7, by omega, by go_num, by rw [List.length_append]; rfl, hnx.out, HM7.out, HG7.out⟩
                        case measure => simp [intOf]; omega
                    · have hb2 : decide (z.fin < x.beg) = true := decide_eq_true (by omega)
                      have hnx : Hid (out = cutL (z.fin + 1) (l.take (k + 1))) := by
                        show _ = _
                        rw [HCS.out, if_neg hb, List.append_nil]; exact ho.out
                      clear HCS hb
                      go_wp2_with fail
                      go_roundw
                      case rel => exact ⟨k + 1, out, A5, c5, by omega, by go_num, rfl, hnx.out, hmd.out.alloc _, hbr.out.alloc hzb _⟩
                      case measure => simp [intOf]; omega
                  · have g2 : decide ((k:Int) < (l.length : Int)) = false := decide_eq_false (by omega)
                    have g3 : decide (k < l.length) = false := decide_eq_false h1
                    have hfin : Hid (out = cutL (z.fin + 1) l) := by show _ = _; rw [ho.out, List.take_of_length_le (by omega)]
                    have HLO : Hid (out.length ≤ 8) := by show _ ≤ _; rw [hfin.out]; exact Nat.le_trans (cutL_len _ _) hl8
                    have HGC : Hid (GoodL out) := by show GoodL _; rw [hfin.out]; exact HGD.out.cut _
                    have HVC : Hid (∀ x ∈ out, x.op.value.size ≤ 9223372036854775807) := by show ∀ x ∈ out, _; rw [hfin.out]; exact cut_vals HV.out
                    have hbw : Below w1.heap.size w1 wr := HBW1.out.trans (hbr.out.mono HBW1.out.size)
                    have HBW := Lib.hid hbw
                    have hxr : wr.heap[wo.heap.size]? = some (.cells #[.int .i64 z.client, .int .i64 z.number, .int .i64 z.op.kind, .int .i64 z.op.slot, .string z.op.value, .int .i64 z.beg, .int .i64 z.fin, .int .i64 z.res.code, .int .i64 z.res.slot, .string z.res.value] 45 (0, 0)) := (hbr.out.block _ (by rw [HZ1.out]; omega)).trans HX1.out
                    have HXR := Lib.hid hxr
                    have HSS := Lib.hid (search_sub (l := l) HGC.out HLO.out)
                    clear hbw hxr e6
                    go_wp2_with fail
                    refine (search_prog A5 c5 out.length out rfl wr (by have := HLO.out; omega) HVC.out (Made.rd' encCall.len hmd.out)).mono ?_
                    rintro e w8 ⟨v8, rfl, hm8, hb8⟩
                    have e8 : w8.cell? ⟨wo.heap.size, 6, none⟩ = some (.int .i64 z.fin) := cell_of_row _ _ 6 _ _ _ ((hb8.block _ (Array.getElem?_eq_some_iff.1 HXR.out).1).trans HXR.out)
                    have HB8 := Lib.hid (HBW.out.trans (hb8.mono HBW.out.size))
                    clear hb8 hm8
                    rw [HSS.out.1, HSS.out.2, hfin.out]
                    by_cases hq : best (cutL (z.fin + 1) l) = none
                    · have hd : decide (best (cutL (z.fin + 1) l) ≠ none) = false := decide_eq_false (fun h => h hq)
                      rw [hd]
                      have hs := HS.out
                      rw [if_pos hq] at hs
                      have HSF := Lib.hid hs
                      clear hq hd hs HS
                      dsimp only
                      go_wp2_with fail
                      go_roundw
                      case rel => exact ⟨k0 + 1, z.fin, by omega, by go_num, rfl, HSF.out, HB8.out⟩
                      case measure => simp [intOf]; omega
                    · have hd : decide (best (cutL (z.fin + 1) l) ≠ none) = true := decide_eq_true hq
                      rw [hd]
                      have hs := HS.out
                      rw [if_neg hq] at hs
                      have HSF := Lib.hid hs
                      clear hq hd hs HS
                      dsimp only
                      go_wp2_with fail
                      go_roundw
                      case rel => exact ⟨k0 + 1, b, by omega, by go_num, rfl, HSF.out, HB8.out⟩
                      case measure => simp [intOf]; omega
            · have hp2 : decide (0 ≤ b) = false := decide_eq_false hp
              have HS := Lib.hid (HGO.out (fun h => by rcases h with h | h | h; cases h; exact hf h; exact hp h.1))
              clear HSK HGO
              obtain ⟨W1, hW1⟩ : ∃ W1, W1 = wo.alloc (.cells #[.int .i64 z.client, .int .i64 z.number, .int .i64 z.op.kind, .int .i64 z.op.slot, .string z.op.value, .int .i64 z.beg, .int .i64 z.fin, .int .i64 z.res.code, .int .i64 z.res.slot, .string z.res.value] 45) := ⟨_, rfl⟩
              have hbw1 : Below w1.heap.size w1 W1 := by rw [hW1]; exact hbo.out.alloc hzo _
              have hz1 : W1.heap.size = wo.heap.size + 1 := by rw [hW1]; simp
              have hx1 : W1.heap[wo.heap.size]? = some (.cells #[.int .i64 z.client, .int .i64 z.number, .int .i64 z.op.kind, .int .i64 z.op.slot, .string z.op.value, .int .i64 z.beg, .int .i64 z.fin, .int .i64 z.res.code, .int .i64 z.res.slot, .string z.res.value] 45 (0, 0)) := by rw [hW1]; exact heap_alloc_new _ _
              have HBW1 := Lib.hid hbw1
              have HX1 := Lib.hid hx1
              have HZ1 := Lib.hid hz1
              have HW1 := Lib.hid hW1
              clear hbw1 hx1 hz1 hW1
              go_wp2_with fail
              rw [← HW1.out]
              go_loopw [49, 10] (fun i v wr => ∃ k : Nat, ∃ out A5 c5, k ≤ l.length ∧ i = .int .i64 k ∧ v = .slice A5 out.length c5 ∧ Hid (out = cutL (z.fin + 1) (l.take k)) ∧ Hid (Made Call.cells 10 45 W1.heap.size wr (.slice A5 out.length c5) out) ∧ Hid (Below W1.heap.size W1 wr)) (fun i _ _ => l.length - (intOf i).toNat)
              case atStart => exact ⟨0, [], none, 0, by omega, rfl, rfl, rfl, Made.nil _ _ _, Below.refl _ _⟩
              case round =>
                obtain ⟨k, out, A5, c5, hk, rfl, rfl, ho, hmd, hbr⟩ := hrel
                have hzb : W1.heap.size ≤ wr.heap.size := hbr.out.size
                have hz := hmd.out.lt
                have e6 : ∀ o, (wr.alloc o).cell? ⟨wo.heap.size, 6, none⟩ = some (.int .i64 z.fin) := fun o => (World.cell?_alloc_lt _ _ _ (by have := hbr.out.size; have := HZ1.out; show wo.heap.size < wr.heap.size; omega)).trans (cell_of_row _ _ 6 _ _ _ ((hbr.out.block _ (by rw [HZ1.out]; omega)).trans HX1.out))
                by_cases h1 : k < l.length
                · obtain ⟨ad, hA, hal, hca⟩ := (HR1.out.below (HBW1.out.trans (hbr.out.mono HBW1.out.size))).at_ h1
                  have g1 : (k:Int) < (l.length : Int) := by omega
                  have i1 : (0:Int) ≤ (k:Int) := by omega
                  have HCS := Lib.hid (cutL_snoc (z.fin + 1) h1)
                  have HOL : Hid (out.length ≤ k) := by show _ ≤ _; rw [ho.out]; exact Nat.le_trans (cutL_len _ _) (by rw [List.length_take]; omega)
                  obtain ⟨c0, c1, c2, c3, c4, c5', c6, c7, c8, c9⟩ := hca.call
                  cases hA
                  clear hca
                  generalize l[k] = x at *
                  by_cases hb : x.beg < (z.fin + 1)
                  · have hb2 : decide (z.fin < x.beg) = false := decide_eq_false (by omega)
                    by_cases hf : (z.fin + 1) ≤ x.fin
                    · have hf2 : decide (z.fin < x.fin) = true := decide_eq_true (by omega)
                      have hnx : Hid (out ++ [(⟨x.client, x.number, x.op, x.beg, -1, zres⟩ : Call)] = cutL (z.fin + 1) (l.take (k + 1))) := by
                        show _ = _
                        rw [HCS.out, if_pos hb, ho.out]
                        unfold truncC
                        rw [if_pos hf]
                      clear HCS hb hf
                      go_wp2_with (at_builtin; go_loud (refine wpList_app (v := .slice A5 out.length c5) (xs := out) (ys := [(⟨x.client, x.number, x.op, x.beg, -1, zres⟩ : Call)]) rowCall encCall rfl (.tmp 66) (.tmp 68) rfl W1.heap.size rfl ((hmd.out.alloc _).alloc _) rfl rfl (rd_at encCall _ (⟨x.client, x.number, x.op, x.beg, -1, zres⟩) #[.int .i64 x.client, .int .i64 x.number, .int .i64 x.op.kind, .int .i64 x.op.slot, .string x.op.value, .int .i64 x.beg, .int .i64 (-1), .int .i64 0, .int .i64 0, .string ⟨#[]⟩] rfl 45 (by simp [World.setCell]) (Nat.lt_succ_self _)) (by have := HOL.out; simp only [List.length_singleton]; omega) (by have := HOL.out; unfold maxLen; simp only [List.length_singleton]; omega) (by simp; omega) ?_); intro v7 w7 hm7 hg7 hat7; have HM7 := Lib.hid hm7; go_loud (have hg7b := Below.grown ((hbr.out.alloc hzb _).alloc (by simp; omega) _) hg7 (by simp; have h55 := hzb; omega) (fun q e => (hz q e).1)); have HG7 := Lib.hid hg7b; obtain ⟨A7, c7, rfl, hc7⟩ := hm7.form; clear hm7 hg7 hat7 hc7 hg7b)
                      go_roundw
                      case rel => exact ⟨k + 1, out ++ [(⟨x.client, x.number, x.op, x.beg, -1, zres⟩ : Call)], A7, c7, by omega, by go_num, by rw [List.length_append]; rfl, hnx.out, HM7.out, HG7.out⟩
                      case measure => simp [intOf]; omega
                    · have hf2 : decide (z.fin < x.fin) = false := decide_eq_false (by omega)
                      have hnx : Hid (out ++ [x] = cutL (z.fin + 1) (l.take (k + 1))) := by
                        show _ = _
                        rw [HCS.out, if_pos hb, ho.out]
                        unfold truncC
                        rw [if_neg hf]
                      clear HCS hb hf
                      go_wp2_with (at_builtin; go_loud (refine wpList_app (v := .slice A5 out.length c5) (xs := out) (ys := [x]) rowCall encCall rfl (.tmp 66) (.tmp 68) rfl W1.heap.size rfl ((hmd.out.alloc _).alloc _) rfl rfl (rd_at encCall _ (x) #[.int .i64 x.client, .int .i64 x.number, .int .i64 x.op.kind, .int .i64 x.op.slot, .string x.op.value, .int .i64 x.beg, .int .i64 x.fin, .int .i64 x.res.code, .int .i64 x.res.slot, .string x.res.value] rfl 45 (by simp [World.setCell]) (Nat.lt_succ_self _)) (by have := HOL.out; simp only [List.length_singleton]; omega) (by have := HOL.out; unfold maxLen; simp only [List.length_singleton]; omega) (by simp; omega) ?_); intro v7 w7 hm7 hg7 hat7; have HM7 := Lib.hid hm7; go_loud (have hg7b := Below.grown ((hbr.out.alloc hzb _).alloc (by simp; omega) _) hg7 (by simp; have h55 := hzb; omega) (fun q e => (hz q e).1)); have HG7 := Lib.hid hg7b; obtain ⟨A7, c7, rfl, hc7⟩ := hm7.form; clear hm7 hg7 hat7 hc7 hg7b)
                      go_roundw
                      case rel => exact ⟨k + 1, out ++ [x], A7, c7, by omega, by go_num, by rw [List.length_append]; rfl, hnx.out, HM7.out, HG7.out⟩
                      case measure => simp [intOf]; omega
                  · have hb2 : decide (z.fin < x.beg) = true := decide_eq_true (by omega)
                    have hnx : Hid (out = cutL (z.fin + 1) (l.take (k + 1))) := by
                      show _ = _
                      rw [HCS.out, if_neg hb, List.append_nil]; exact ho.out
                    clear HCS hb
                    go_wp2_with fail
                    go_roundw
                    case rel => exact ⟨k + 1, out, A5, c5, by omega, by go_num, rfl, hnx.out, hmd.out.alloc _, hbr.out.alloc hzb _⟩
                    case measure => simp [intOf]; omega
                · have g2 : decide ((k:Int) < (l.length : Int)) = false := decide_eq_false (by omega)
                  have g3 : decide (k < l.length) = false := decide_eq_false h1
                  have hfin : Hid (out = cutL (z.fin + 1) l) := by show _ = _; rw [ho.out, List.take_of_length_le (by omega)]
                  have HLO : Hid (out.length ≤ 8) := by show _ ≤ _; rw [hfin.out]; exact Nat.le_trans (cutL_len _ _) hl8
                  have HGC : Hid (GoodL out) := by show GoodL _; rw [hfin.out]; exact HGD.out.cut _
                  have HVC : Hid (∀ x ∈ out, x.op.value.size ≤ 9223372036854775807) := by show ∀ x ∈ out, _; rw [hfin.out]; exact cut_vals HV.out
                  have hbw : Below w1.heap.size w1 wr := HBW1.out.trans (hbr.out.mono HBW1.out.size)
                  have HBW := Lib.hid hbw
                  have hxr : wr.heap[wo.heap.size]? = some (.cells #[.int .i64 z.client, .int .i64 z.number, .int .i64 z.op.kind, .int .i64 z.op.slot, .string z.op.value, .int .i64 z.beg, .int .i64 z.fin, .int .i64 z.res.code, .int .i64 z.res.slot, .string z.res.value] 45 (0, 0)) := (hbr.out.block _ (by rw [HZ1.out]; omega)).trans HX1.out
                  have HXR := Lib.hid hxr
                  have HSS := Lib.hid (search_sub (l := l) HGC.out HLO.out)
                  clear hbw hxr e6
                  go_wp2_with fail
                  refine (search_prog A5 c5 out.length out rfl wr (by have := HLO.out; omega) HVC.out (Made.rd' encCall.len hmd.out)).mono ?_
                  rintro e w8 ⟨v8, rfl, hm8, hb8⟩
                  have e8 : w8.cell? ⟨wo.heap.size, 6, none⟩ = some (.int .i64 z.fin) := cell_of_row _ _ 6 _ _ _ ((hb8.block _ (Array.getElem?_eq_some_iff.1 HXR.out).1).trans HXR.out)
                  have HB8 := Lib.hid (HBW.out.trans (hb8.mono HBW.out.size))
                  clear hb8 hm8
                  rw [HSS.out.1, HSS.out.2, hfin.out]
                  by_cases hq : best (cutL (z.fin + 1) l) = none
                  · have hd : decide (best (cutL (z.fin + 1) l) ≠ none) = false := decide_eq_false (fun h => h hq)
                    rw [hd]
                    have hs := HS.out
                    rw [if_pos hq] at hs
                    have HSF := Lib.hid hs
                    clear hq hd hs HS
                    dsimp only
                    go_wp2_with fail
                    go_roundw
                    case rel => exact ⟨k0 + 1, z.fin, by omega, by go_num, rfl, HSF.out, HB8.out⟩
                    case measure => simp [intOf]; omega
                  · have hd : decide (best (cutL (z.fin + 1) l) ≠ none) = true := decide_eq_true hq
                    rw [hd]
                    have hs := HS.out
                    rw [if_neg hq] at hs
                    have HSF := Lib.hid hs
                    clear hq hd hs HS
                    dsimp only
                    go_wp2_with fail
                    go_roundw
                    case rel => exact ⟨k0 + 1, b, by omega, by go_num, rfl, HSF.out, HB8.out⟩
                    case measure => simp [intOf]; omega
        · skip
          have HS := Lib.hid (HSK.out (.inl rfl))
          clear HSK HGO
          go_wp2_with fail
          go_roundw
          case rel => exact ⟨k0 + 1, b, by omega, by go_num, rfl, HS.out, hbo.out.alloc hzo _⟩
          case measure => simp [intOf]; omega
      · have g2 : decide ((k0:Int) < (l.length : Int)) = false := decide_eq_false (by omega)
        have g3 : decide (k0 < l.length) = false := decide_eq_false h1
        have hfin := hbv.out
        rw [List.take_of_length_le (by omega)] at hfin
        have HFIN := Lib.hid hfin
        clear hfin hbv
        go_wp2_with fail
        rw [HT0.out]
        refine ⟨?_, HB1.out.trans (hbo.out.mono HB1.out.size)⟩
        rw [HAN.out, HFIN.out]
        rfl
  · have HAN : Hid (worstL l = (0, ez)) := by show _ = _; unfold worstL; rw [if_pos (by rw [← HEZ.out]; exact he0), ← HEZ.out]
    have he1 : (ez == 0) = false := by simpa using he0
    have he2 : (ez != 0) = true := by simpa using he0
    have he3 : decide (ez = 0) = false := decide_eq_false he0
    clear he0
    dsimp only
    go_wp2_with fail
    rw [HT0.out]
    refine ⟨?_, HB1.out⟩
    rw [HAN.out]
    rfl

end Go.Proofs.Ytmfidhlhcochoaa
