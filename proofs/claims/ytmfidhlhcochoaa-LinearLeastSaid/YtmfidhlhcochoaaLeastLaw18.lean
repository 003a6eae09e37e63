/- LinearLeast answers true. Conditions: sizes within the form's own reach. -/
import Derived.Test.YtmfidhlhcochoaaLeastPlain
import Derived.Test.YtmfidhlhcochoaaSearches18
import Derived.Test.YtmfidhlhcochoaaHolds
import Derived.Test.YtmfidhlhcochoaaWorst18
import Derived.Test.YtmfidhlhcochoaaChecks18
import Derived.Test.YtmfidhlhcochoaaWorks18
namespace Go.Proofs.Ytmfidhlhcochoaa
open Go.RowKit
set_option linter.unusedVariables false
set_option linter.unusedSimpArgs false

set_option maxHeartbeats 1600000 in
theorem in_prog (A : Option Addr) (c n : Nat) (is : List Nat) (hn : n = is.length) (k : Nat) (w : World) (hl : is.length ≤ 9223372036854775806) (ha : Rd icell 1 w w.heap.size A is) :
    Calls Try.prog 47 #[.slice A n c, .int .i64 (k : Nat)] w fun e w' => e = .returned (.bool (decide (k ∈ is))) ∧ w' = w := by
  subst hn
  obtain ⟨r, hr⟩ : ∃ r, r = decide (k ∈ is) := ⟨_, rfl⟩
  rw [← hr]
  have HA := Lib.hid ha
  have HR := Lib.hid hr
  clear ha hr
  go_enter Try.func47, Try.ntmps47
  go_wp2_with fail
  go_loopw [5] (fun i wr => ∃ j : Nat, j ≤ is.length ∧ i = .int .i64 j ∧ Hid (∀ q (h : q < is.length), q < j → is[q] ≠ k) ∧ wr = w) (fun i _ => is.length - (intOf i).toNat)
  case atStart => exact ⟨0, by omega, rfl, fun q _ h => absurd h (Nat.not_lt_zero q), rfl⟩
  case round =>
    obtain ⟨j, hj, rfl, hno, rfl⟩ := hrel
    by_cases h1 : j < is.length
    · obtain ⟨ad, hA, _, hca⟩ := HA.out.at_ h1
      have g1 : (j:Int) < (is.length : Int) := by omega
      have i2 : (0:Int) ≤ (j:Int) := by omega
      have d0 : wr.cell? (ad.add j) = some (.int .i64 (is[j] : Nat)) := by have := hca.one; rwa [Nat.mul_one] at this
      subst hA
      clear hca
      by_cases he : is[j] = k
      · obtain rfl : r = true := HR.out.trans (decide_eq_true (by rw [← he]; exact List.getElem_mem h1))
        rw [he] at d0
        clear he
        go_wp2_with fail
        go_ret
        exact ⟨rfl, rfl⟩
      · have hnx : Hid (∀ q (h : q < is.length), q < j + 1 → is[q] ≠ k) := fun q hq hlt => by
          by_cases e : q = j
          · subst e; exact he
          · exact hno.out q hq (by omega)
        have e1 : ((is[j] : Int) == (k : Int)) = false := by simp; omega
        have e2 : decide ((is[j] : Int) = (k : Int)) = false := decide_eq_false (by omega)
        have e3 : ¬ is[j] = k := he
        generalize is[j] = y at *
        go_wp2_with fail
        go_roundw
        case rel => exact ⟨j + 1, by omega, by go_num, hnx, (by first | rfl | trivial)⟩
        case measure => simp [intOf]; omega
    · obtain rfl : r = false := HR.out.trans (decide_eq_false (fun hm => by
        obtain ⟨q, hq, e⟩ := List.mem_iff_getElem.1 hm
        exact hno.out q hq (by omega) e))
      have g2 : decide ((j:Int) < (is.length : Int)) = false := decide_eq_false (by omega)
      have g3 : decide (j < is.length) = false := decide_eq_false h1
      go_wp2_with fail
      go_ret
      exact ⟨rfl, rfl⟩
theorem slice_keep (A : Option Addr) (n c k : Nat) (hA : A ≠ none) (hk : k ≤ c) (W : World) : (Instr.slice 23 (.slice A n c) none (some (.int .i64 (k : Nat))) none).run Try.prog W = .ok (.slice A k c) W := by
  have hu2 := Try.underlying23
  cases A with
  | none => exact absurd rfl hA
  | some ad => go_simp
def NextOPost (is : List Nat) (m : Nat) (w : World) (e : Ending) (w' : World) : Prop :=
  Below w.heap.size w w' ∧ ((∃ ks A' c', nextO is m = some ks ∧ e = .returned (.tuple #[.slice A' ks.length c', .bool true]) ∧ Rd icell 1 w' w'.heap.size A' ks) ∨ (nextO is m = none ∧ e = .returned (.tuple #[.slice none 0 0, .bool false])))
theorem lack_in {is : List Nat} {m k f : Nat} (hk : k < m) (h : k ∈ is) : lackL is m k (f + 1) = lackL is m (k + 1) f := by
  simp only [lackL]; rw [if_pos hk, if_pos h]
theorem lack_out {is : List Nat} {m k f : Nat} (hk : k < m) (h : k ∉ is) : lackL is m k (f + 1) = some k := by
  simp only [lackL]; rw [if_pos hk, if_neg h]
theorem lack_end {is : List Nat} {m k f : Nat} (hk : ¬ k < m) : lackL is m k f = none := by
  cases f with
  | zero => rfl
  | succ f => simp only [lackL]; rw [if_neg hk]
theorem backL_snoc (m f : Nat) (d : List Nat) (x : Nat) : backL m (f + 1) (d ++ [x]) = match lackL d m (x + 1) (m - x) with
      | some k => some (d ++ [k])
      | none => backL m f d := by
  simp only [backL, List.getLast?_append, List.getLast?_singleton, Option.some_or, List.dropLast_concat]
  cases lackL d m (x + 1) (m - x) <;> rfl

set_option maxRecDepth 100000 in
set_option maxHeartbeats 8000000 in
theorem nextO_prog (A : Option Addr) (c n : Nat) (is : List Nat) (hn : n = is.length) (m : Nat) (w : World) (hl : is.length ≤ 100) (hm : m ≤ 100) (hi : ∀ i ∈ is, i ≤ 100) (ha : Rd icell 1 w w.heap.size A is) :
    Calls Try.prog 15 #[.slice A n c, .int .i64 (m : Nat)] w (NextOPost is m w) := by
  subst hn
  obtain ⟨T0, hT0⟩ : ∃ T0 : Ending → World → Prop, T0 = NextOPost is m w := ⟨_, rfl⟩
  rw [← hT0]
  have HT0 := Lib.hid hT0
  have HA := Lib.hid ha
  have HI := Lib.hid hi
  have HM0 : Hid (Made icell 1 3 w.heap.size w (.slice none 0 0) ([] : List Nat)) := Made.nil _ _ _
  clear ha hi hT0
  go_enter Try.func15, Try.ntmps15
  go_wp2_with (at_builtin; go_loud (refine wpList_app (v := .slice none 0 0) (xs := []) rowInt encI rfl (.tmp 10) (.tmp 11) rfl w.heap.size rfl HM0.out rfl rfl HA.out (by simp; omega) (by unfold maxLen; simp; omega) (Nat.le_refl _) ?_); intro v3 w3 hm3 hg3 hat3; obtain ⟨A3, c3, rfl, hc3⟩ := hm3.form; simp only [List.nil_append] at hm3; have hgb3 := Below.grown (Below.refl _ _) hg3 (Nat.le_refl w.heap.size) (by simp [Value.ownBlock]); have HM3 := Lib.hid hm3; have HB3 := Lib.hid hgb3; clear hm3 hg3 hat3 hgb3 hc3)
  go_loopw [7] (fun i wr => ∃ k : Nat, i = .int .i64 k ∧ k ≤ m ∧ Hid (lackL is m 0 (m + 1) = lackL is m k (m + 1 - k)) ∧ wr = w3) (fun i _ => m - (intOf i).toNat)
  case atStart => exact ⟨0, rfl, by omega, rfl, rfl⟩
  case round =>
    obtain ⟨k, rfl, hk, hlk, rfl⟩ := hrel
    by_cases h1 : k < m
    · have g1 : (k:Int) < (m : Int) := by omega
      have g1n : decide ((k:Int) < (m : Int)) = true := decide_eq_true g1
      have hfs : m + 1 - k = (m - k) + 1 := by omega
      go_wp2_with fail
      refine (in_prog A3 c3 is.length is rfl k wr (by omega) (Made.rd' encI.len HM3.out)).mono ?_
      rintro e w4 ⟨rfl, rfl⟩
      by_cases hmem : k ∈ is
      · rw [decide_eq_true hmem]
        have hnx : Hid (lackL is m 0 (m + 1) = lackL is m (k + 1) (m + 1 - (k + 1))) := by
          show _ = _
          rw [hlk.out, hfs, lack_in h1 hmem]
          congr 1
          omega
        clear hmem
        dsimp only
        go_wp2_with fail
        go_roundw
        case rel => exact ⟨k + 1, by go_num, by omega, hnx.out, (by first | rfl | trivial)⟩
        case measure => simp [intOf]; omega
      · rw [decide_eq_false hmem]
        have hyes : Hid (nextO is m = some (is ++ [k])) := by
          show _ = _
          unfold nextO
          rw [hlk.out, hfs, lack_out h1 hmem]
        clear hmem
        have hz3 := HB3.out.size
        dsimp only
        go_wp2_with (at_builtin; go_loud (refine wpList_app (v := .slice A3 is.length c3) (xs := is) (ys := [k]) rowInt encI rfl (.tmp 22) (.tmp 24) rfl w.heap.size rfl (HM3.out.alloc _) rfl rfl (rd_one encI _ k #[.int .i64 (k : Nat)] rfl 3) (by simp only [List.length_singleton]; omega) (by unfold maxLen; simp only [List.length_singleton]; omega) (by simp; omega) ?_); intro v7 w7 hm7 hg7 hat7; have HM7 := Lib.hid hm7; have hg7b := Below.grown (HB3.out.alloc (by omega) _) hg7 (by simp; omega) (fun q e => (HM3.out.lt q e).1); have HG7 := Lib.hid hg7b; obtain ⟨A7, c7, rfl, hc7⟩ := hm7.form; clear hm7 hg7 hat7 hc7 hg7b)
        rw [HT0.out]
        exact ⟨HG7.out, .inl ⟨is ++ [k], A7, c7, hyes.out, by rw [List.length_append]; rfl, Made.rd' encI.len HM7.out⟩⟩
    · have g2 : decide ((k:Int) < (m : Int)) = false := decide_eq_false (by omega)
      have hno : Hid (nextO is m = backL m (is.length + 1) is) := by
        show _ = _
        unfold nextO
        rw [hlk.out, lack_end h1]
      clear hlk
      go_wp2_with fail
      go_loopw [6] (fun v wv => ∃ out A5 c5, v = .slice A5 out.length c5 ∧ out.length ≤ 100 ∧ Hid (∀ i ∈ out, i ≤ 100) ∧ Hid (nextO is m = backL m (out.length + 1) out) ∧ Hid (Made icell 1 3 w.heap.size wv (.slice A5 out.length c5) out) ∧ Hid (Below w.heap.size w wv)) (fun v _ => match v with | .slice _ q _ => q | _ => 0)
      case atStart => exact ⟨is, A3, c3, rfl, hl, HI.out, hno.out, HM3.out, HB3.out⟩
      case round =>
        obtain ⟨out, A5, c5, rfl, ho1, hoi, hnb, hmd, hbr⟩ := hrel
        rcases List.eq_nil_or_concat out with hout | ⟨d, x, hout⟩
        · subst hout
          have hend : Hid (nextO is m = none) := hnb.out
          clear hnb
          go_wp2_with fail
          rw [HT0.out]
          exact ⟨hbr.out, .inr ⟨hend.out, rfl⟩⟩
        · rw [List.concat_eq_append] at hout
          have hx := hoi.out x (by rw [hout]; simp)
          have hdl : out.length = d.length + 1 := by rw [hout]; simp
          obtain ⟨pn, hpn⟩ : ∃ pn, pn = out.length := ⟨_, rfl⟩
          have hrd := Made.rd' encI.len hmd.out
          obtain ⟨ad, hA, hal, hca⟩ := hrd.at_ (i := d.length) (by omega)
          have hox : out[d.length]'(by omega) = x := by simp [hout]
          rw [hox] at hca
          have d0 : wr.cell? (ad.add d.length) = some (.int .i64 (x : Nat)) := by have := hca.one; rwa [Nat.mul_one] at this
          have hcut := Made.cutTo encI.len hmd.out (show d.length ≤ out.length by omega) (by rw [hA]; simp)
          have htk : out.take d.length = d := by rw [hout]; simp
          rw [htk] at hcut
          obtain ⟨pd, hpd⟩ : ∃ pd, pd = d.length := ⟨_, rfl⟩
          have hc5 : pn ≤ c5 := by
            obtain ⟨A', c', hv, hcc⟩ := hmd.out.form
            injection hv with q1 q2 q3
            omega
          have hnb2 := hnb.out
          rw [hdl, hout, backL_snoc] at hnb2
          have HNB := Lib.hid hnb2
          have HCUT := Lib.hid hcut
          have HDI : Hid (∀ i ∈ d, i ≤ 100) := fun i hi => hoi.out i (by rw [hout]; simp [hi])
          have HPD := Lib.hid hpd
          have hw1 : IntKind.i64.wrap ((pn:Int) - 1) = (pd:Int) := by rw [IntWalk.i64_in _ (by omega)]; omega
          have hw2 : IntKind.i64.wrap ((x:Int) + 1) = (x:Int) + 1 := IntWalk.i64_in _ (by omega)
          have hA2 := hA
          have hsl := slice_keep A5 pn c5 pd (by rw [hA2]; simp) (by omega)
          have g6 : (0:Int) < (pn:Int) := by omega
          have g6b : decide ((0:Int) < (pn:Int)) = true := decide_eq_true g6
          have g6n : 0 < pn := by omega
          have g6c : decide (0 < pn) = true := decide_eq_true g6n
          have g7 : (pd:Int) < (pn:Int) := by omega
          have g8 : (0:Int) ≤ (pd:Int) := by omega
          rw [← hpd] at d0
          cases hA
          rw [← hpn] at hmd ⊢
          have HPN := Lib.hid hpn
          clear hrd hca hcut hnb2 hnb hoi hdl hout hox htk hpd hc5 hpn hA2
          go_wp2_with (first | (rw [hsl]) | fail)
          obtain ⟨wo, hwo⟩ : ∃ wo, wo = wr := ⟨_, rfl⟩
          subst hwo
          go_loopw [9] (fun i wi => ∃ k : Nat, i = .int .i64 k ∧ (k ≤ m ∨ k = x + 1) ∧ x + 1 ≤ k ∧ Hid (lackL d m (x + 1) (m - x) = lackL d m k (m + 1 - k)) ∧ wi = wo) (fun i _ => m - (intOf i).toNat)
          case atStart => exact ⟨x + 1, by go_num, .inr rfl, Nat.le_refl _, by show _ = _; congr 1; omega, rfl⟩
          case round =>
            obtain ⟨k2, rfl, hk2, hk2x, hlk2, rfl⟩ := hrel
            by_cases h2 : k2 < m
            · have g9 : (k2:Int) < (m : Int) := by omega
              have g9n : decide ((k2:Int) < (m : Int)) = true := decide_eq_true g9
              have hfs : m + 1 - k2 = (m - k2) + 1 := by omega
              go_wp2_with fail
              refine (in_prog (some ad) c5 pd d HPD.out k2 wr (by have := HPN.out; have := HPD.out; omega) (by have := Made.rd' encI.len HCUT.out; exact this)).mono ?_
              rintro e w4 ⟨rfl, rfl⟩
              by_cases hmem : k2 ∈ d
              · rw [decide_eq_true hmem]
                have hnx : Hid (lackL d m (x + 1) (m - x) = lackL d m (k2 + 1) (m + 1 - (k2 + 1))) := by
                  show _ = _
                  rw [hlk2.out, hfs, lack_in h2 hmem]
                  congr 1
                  omega
                clear hmem
                dsimp only
                go_wp2_with fail
                go_roundw
                case rel => exact ⟨k2 + 1, by go_num, by omega, by omega, hnx.out, (by first | rfl | trivial)⟩
                case measure => simp [intOf]; omega
              · rw [decide_eq_false hmem]
                have hyes : Hid (nextO is m = some (d ++ [k2])) := by
                  show _ = _
                  rw [HNB.out, hlk2.out, hfs, lack_out h2 hmem]
                clear hmem
                have hzb := hbr.out.size
                have hcc := HCUT.out
                rw [← HPD.out] at hcc
                have HCC := Lib.hid hcc
                have hpl : pd ≤ 100 := by have := HPN.out; omega
                have HDL : Hid (d.length ≤ 100) := by show _ ≤ _; have := HPD.out; omega
                clear hcc
                dsimp only
                go_wp2_with (at_builtin; go_loud (refine wpList_app (v := .slice (some ad) pd c5) (xs := d) (ys := [k2]) rowInt encI rfl (.tmp 51) (.tmp 53) rfl w.heap.size rfl (HCC.out.alloc _) rfl rfl (rd_one encI _ k2 #[.int .i64 (k2 : Nat)] rfl 3) (by have := HDL.out; simp only [List.length_singleton]; omega) (by have := HDL.out; unfold maxLen; simp only [List.length_singleton]; omega) (by simp; omega) ?_); intro v7 w7 hm7 hg7 hat7; have HM7 := Lib.hid hm7; have hg7b := Below.grown (hbr.out.alloc hzb _) hg7 (by simp; omega) (fun q e => (HCC.out.lt q e).1); have HG7 := Lib.hid hg7b; obtain ⟨A7, c7, rfl, hc7⟩ := hm7.form; clear hm7 hg7 hat7 hc7 hg7b)
                rw [HT0.out]
                exact ⟨HG7.out, .inl ⟨d ++ [k2], A7, c7, hyes.out, by rw [List.length_append]; rfl, Made.rd' encI.len HM7.out⟩⟩
            · have g9n : decide ((k2:Int) < (m : Int)) = false := decide_eq_false (by omega)
              have g9m : decide (k2 < m) = false := decide_eq_false h2
              have hnx : Hid (nextO is m = backL m (d.length + 1) d) := by
                show _ = _
                rw [HNB.out, hlk2.out, lack_end h2]
              have hcc := HCUT.out
              have HCC := Lib.hid hcc
              have hdl := HPD.out
              have hpl := HPN.out
              have hdl2 : Hid (d.length < pn) := by show _ < _; omega
              have hd1 : Hid (d.length ≤ 100) := by show _ ≤ _; omega
              have hsv : Hid ((Value.slice (some ad) pd c5) = .slice (some ad) d.length c5) := by show _ = _; rw [hdl]
              clear hcc hdl hpl hlk2
              go_wp2_with fail
              go_roundw
              case rel => exact ⟨d, some ad, c5, hsv.out, hd1.out, HDI.out, hnx.out, HCC.out, hbr.out⟩
              case measure => have := hdl2.out; have := HPD.out; simp; omega

theorem ords_len (n : Nat) : 0 < (ords n).length := by unfold ords allFrom; simp
theorem ords_zero (n : Nat) : (ords n)[0]? = some [] := by unfold ords allFrom; rfl
theorem holds_ords {l : List Call} (hc : checkL l = 0) {j : Nat} (h5 : l.length ≤ 5) (h : j < (ords l.length).length) : holdsL l ((ords l.length)[j].map Int.ofNat) = (walkH l (allFree l) [] (ords l.length)[j] 0, 0) := by
  unfold holdsL
  rw [if_neg (by rw [hc]; decide), if_pos (ords_ok h5 h), List.map_map]
  have : (Int.toNat ∘ Int.ofNat) = (id : Nat → Nat) := funext fun x => by simp
  rw [this, List.map_id]
theorem ordsSmall : ∀ n, n < 6 → ((ords n).all fun is => decide (is.length ≤ 5) && is.all fun i => decide (i ≤ 5)) = true := by
  intro n h
  match n, h with
  | 0, _ => decide +kernel
  | 1, _ => decide +kernel
  | 2, _ => decide +kernel
  | 3, _ => decide +kernel
  | 4, _ => decide +kernel
  | 5, _ => decide +kernel
theorem ords_small {n j : Nat} (hn : n ≤ 5) (h : j < (ords n).length) : (ords n)[j].length ≤ 5 ∧ ∀ i ∈ (ords n)[j], i ≤ 5 := by
  have h1 := List.all_eq_true.1 (ordsSmall n (by omega)) _ (List.getElem_mem h)
  simp only [Bool.and_eq_true, decide_eq_true_eq, List.all_eq_true] at h1
  exact h1
theorem rdZ_of {w : World} {B : Nat} {A : Option Addr} {is : List Nat} (h : Rd icell 1 w B A is) : Rd zcell 1 w B A (is.map Int.ofNat) := fun i x hx => by
  rw [List.getElem?_map, Option.map_eq_some_iff] at hx
  obtain ⟨y, hy, rfl⟩ := hx
  exact h i y hy

/-- Where the search for the first order stands. -/
def LeastAt (m : List Call) (bb : Bool) (os : List Nat) (gk : Nat) : Prop := match bb with
  | true => ∃ j, ∃ h : j < (ords m.length).length, os = (ords m.length)[j] ∧ (∀ i (hi : i < (ords m.length).length), i < j → holdsO m (ords m.length)[i] = false) ∧ gk + j = (ords m.length).length
  | false => ∀ i (hi : i < (ords m.length).length), holdsO m (ords m.length)[i] = false
theorem leastAt_start (m : List Call) : LeastAt m true [] (ords m.length).length :=
  ⟨0, ords_len _, by have := ords_zero m.length; rw [List.getElem?_eq_getElem (ords_len _)] at this; exact (Option.some.inj this).symm, fun i hi h => absurd h (Nat.not_lt_zero i), rfl⟩
theorem search_is {m : List Call} (hz : (searchL m).2.2 = 0) : (∀ ks, best m = some ks → (searchL m).1 = ks ∧ (searchL m).2.1 = true) ∧ (best m = none → (searchL m).1 = [] ∧ (searchL m).2.1 = false) := by
  obtain ⟨h1, h2, _⟩ := search_ok hz
  unfold searchL
  rw [if_neg (by rw [h1]; decide), if_neg (by omega)]
  exact ⟨fun ks h => by rw [h]; exact ⟨rfl, rfl⟩, fun h => by rw [h]; exact ⟨rfl, rfl⟩⟩
theorem search_bad {m : List Call} (hz : (searchL m).2.2 ≠ 0) : (searchL m).1 = [] ∧ (searchL m).2.1 = false := by
  unfold searchL at hz ⊢
  by_cases h1 : checkL m ≠ 0
  · rw [if_pos h1]; exact ⟨rfl, rfl⟩
  · rw [if_neg h1] at hz ⊢
    by_cases h2 : 8 < m.length
    · rw [if_pos h2]; exact ⟨rfl, rfl⟩
    · rw [if_neg h2] at hz
      exfalso
      revert hz
      cases best m <;> exact fun h => h rfl
theorem slice_call (A : Option Addr) (n c k : Nat) (hA : A ≠ none) (hk : k ≤ c) (W : World) : (Instr.slice 22 (.slice A n c) none (some (.int .i64 (k : Nat))) none).run Try.prog W = .ok (.slice A k c) W := by
  have hu2 := Try.underlying22
  cases A with
  | none => exact absurd rfl hA
  | some ad => go_simp

set_option maxRecDepth 100000 in
set_option maxHeartbeats 8000000 in
theorem least18_calls (A : Option Addr) (c n : Nat) (l : List Call) (hn : n = l.length) (hnc : n ≤ c) (w : World) (hl : (l.length + 1) * 96 ≤ 140737488355328) (hv : ∀ x ∈ l, x.op.value.size ≤ 9223372036854775807) (ha : Rd Call.cells 10 w w.heap.size A l) :
    Calls Try.prog 3 #[.slice A n c] w fun e w' => e = .returned (.bool true) ∧ Below w.heap.size w w' := by
  subst hn
  have HA := Lib.hid ha
  have HV := Lib.hid hv
  clear ha hv
  by_cases h5 : 5 < l.length
  · obtain ⟨m, hm⟩ : ∃ m, m = l.take 5 := ⟨_, rfl⟩
    have HN : Hid (5 = m.length) := by show _ = _; rw [hm, List.length_take]; omega
    have HM5 : Hid (m.length ≤ 5) := by show _ ≤ _; rw [← HN.out]; exact Nat.le_refl _
    have HVM : Hid (∀ x ∈ m, x.op.value.size ≤ 9223372036854775807) := fun x hx => HV.out x (by rw [hm] at hx; exact List.mem_of_mem_take hx)
    have HRM : Hid (Rd Call.cells 10 w w.heap.size A m) := by rw [hm]; exact HA.out.take 5
    have hml : m.length ≤ 5 := HM5.out
    have hAn : A ≠ none := by
      obtain ⟨ad, hA, _⟩ := HA.out.at_ (i := 0) (by omega)
      rw [hA]; simp
    have hsl := slice_call A l.length c 5 hAn (by omega)
    have h52 : decide (5 < l.length) = true := decide_eq_true h5
    have h53 : decide ((5:Int) < (l.length : Int)) = true := decide_eq_true (by omega)
    clear hm
    go_enter Try.func3, Try.ntmps3
    go_wp2_with (first | (rw [hsl]) | fail)
    refine (search_prog A c 5 m HN.out w (by omega) HVM.out HRM.out).mono ?_
    rintro e w1 ⟨v1, rfl, hm1, hb1⟩
    obtain ⟨A1, c1, rfl, hc1⟩ := hm1.form
    have HB1 := Lib.hid hb1
    have hra := (HRM.out.below hb1).more hb1.size
    have HRA := Lib.hid hra
    have hr1 := Made.rd' encI.len hm1
    have HR1 := Lib.hid hr1
    clear hb1 hra hr1 hm1 hc1
    by_cases hz : (searchL m).2.2 = 0
    · obtain ⟨hck, _, _⟩ := search_ok hz
      have HCK := Lib.hid hck
      have HIS := Lib.hid (search_is hz)
      rw [hz]
      obtain ⟨os1, hos1⟩ : ∃ o, o = (searchL m).1 := ⟨_, rfl⟩
      obtain ⟨ok, hok⟩ : ∃ o, o = (searchL m).2.1 := ⟨_, rfl⟩
      rw [← hos1] at HR1 HIS ⊢
      rw [← hok] at HIS ⊢
      clear hos1 hok hz hck
      dsimp only
      go_wp2_with fail
      go_loopg [6, 7] (ords m.length).length (fun gk v b wr => ∃ os Ao co bb, v = .slice Ao os.length co ∧ b = .bool bb ∧ Hid (LeastAt m bb os gk) ∧ Hid (Rd icell 1 wr wr.heap.size Ao os) ∧ Hid (Below w1.heap.size w1 wr))
      case atStart => exact ⟨[], none, 0, true, rfl, rfl, leastAt_start m, Rd.nil, Below.refl _ _⟩
      case round =>
        obtain ⟨os, Ao, co, bb, rfl, rfl, hat, hrd, hbr⟩ := hrel
        have hbw : Below w.heap.size w wr := HB1.out.trans (hbr.out.mono HB1.out.size)
        have HBW := Lib.hid hbw
        have hra := (HRA.out.below hbr.out).more hbr.out.size
        have HRAw := Lib.hid hra
        have hr1 := (HR1.out.below hbr.out).more hbr.out.size
        have HR1w := Lib.hid hr1
        clear hbw hra hr1
        cases bb
        · have hbn := best_no (show ∀ i (hi : i < (ords m.length).length), holdsO m (ords m.length)[i] = false from hat.out)
          obtain ⟨h1, h2⟩ := HIS.out.2 hbn
          subst h1 h2
          clear hbn
          go_wp2_with fail
          refine (works18 _).mono ?_
          rintro e w6 ⟨rfl, hb6⟩
          have HB6 := Lib.hid (HBW.out.trans (hb6.mono HBW.out.size))
          clear hb6
          dsimp only
          go_wp2_with fail
          go_ret
          exact ⟨rfl, HB6.out⟩
        · obtain ⟨j, hj, hos, hno, hgk⟩ := (show ∃ j, ∃ h : j < (ords m.length).length, os = (ords m.length)[j] ∧ (∀ i (hi : i < (ords m.length).length), i < j → holdsO m (ords m.length)[i] = false) ∧ gk + j = (ords m.length).length from hat.out)
          have hsm := ords_small HM5.out hj
          rw [← hos] at hsm
          have hhl := holds_ords HCK.out HM5.out hj
          rw [← hos] at hhl
          have hnx := nextO_is HM5.out hj
          rw [← hos] at hnx
          have HHL := Lib.hid hhl
          have HNX := Lib.hid hnx
          have HOS := Lib.hid hos
          have HNO := Lib.hid hno
          have HSM := Lib.hid hsm
          clear hat hos hno hsm hhl hnx
          go_wp2_with fail
          refine (holds_prog A c 5 m HN.out Ao co os.length (os.map Int.ofNat) (by simp) wr (by omega) (by have := HSM.out.1; simp; omega) HVM.out HRAw.out (rdZ_of hrd.out)).mono ?_
          rintro e w2 ⟨rfl, hb2⟩
          rw [HHL.out]
          have HBW2 := Lib.hid (HBW.out.trans (hb2.mono HBW.out.size))
          have HB12 := Lib.hid (hbr.out.trans (hb2.mono hbr.out.size))
          have hr1 := (HR1w.out.below hb2).more hb2.size
          have HR12 := Lib.hid hr1
          have hrd2 := (hrd.out.below hb2).more hb2.size
          have HRD2 := Lib.hid hrd2
          have hhd : Hid (holdsO m os = decide (walkH m (allFree m) [] os 0 = -1)) := rfl
          obtain ⟨kk, hkk⟩ : ∃ kk, kk = walkH m (allFree m) [] os 0 := ⟨_, rfl⟩
          rw [← hkk] at hhd ⊢
          clear hb2 hr1 hrd2 hkk
          by_cases hk1 : kk = -1
          · subst hk1
            have hba := best_at hj HNO.out (by rw [← HOS.out, hhd.out]; rfl)
            rw [← HOS.out] at hba
            obtain ⟨h1, h2⟩ := HIS.out.1 _ hba
            subst h1 h2
            clear hba
            dsimp only
            go_wp2_with fail
            refine (works18 _).mono ?_
            rintro e w6 ⟨rfl, hb6⟩
            have HB6 := Lib.hid (HBW2.out.trans (hb6.mono HBW2.out.size))
            have hr16 := (HR12.out.below hb6).more hb6.size
            have HR16 := Lib.hid hr16
            have hrd6 := (HRD2.out.below hb6).more hb6.size
            have HRD6 := Lib.hid hrd6
            clear hb6 hr16 hrd6
            dsimp only
            go_wp2_with fail
            refine (sameInts A1 Ao c1 co os1.length os1 rfl w6 (by have := HSM.out.1; omega) HR16.out HRD6.out).mono ?_
            rintro e w7 ⟨rfl, q7, hw7⟩
            have hb7 : Below w6.heap.size w6 w7 := by rw [hw7]; exact below_drewN (Below.refl _ _) _
            have HB7 := Lib.hid (HB6.out.trans (hb7.mono HB6.out.size))
            clear hw7 hb7
            dsimp only
            go_wp2_with fail
            go_ret
            exact ⟨rfl, HB7.out⟩
          · have hk2 : (kk == -1) = false := by simpa using hk1
            have hk3 : decide (kk = -1) = false := decide_eq_false hk1
            have hfail : Hid (holdsO m os = false) := hhd.out.trans hk3
            have hno2 : Hid (∀ i (hi : i < (ords m.length).length), i < j + 1 → holdsO m (ords m.length)[i] = false) := fun i hi hij => by
              by_cases e : i = j
              · subst e; rw [← HOS.out]; exact hfail.out
              · exact HNO.out i hi (by omega)
            clear hhd hk1
            dsimp only
            go_wp2_with fail
            refine (nextO_prog Ao co os.length os rfl 5 w2 (by have := HSM.out.1; omega) (by have := HM5.out; have := HN.out; omega) (fun i hi => by have := HSM.out.2 i hi; omega) HRD2.out).mono ?_
            rintro e w3 ⟨hb3, hcase⟩
            rw [HN.out, HNX.out] at hcase
            have HB13 := Lib.hid (HB12.out.trans (hb3.mono HB12.out.size))
            clear hb3
            rcases hcase with ⟨ks, A', c', hks, rfl, hrk⟩ | ⟨hks, rfl⟩
            · have hlt : j + 1 < (ords m.length).length := (List.getElem?_eq_some_iff.1 hks).1
              have hke := (List.getElem?_eq_some_iff.1 hks).2
              have HAT : Hid (LeastAt m true ks (gk - 1)) := ⟨j + 1, hlt, hke.symm, hno2.out, by omega⟩
              have HRK := Lib.hid hrk
              have hgp : 0 < gk := by omega
              clear hks hrk hke hlt hgk
              dsimp only
              go_wp2_with fail
              go_roundg (gk - 1)
              case rel => exact ⟨ks, A', c', true, rfl, rfl, HAT.out, HRK.out, HB13.out⟩
              case measure => omega
            · have hge : (ords m.length).length ≤ j + 1 := List.getElem?_eq_none_iff.1 hks
              have HAT : Hid (LeastAt m false [] (gk - 1)) := fun i hi => hno2.out i hi (by omega)
              have hgp : 0 < gk := by omega
              clear hks hge hgk
              dsimp only
              go_wp2_with fail
              go_roundg (gk - 1)
              case rel => exact ⟨[], none, 0, false, rfl, rfl, HAT.out, Rd.nil, HB13.out⟩
              case measure => omega
    · obtain ⟨h1, h2⟩ := search_bad hz
      obtain ⟨os1, hos1⟩ : ∃ o, o = (searchL m).1 := ⟨_, rfl⟩
      rw [← hos1] at h1 HR1 ⊢
      subst h1
      rw [h2]
      obtain ⟨ez, hez⟩ : ∃ o, o = (searchL m).2.2 := ⟨_, rfl⟩
      rw [← hez] at hz ⊢
      have he1 : (ez == 0) = false := by simpa using hz
      have he2 : (ez != 0) = true := by simpa using hz
      have he3 : decide (ez = 0) = false := decide_eq_false hz
      clear hos1 h2 hez hz
      dsimp only
      go_wp2_with fail
      refine (works18 _).mono ?_
      rintro e w6 ⟨rfl, hb6⟩
      have HB6 := Lib.hid (HB1.out.trans (hb6.mono HB1.out.size))
      clear hb6
      dsimp only
      go_wp2_with fail
      go_ret
      exact ⟨rfl, HB6.out⟩
  · obtain ⟨m, hm⟩ : ∃ m, m = l := ⟨_, rfl⟩
    subst hm
    have HM5 : Hid (m.length ≤ 5) := by show _ ≤ _; omega
    have HVM : Hid (∀ x ∈ m, x.op.value.size ≤ 9223372036854775807) := HV.out
    have HRM : Hid (Rd Call.cells 10 w w.heap.size A m) := HA.out
    have hml : m.length ≤ 5 := HM5.out
    have h52 : decide (5 < m.length) = false := decide_eq_false h5
    have h53 : decide ((5:Int) < (m.length : Int)) = false := decide_eq_false (by omega)
    go_enter Try.func3, Try.ntmps3
    go_wp2_with fail
    refine (search_prog A c m.length m rfl w (by omega) HVM.out HRM.out).mono ?_
    rintro e w1 ⟨v1, rfl, hm1, hb1⟩
    obtain ⟨A1, c1, rfl, hc1⟩ := hm1.form
    have HB1 := Lib.hid hb1
    have hra := (HRM.out.below hb1).more hb1.size
    have HRA := Lib.hid hra
    have hr1 := Made.rd' encI.len hm1
    have HR1 := Lib.hid hr1
    clear hb1 hra hr1 hm1 hc1
    by_cases hz : (searchL m).2.2 = 0
    · obtain ⟨hck, _, _⟩ := search_ok hz
      have HCK := Lib.hid hck
      have HIS := Lib.hid (search_is hz)
      rw [hz]
      obtain ⟨os1, hos1⟩ : ∃ o, o = (searchL m).1 := ⟨_, rfl⟩
      obtain ⟨ok, hok⟩ : ∃ o, o = (searchL m).2.1 := ⟨_, rfl⟩
      rw [← hos1] at HR1 HIS ⊢
      rw [← hok] at HIS ⊢
      clear hos1 hok hz hck
      dsimp only
      go_wp2_with fail
      go_loopg [6, 7] (ords m.length).length (fun gk v b wr => ∃ os Ao co bb, v = .slice Ao os.length co ∧ b = .bool bb ∧ Hid (LeastAt m bb os gk) ∧ Hid (Rd icell 1 wr wr.heap.size Ao os) ∧ Hid (Below w1.heap.size w1 wr))
      case atStart => exact ⟨[], none, 0, true, rfl, rfl, leastAt_start m, Rd.nil, Below.refl _ _⟩
      case round =>
        obtain ⟨os, Ao, co, bb, rfl, rfl, hat, hrd, hbr⟩ := hrel
        have hbw : Below w.heap.size w wr := HB1.out.trans (hbr.out.mono HB1.out.size)
        have HBW := Lib.hid hbw
        have hra := (HRA.out.below hbr.out).more hbr.out.size
        have HRAw := Lib.hid hra
        have hr1 := (HR1.out.below hbr.out).more hbr.out.size
        have HR1w := Lib.hid hr1
        clear hbw hra hr1
        cases bb
        · have hbn := best_no (show ∀ i (hi : i < (ords m.length).length), holdsO m (ords m.length)[i] = false from hat.out)
          obtain ⟨h1, h2⟩ := HIS.out.2 hbn
          subst h1 h2
          clear hbn
          go_wp2_with fail
          refine (works18 _).mono ?_
          rintro e w6 ⟨rfl, hb6⟩
          have HB6 := Lib.hid (HBW.out.trans (hb6.mono HBW.out.size))
          clear hb6
          dsimp only
          go_wp2_with fail
          go_ret
          exact ⟨rfl, HB6.out⟩
        · obtain ⟨j, hj, hos, hno, hgk⟩ := (show ∃ j, ∃ h : j < (ords m.length).length, os = (ords m.length)[j] ∧ (∀ i (hi : i < (ords m.length).length), i < j → holdsO m (ords m.length)[i] = false) ∧ gk + j = (ords m.length).length from hat.out)
          have hsm := ords_small HM5.out hj
          rw [← hos] at hsm
          have hhl := holds_ords HCK.out HM5.out hj
          rw [← hos] at hhl
          have hnx := nextO_is HM5.out hj
          rw [← hos] at hnx
          have HHL := Lib.hid hhl
          have HNX := Lib.hid hnx
          have HOS := Lib.hid hos
          have HNO := Lib.hid hno
          have HSM := Lib.hid hsm
          clear hat hos hno hsm hhl hnx
          go_wp2_with fail
          refine (holds_prog A c m.length m rfl Ao co os.length (os.map Int.ofNat) (by simp) wr (by omega) (by have := HSM.out.1; simp; omega) HVM.out HRAw.out (rdZ_of hrd.out)).mono ?_
          rintro e w2 ⟨rfl, hb2⟩
          rw [HHL.out]
          have HBW2 := Lib.hid (HBW.out.trans (hb2.mono HBW.out.size))
          have HB12 := Lib.hid (hbr.out.trans (hb2.mono hbr.out.size))
          have hr1 := (HR1w.out.below hb2).more hb2.size
          have HR12 := Lib.hid hr1
          have hrd2 := (hrd.out.below hb2).more hb2.size
          have HRD2 := Lib.hid hrd2
          have hhd : Hid (holdsO m os = decide (walkH m (allFree m) [] os 0 = -1)) := rfl
          obtain ⟨kk, hkk⟩ : ∃ kk, kk = walkH m (allFree m) [] os 0 := ⟨_, rfl⟩
          rw [← hkk] at hhd ⊢
          clear hb2 hr1 hrd2 hkk
          by_cases hk1 : kk = -1
          · subst hk1
            have hba := best_at hj HNO.out (by rw [← HOS.out, hhd.out]; rfl)
            rw [← HOS.out] at hba
            obtain ⟨h1, h2⟩ := HIS.out.1 _ hba
            subst h1 h2
            clear hba
            dsimp only
            go_wp2_with fail
            refine (works18 _).mono ?_
            rintro e w6 ⟨rfl, hb6⟩
            have HB6 := Lib.hid (HBW2.out.trans (hb6.mono HBW2.out.size))
            have hr16 := (HR12.out.below hb6).more hb6.size
            have HR16 := Lib.hid hr16
            have hrd6 := (HRD2.out.below hb6).more hb6.size
            have HRD6 := Lib.hid hrd6
            clear hb6 hr16 hrd6
            dsimp only
            go_wp2_with fail
            refine (sameInts A1 Ao c1 co os1.length os1 rfl w6 (by have := HSM.out.1; omega) HR16.out HRD6.out).mono ?_
            rintro e w7 ⟨rfl, q7, hw7⟩
            have hb7 : Below w6.heap.size w6 w7 := by rw [hw7]; exact below_drewN (Below.refl _ _) _
            have HB7 := Lib.hid (HB6.out.trans (hb7.mono HB6.out.size))
            clear hw7 hb7
            dsimp only
            go_wp2_with fail
            go_ret
            exact ⟨rfl, HB7.out⟩
          · have hk2 : (kk == -1) = false := by simpa using hk1
            have hk3 : decide (kk = -1) = false := decide_eq_false hk1
            have hfail : Hid (holdsO m os = false) := hhd.out.trans hk3
            have hno2 : Hid (∀ i (hi : i < (ords m.length).length), i < j + 1 → holdsO m (ords m.length)[i] = false) := fun i hi hij => by
              by_cases e : i = j
              · subst e; rw [← HOS.out]; exact hfail.out
              · exact HNO.out i hi (by omega)
            clear hhd hk1
            dsimp only
            go_wp2_with fail
            refine (nextO_prog Ao co os.length os rfl m.length w2 (by have := HSM.out.1; omega) (by have := HM5.out; omega) (fun i hi => by have := HSM.out.2 i hi; omega) HRD2.out).mono ?_
            rintro e w3 ⟨hb3, hcase⟩
            rw [HNX.out] at hcase
            have HB13 := Lib.hid (HB12.out.trans (hb3.mono HB12.out.size))
            clear hb3
            rcases hcase with ⟨ks, A', c', hks, rfl, hrk⟩ | ⟨hks, rfl⟩
            · have hlt : j + 1 < (ords m.length).length := (List.getElem?_eq_some_iff.1 hks).1
              have hke := (List.getElem?_eq_some_iff.1 hks).2
              have HAT : Hid (LeastAt m true ks (gk - 1)) := ⟨j + 1, hlt, hke.symm, hno2.out, by omega⟩
              have HRK := Lib.hid hrk
              have hgp : 0 < gk := by omega
              clear hks hrk hke hlt hgk
              dsimp only
              go_wp2_with fail
              go_roundg (gk - 1)
              case rel => exact ⟨ks, A', c', true, rfl, rfl, HAT.out, HRK.out, HB13.out⟩
              case measure => omega
            · have hge : (ords m.length).length ≤ j + 1 := List.getElem?_eq_none_iff.1 hks
              have HAT : Hid (LeastAt m false [] (gk - 1)) := fun i hi => hno2.out i hi (by omega)
              have hgp : 0 < gk := by omega
              clear hks hge hgk
              dsimp only
              go_wp2_with fail
              go_roundg (gk - 1)
              case rel => exact ⟨[], none, 0, false, rfl, rfl, HAT.out, Rd.nil, HB13.out⟩
              case measure => omega
    · obtain ⟨h1, h2⟩ := search_bad hz
      obtain ⟨os1, hos1⟩ : ∃ o, o = (searchL m).1 := ⟨_, rfl⟩
      rw [← hos1] at h1 HR1 ⊢
      subst h1
      rw [h2]
      obtain ⟨ez, hez⟩ : ∃ o, o = (searchL m).2.2 := ⟨_, rfl⟩
      rw [← hez] at hz ⊢
      have he1 : (ez == 0) = false := by simpa using hz
      have he2 : (ez != 0) = true := by simpa using hz
      have he3 : decide (ez = 0) = false := decide_eq_false hz
      clear hos1 h2 hez hz
      dsimp only
      go_wp2_with fail
      refine (works18 _).mono ?_
      rintro e w6 ⟨rfl, hb6⟩
      have HB6 := Lib.hid (HB1.out.trans (hb6.mono HB1.out.size))
      clear hb6
      dsimp only
      go_wp2_with fail
      go_ret
      exact ⟨rfl, HB6.out⟩
theorem least18_law (W : World) (A : Option Addr) (c n : Nat) (xs : List Call) (hn : n = xs.length) (hc : n ≤ c) (hrd : Rd Call.cells 10 W W.heap.size A xs) (hwf : ∀ o ∈ xs, o.wf) (hsz : xs.length * 96 ≤ 140737488351232) :
    Calls Try.prog 3 #[.slice A n c] W fun e w' => e = .returned (.bool true) ∧ Below W.heap.size W w' :=
  least18_calls A c n xs hn hc W (by omega) (fun o ho => (hwf o ho).op.value) hrd
end Go.Proofs.Ytmfidhlhcochoaa
