/- linear.Holds answers where an order breaks. Conditions: Go lengths. -/
import Derived.Test.YtmfidhlhcochoaaLinM1
import Derived.Test.YtmfidhlhcochoaaSearch
import Derived.Lib.SliceRun
import Derived.Deep.Upon
namespace Go.Proofs.Ytmfidhlhcochoaa
open Go.RowKit
set_option linter.unusedVariables false
set_option linter.unusedSimpArgs false

def zcell (n : Int) : List Value := [.int .i64 n]
theorem encZ : Enc zcell 1 := ⟨fun _ => rfl, fun x u hu => by simp [zcell] at hu; subst hu; rfl⟩
/-- Block g holds marks. -/
structure Marks (W : World) (g : Nat) (S : List Bool) : Prop where
  cell : ∀ i b, S[i]? = some b → W.cell? ⟨g, i, none⟩ = some (.bool b)
  fz : ∀ i, W.frozen? ⟨g, i, none⟩ = false
  lt : g < W.heap.size
section
variable {W W' : World} {g : Nat} {S : List Bool}
theorem Marks.same (h : Marks W g S) (hs : W'.heap[g]? = W.heap[g]?) : Marks W' g S :=
  ⟨fun i b hb => (World.cell?_of_block (a := ⟨g, i, none⟩) hs).trans (h.cell i b hb), fun i => (World.frozen?_of_block (a := ⟨g, i, none⟩) hs).trans (h.fz i), by
    have h1 := Array.getElem?_eq_getElem h.lt
    rw [h1] at hs
    exact (Array.getElem?_eq_some_iff.1 hs).1⟩
theorem Marks.below (h : Marks W g S) (hb : Below W.heap.size W W') : Marks W' g S := h.same (hb.block g h.lt)
theorem Marks.row (h : W.heap[g]? = some (.cells (S.map Value.bool).toArray 4 (0, 0))) : Marks W g S :=
  ⟨fun i b hb => (cell_of_row _ _ i _ _ _ h).trans (by simp [hb]), fun i => frozen_of_row _ _ _ _ _ h, (Array.getElem?_eq_some_iff.1 h).1⟩
theorem Marks.rd (h : Marks W g S) : Rd boolC 1 W W.heap.size (some ⟨g, 0, none⟩) S := fun i b hb => by
  refine ⟨⟨g, 0, none⟩, rfl, h.lt, fun j u hu => ?_⟩
  cases j with
  | zero =>
    simp only [boolC, List.getElem?_cons_zero, Option.some.injEq] at hu
    subst hu
    have e : ((⟨g, 0, none⟩ : Addr).add (i * 1)).add 0 = ⟨g, i, none⟩ := by
      rw [add_add', Nat.mul_one, Nat.add_zero]
      unfold Addr.add
      by_cases hi : i = 0
      · subst hi; simp
      · simp [hi]
    rw [e]; exact h.cell i b hb
  | succ j => simp [boolC] at hu
theorem Marks.set (h : Marks W g S) {i : Nat} (hi : i < S.length) (v : Bool) : Marks (W.setCell ⟨g, i, none⟩ (.bool v)) g (S.set i v) := by
  have hc : W.cell? ⟨g, i, none⟩ = some (.bool S[i]) := h.cell i _ (List.getElem?_eq_getElem hi)
  refine ⟨fun j b hb => ?_, fun j => by rw [World.frozen?_setCell]; exact h.fz j, by simpa [World.setCell] using h.lt⟩
  by_cases e : i = j
  · subst e
    rw [List.getElem?_set_self hi] at hb
    injection hb with hb
    subst hb
    exact World.cell?_setCell_same' _ _ _ (by simp [hc])
  · rw [List.getElem?_set_ne e] at hb
    exact (World.cell?_setCell_other _ _ _ _ (fun q => e (congrArg Addr.off q))).trans (h.cell j b hb)
theorem Marks.clear (h : Marks W g S) : Marks (W.setCells g 0 (List.replicate S.length (.bool false))) g (List.replicate S.length false) := by
  refine ⟨fun j b hb => ?_, fun j => by rw [World.frozen?_setCells]; exact h.fz j, ?_⟩
  · rw [List.getElem?_replicate] at hb
    split at hb
    · rename_i hj
      injection hb with hb
      subst hb
      have h1 := World.cell?_setCells_in g (List.replicate S.length (Value.bool false)) 0 W (fun k hk => by
        have hk' : k < S.length := by simpa using hk
        rw [Nat.zero_add, h.cell k _ (List.getElem?_eq_getElem hk')]; rfl) j (by simpa using hj)
      rw [Nat.zero_add] at h1
      rw [h1]
      simp
    · cases hb
  · have h2 : ∀ (vs : List Value) (o : Nat) (V : World), (V.setCells g o vs).heap.size = V.heap.size := by
      intro vs
      induction vs with
      | nil => intro o V; rfl
      | cons v vs ih => intro o V; simp only [World.setCells]; rw [ih]; simp [World.setCell]
    rw [h2]; exact h.lt
end
theorem setCells_kept (g : Nat) : ∀ (vs : List Value) (o : Nat) (W : World), Kept (fun j => j = g) W (W.setCells g o vs)
  | [], _, W => Kept.refl _ W
  | v :: vs, o, W => by
    simp only [World.setCells]
    exact (show Kept (fun j => j = g) W (W.setCell ⟨g, o, none⟩ v) from Kept.setCell (Kept.refl (fun j => j = g) W) (p := ⟨g, o, none⟩) (fun _ => rfl) v).trans (setCells_kept g vs (o + 1) _)
theorem zeroB (w : World) : (zeroValue 4).run Try.prog w = .ok (.bool false) w := by kernel_rfl
theorem clear_marks {W : World} {g n : Nat} {S : List Bool} (h : Marks W g S) (hn : S.length = n) (c : Nat) : ∃ W', (Builtin.clear_ #[91] 0 #[.slice (some ⟨g, 0, none⟩) n c]).run Try.prog W = .ok (.tuple #[]) W' ∧ Marks W' g (List.replicate n false) ∧ Kept (fun j => j = g) W W' := by
  subst hn
  by_cases h0 : S = []
  · subst h0
    refine ⟨W, ?_, h, Kept.refl _ _⟩
    simp [Builtin.clear_, run_underlying Try.underlying91]
  · have hp : 0 < S.length := List.length_pos_iff.2 h0
    exact ⟨_, Lib.run_clear_slice W 91 4 0 (.bool false) Try.underlying91 zeroB rfl rfl g 0 S.length c hp (fun j hj => by rw [Nat.zero_add, h.cell j _ (List.getElem?_eq_getElem hj)]; rfl) (fun j _ => h.fz _), h.clear, setCells_kept g _ _ _⟩
theorem okO_bad {n : Nat} {os : List Int} {k : Nat} (hk : k < os.length) (h : os[k] < 0 ∨ (n : Int) ≤ os[k] ∨ os[k] ∈ os.take k) : ¬ okO n os := fun ho => by
  obtain ⟨h1, h2, h3⟩ := ho k hk
  rcases h with h | h | h
  · omega
  · omega
  · exact h3 h
theorem walk_cons {l : List Call} {S : List Bool} {cs : List Cell} {i k : Nat} {is : List Nat} (hi : i < l.length) : walkH l S cs (i :: is) k = if breaksL l S i (would cs l[i].op) = true then (k : Int) else walkH l (S.set i true) (after cs l[i].op) is (k + 1) := by
  simp only [walkH, List.getElem?_eq_getElem hi]

set_option maxRecDepth 100000 in
set_option maxHeartbeats 8000000 in
theorem holds_prog (A : Option Addr) (c n : Nat) (l : List Call) (hn : n = l.length) (Ao : Option Addr) (co no : Nat) (os : List Int) (hno : no = os.length) (w : World) (hl : l.length ≤ 281474976710656) (hlo : os.length ≤ 9223372036854775806) (hv : ∀ x ∈ l, x.op.value.size ≤ 9223372036854775807) (ha : Rd Call.cells 10 w w.heap.size A l) (hao : Rd zcell 1 w w.heap.size Ao os) :
    Calls Try.prog 13 #[.slice A n c, .slice Ao no co] w fun e w' => e = .returned (.tuple #[.int .i64 (holdsL l os).1, .int .i64 (holdsL l os).2]) ∧ Below w.heap.size w w' := by
  subst hn hno
  obtain ⟨r1, hr1⟩ : ∃ r, r = (holdsL l os).1 := ⟨_, rfl⟩
  obtain ⟨r2, hr2⟩ : ∃ r, r = (holdsL l os).2 := ⟨_, rfl⟩
  rw [← hr1, ← hr2]
  have HR1 := Lib.hid hr1
  have HR2 := Lib.hid hr2
  have HA := Lib.hid ha
  have HAO := Lib.hid hao
  have HV := Lib.hid hv
  clear ha hao hv hr1 hr2
  go_enter Try.func13, Try.ntmps13
  go_wp2_with fail
  refine (linCheck A c l.length l rfl w (by omega) HV.out HA.out).mono ?_
  rintro e w1 ⟨rfl, hb1⟩
  have HB1 := Lib.hid hb1
  clear hb1
  by_cases hck : checkL l = 0
  · have HCK := Lib.hid hck
    rw [hck]
    have hmk := make_marks w1 l.length (by omega) (by omega)
    obtain ⟨W2, hW2⟩ : ∃ W2, W2 = w1.alloc (.cells (Array.replicate l.length (Value.bool false)) 4) := ⟨_, rfl⟩
    have hb2 : Below w1.heap.size w1 W2 := by rw [hW2]; exact (Below.refl _ _).alloc (Nat.le_refl _) _
    have hm2 : Marks W2 w1.heap.size (allFree l) := Marks.row (by rw [hW2]; refine (heap_alloc_new _ _).trans ?_; rw [marks_free]; rfl)
    have HW2 := Lib.hid hW2
    have HB2 := Lib.hid (HB1.out.trans (hb2.mono HB1.out.size))
    have HM2 := Lib.hid hm2
    have hz2 : W2.heap.size = w1.heap.size + 1 := by rw [hW2]; simp
    clear hW2 hb2 hm2 hck
    dsimp only
    go_wp2_with (first | (rw [hmk]) | fail)
    rw [← HW2.out]
    clear hmk
    go_loopw [23] (fun i wr => ∃ k : Nat, k ≤ os.length ∧ i = .int .i64 k ∧ Hid (∀ j (h : j < os.length), j < k → 0 ≤ os[j] ∧ os[j] < (l.length : Int) ∧ os[j] ∉ os.take j) ∧ Hid (Marks wr w1.heap.size (marksOf l.length ((os.take k).map Int.toNat))) ∧ Hid (Kept (fun j => j = w1.heap.size) W2 wr)) (fun i _ => os.length - (intOf i).toNat)
    case atStart => exact ⟨0, by omega, rfl, fun j h hj => absurd hj (Nat.not_lt_zero j), HM2.out, Kept.refl _ _⟩
    case round =>
      obtain ⟨k, hk, rfl, hok, hmr, hkp⟩ := hrel
      have hbr : Below w.heap.size w wr := HB2.out.trans (hkp.out.below HB2.out.size (fun j e => by have := HB1.out.size; omega))
      have HBR := Lib.hid hbr
      by_cases h1 : k < os.length
      · obtain ⟨bd, hB, hbl, hcb⟩ := (HAO.out.below hbr).at_ h1
        have g1 : (k:Int) < (os.length : Int) := by omega
        have i2 : (0:Int) ≤ (k:Int) := by omega
        have d0 : wr.cell? (bd.add k) = some (.int .i64 os[k]) := by have := hcb.one; rwa [Nat.mul_one] at this
        have HBAD : Hid ((os[k] < 0 ∨ (l.length : Int) ≤ os[k] ∨ os[k] ∈ os.take k) → r1 = 0 ∧ r2 = 182) := fun h => by
          have h2 := okO_bad h1 h
          have h3 := HCK.out
          constructor
          · rw [HR1.out]; simp [holdsL, h3, h2]
          · rw [HR2.out]; simp [holdsL, h3, h2]
        have htk : os.take (k + 1) = os.take k ++ [os[k]] := List.take_succ_eq_append_getElem h1
        have hsn : Hid ((0 ≤ os[k] ∧ os[k] < (l.length : Int) ∧ os[k] ∉ os.take k) → ∀ j (h : j < os.length), j < k + 1 → 0 ≤ os[j] ∧ os[j] < (l.length : Int) ∧ os[j] ∉ os.take j) := fun h j hj hjk => by
          by_cases e : j = k
          · subst e; exact h
          · exact hok.out j hj (by omega)
        have HTK := Lib.hid htk
        have HMEM : Hid (∀ j : Nat, j ∈ (os.take k).map Int.toNat → (j : Int) ∈ os.take k) := fun j hj => by
          obtain ⟨y, hy, hyj⟩ := List.mem_map.1 hj
          obtain ⟨q, hq, hqy⟩ := List.mem_iff_getElem.1 hy
          have hqk : q < k := by simp at hq; omega
          rw [List.getElem_take] at hqy
          have h0 := (hok.out q (by omega) hqk).1
          rw [hqy] at h0
          have : (j : Int) = y := by omega
          rw [this]; exact hy
        subst hB
        clear hcb htk hok hbr
        generalize os[k] = x at *
        by_cases hx0 : x < 0
        · obtain ⟨rfl, rfl⟩ := HBAD.out (.inl hx0)
          have hx1 : decide (x < 0) = true := decide_eq_true hx0
          clear HBAD
          go_wp2_with fail
          go_ret2
          exact ⟨rfl, HBR.out⟩
        · have hx1 : decide (x < 0) = false := decide_eq_false hx0
          by_cases hxn : (l.length : Int) ≤ x
          · obtain ⟨rfl, rfl⟩ := HBAD.out (.inr (.inl hxn))
            have hx2 : decide ((l.length : Int) ≤ x) = true := decide_eq_true hxn
            clear HBAD
            go_wp2_with fail
            go_ret2
            exact ⟨rfl, HBR.out⟩
          · have hx2 : decide ((l.length : Int) ≤ x) = false := decide_eq_false hxn
            obtain ⟨j, rfl⟩ := Int.eq_ofNat_of_zero_le (show 0 ≤ x by omega)
            have hjl : j < l.length := by omega
            have hx3 : decide (l.length ≤ j) = false := decide_eq_false (by omega)
            have hgi : (j:Int) < (l.length : Int) := by omega
            have hgj : (0:Int) ≤ (j:Int) := by omega
            have hmg := marksOf_get l.length ((os.take k).map Int.toNat) j hjl
            have dm := hmr.out.cell j _ hmg
            have fm := hmr.out.fz j
            by_cases hmem : j ∈ (os.take k).map Int.toNat
            · rw [decide_eq_true hmem] at dm
              obtain ⟨rfl, rfl⟩ := HBAD.out (.inr (.inr (HMEM.out j hmem)))
              clear HBAD hmg hmem
              go_wp2_with fail
              go_ret2
              exact ⟨rfl, HBR.out⟩
            · rw [decide_eq_false hmem] at dm
              have hnx := hsn.out ⟨by omega, by omega, fun h => hmem (List.mem_map.2 ⟨_, h, by simp⟩)⟩
              have HNX := Lib.hid hnx
              have hlen := marksOf_length l.length ((os.take k).map Int.toNat)
              have hset := hmr.out.set (i := j) (by rw [hlen]; exact hjl) true
              rw [show (marksOf l.length ((os.take k).map Int.toNat)).set j true = marksOf l.length ((os.take (k + 1)).map Int.toNat) by rw [HTK.out, List.map_append, List.map_singleton, marksOf_snoc]; rfl] at hset
              have HSET := Lib.hid hset
              clear HBAD hmg hmem hnx hset hlen
              go_wp2_with fail
              go_roundw
              case rel => exact ⟨k + 1, by omega, by go_num, HNX.out, HSET.out, hkp.out.setCell (p := ⟨w1.heap.size, j, none⟩) (fun _ => rfl) _⟩
              case measure => simp [intOf]; omega
      · have g2 : decide ((k:Int) < (os.length : Int)) = false := decide_eq_false (by omega)
        have g3 : decide (k < os.length) = false := decide_eq_false h1
        have hkk : k = os.length := by omega
        have HOK : Hid (okO l.length os) := fun j hj => hok.out j hj (by omega)
        obtain ⟨W3, hclr, hm3, hk3⟩ := clear_marks hmr.out (marksOf_length _ _) l.length
        have hb3 : Below w.heap.size w W3 := hbr.trans (hk3.below (by have := hkp.out.size; have := HB1.out.size; omega) (fun j e => by have := HB1.out.size; omega))
        have HM3 := Lib.hid hm3
        have HB3 := Lib.hid hb3
        obtain ⟨is, his⟩ : ∃ is, is = os.map Int.toNat := ⟨_, rfl⟩
        have hw1 : r1 = walkH l (allFree l) [] is 0 := by rw [HR1.out, his]; simp [holdsL, HCK.out, HOK.out]
        have hw2 : r2 = 0 := by rw [HR2.out]; simp [holdsL, HCK.out, HOK.out]
        have HW1 := Lib.hid hw1
        have HIS := Lib.hid his
        subst hw2
        have hlt1 := HB1.out.size
        clear hm3 hk3 hb3 hw1 his hok hmr
        go_wp2_with (first | (rw [hclr]) | fail)
        refine (newLedger W3).mono ?_
        rintro e w4 ⟨b, mb, rfl, hl4, hb4, hmb4, hB4⟩
        have HM4 := Lib.hid (HM3.out.below hB4)
        have HB4 := Lib.hid (HB3.out.trans (hB4.mono HB3.out.size))
        have HL4 := Lib.hid hl4
        have hgb : w1.heap.size < b ∧ w1.heap.size < mb := by have := HM3.out.lt; omega
        have hwb : w.heap.size ≤ b ∧ w.heap.size ≤ mb := by have := HB3.out.size; omega
        clear hl4 hb4 hmb4 hB4 hclr
        dsimp only
        go_wp2_with fail
        go_loopw [49] (fun i wr => ∃ k : Nat, ∃ S cs, k ≤ os.length ∧ i = .int .i64 k ∧ Hid (walkH l (allFree l) [] is 0 = walkH l S cs (is.drop k) k) ∧ Hid (S.length = l.length) ∧ Hid (Marks wr w1.heap.size S) ∧ Hid (Ledger wr b mb cs) ∧ Hid (Kept (fun j => j = w1.heap.size ∨ j = b ∨ j = mb) w4 wr)) (fun i _ => os.length - (intOf i).toNat)
        case atStart => exact ⟨0, allFree l, [], by omega, rfl, rfl, by show _ = _; simp [allFree], HM4.out, HL4.out, Kept.refl _ _⟩
        case round =>
          obtain ⟨k2, S, cs, hk2, rfl, hwk, hSl, hmr2, hlr2, hkp2⟩ := hrel
          have hbr2 : Below w.heap.size w wr := HB4.out.trans (hkp2.out.below HB4.out.size (fun j e => by omega))
          have HBR2 := Lib.hid hbr2
          by_cases h2 : k2 < os.length
          · obtain ⟨bd, hB, hbl, hcb⟩ := (HAO.out.below hbr2).at_ h2
            obtain ⟨o1, o2, _⟩ := HOK.out k2 h2
            obtain ⟨j, hj⟩ := Int.eq_ofNat_of_zero_le o1
            have d0 : wr.cell? (bd.add k2) = some (.int .i64 os[k2]) := by have := hcb.one; rwa [Nat.mul_one] at this
            rw [hj] at d0 o2
            have hjl : j < l.length := by omega
            have g4 : (k2:Int) < (os.length : Int) := by omega
            have i4 : (0:Int) ≤ (k2:Int) := by omega
            have g5 : (j:Int) < (l.length : Int) := by omega
            have i5 : (0:Int) ≤ (j:Int) := by omega
            have hisk : is.drop k2 = j :: is.drop (k2 + 1) := by
              have hl2 : k2 < is.length := by rw [HIS.out]; simpa using h2
              rw [List.drop_eq_getElem_cons hl2]
              congr 1
              simp only [HIS.out, List.getElem_map, hj]
              simp
            have hwk2 := hwk.out
            rw [hisk, walk_cons hjl] at hwk2
            have HWK2 := Lib.hid hwk2
            obtain ⟨ai, hAi, hail, hci⟩ := (HA.out.below hbr2).at_ hjl
            obtain ⟨c0, c1, c2, c3, c4, c5, c6, c7, c8, c9⟩ := hci.call
            have hvx := HV.out _ (List.getElem_mem hjl)
            obtain ⟨x, hx⟩ : ∃ x, x = l[j] := ⟨_, rfl⟩
            rw [← hx] at c2 c3 c4 hvx HWK2
            subst hAi hB
            clear hci c0 c1 c5 c6 c7 c8 c9 hx hcb hwk2 hisk hwk hj
            go_wp2_with fail
            refine (doLedger b mb cs x.op hvx wr hlr2.out).mono ?_
            rintro e w6 ⟨rfl, hl6, hk6⟩
            have hk6b : Below w.heap.size wr w6 := hk6.below (by have := hbr2.size; omega) (fun q e => by rcases e with e | e <;> omega)
            have hm6 : Marks w6 w1.heap.size S := hmr2.out.same (hk6.block _ hmr2.out.lt (fun e => by rcases e with e | e <;> omega))
            have HL6 := Lib.hid hl6
            have HM6 := Lib.hid hm6
            have hb6 := hbr2.trans hk6b
            have HB6 := Lib.hid hb6
            have HK6 := Lib.hid hk6
            obtain ⟨br, hbr⟩ : ∃ br, br = breaksL l S j (would cs x.op) := ⟨_, rfl⟩
            rw [← hbr] at HWK2
            have HBRQ := Lib.hid hbr
            clear hbr hl6 hm6 hk6 hk6b c2 c3 c4
            generalize would cs x.op = wq at *
            dsimp only
            go_wp2_with fail
            refine (breaks_prog (some ai) (some ⟨w1.heap.size, 0, none⟩) c l.length l.length l.length j l S wq rfl rfl hSl.out hjl w6 (by omega) ((HA.out.below hb6).more hb6.size) HM6.out.rd).mono ?_
            rintro e w7 ⟨rfl, hb7⟩
            rw [← HBRQ.out]
            have HM7 := Lib.hid (HM6.out.below hb7)
            have HL7 := Lib.hid (HL6.out.below hb7)
            have HB7 := Lib.hid (hb6.trans (hb7.mono hb6.size))
            have HK7 : Hid (Kept (fun j => j = w1.heap.size ∨ j = b ∨ j = mb) w4 w7) := by
              refine (hkp2.out.trans (HK6.out.mono fun q _ e => ?_)).trans ((Kept.of_below hb7 _))
              rcases e with e | e
              · exact .inr (.inl e)
              · exact .inr (.inr e)
            clear hb7 hb6
            cases br
            · have d7 := HM7.out.cell j
              have hSj : S[j]? = some (S[j]'(by rw [hSl.out]; exact hjl)) := List.getElem?_eq_getElem _
              have d7 := HM7.out.cell j _ hSj
              have f7 := HM7.out.fz j
              have hset := HM7.out.set (i := j) (by rw [hSl.out]; exact hjl) true
              have HSET := Lib.hid hset
              have hnw : Hid (walkH l (allFree l) [] is 0 = walkH l (S.set j true) (after cs x.op) (is.drop (k2 + 1)) (k2 + 1)) := HWK2.out.trans (if_neg (by simp))
              have HSL2 : Hid ((S.set j true).length = l.length) := by show _ = _; rw [List.length_set]; exact hSl.out
              have hl7 := HL7.out
              have hl8 : Ledger (w7.setCell ⟨w1.heap.size, j, none⟩ (.bool true)) b mb (after cs x.op) := hl7.same (Below.heap_setCell _ _ _ _ (by show b ≠ w1.heap.size; omega)) (Below.heap_setCell _ _ _ _ (by show mb ≠ w1.heap.size; omega))
              have HL8 := Lib.hid hl8
              clear hset hl8 hl7 hSj
              dsimp only
              go_wp2_with fail
              go_roundw
              case rel => exact ⟨k2 + 1, _, _, by omega, by go_num, hnw.out, HSL2.out, HSET.out, HL8.out, HK7.out.setCell (p := ⟨w1.heap.size, j, none⟩) (fun _ => .inl rfl) _⟩
              case measure => simp [intOf]; omega
            · have hr : r1 = (k2 : Int) := HW1.out.trans (HWK2.out.trans (if_pos rfl))
              clear HWK2
              subst hr
              dsimp only
              go_wp2_with fail
              go_ret2
              exact ⟨rfl, HB7.out⟩
          · have g6 : decide ((k2:Int) < (os.length : Int)) = false := decide_eq_false (by omega)
            have g7 : decide (k2 < os.length) = false := decide_eq_false h2
            have hkk2 : k2 = os.length := by omega
            have hwk2 := hwk.out
            rw [show is.drop k2 = [] from List.drop_eq_nil_of_le (by rw [HIS.out]; simp; omega)] at hwk2
            have HFN := Lib.hid (HW1.out.trans hwk2)
            clear hwk hwk2
            go_wp2_with fail
            refine (missing_prog A (some ⟨w1.heap.size, 0, none⟩) c l.length l.length l.length l S rfl rfl hSl.out wr (by omega) ((HA.out.below hbr2).more hbr2.size) hmr2.out.rd).mono ?_
            rintro e w8 ⟨rfl, hb8⟩
            have HB8 := Lib.hid (hbr2.trans (hb8.mono hbr2.size))
            clear hb8
            cases hms : missingL l S
            · have hr : r1 = -1 := by rw [HFN.out]; simp [walkH, hms]
              subst hr
              clear HFN hms
              dsimp only
              go_wp2_with fail
              go_ret2
              exact ⟨rfl, HB8.out⟩
            · have hr : r1 = (os.length : Int) := by rw [HFN.out]; simp [walkH, hms, hkk2]
              subst hr
              clear HFN hms
              dsimp only
              go_wp2_with fail
              go_ret2
              exact ⟨rfl, HB8.out⟩
  · have hr1' : r1 = 0 := by rw [HR1.out]; simp [holdsL, hck]
    have hr2' : r2 = checkL l := by rw [HR2.out]; simp [holdsL, hck]
    have hck2 : (checkL l == 0) = false := by simpa using hck
    have hck3 : (checkL l != 0) = true := by simpa using hck
    subst hr1' hr2'
    dsimp only
    go_wp2_with fail
    go_ret2
    exact ⟨rfl, HB1.out⟩
end Go.Proofs.Ytmfidhlhcochoaa
