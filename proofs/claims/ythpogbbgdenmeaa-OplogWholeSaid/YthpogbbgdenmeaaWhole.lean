/- OplogWhole answers true, whatever the arguments. Conditions: sizes within the form's own reach. -/
import Derived.Test.YthpogbbgdenmeaaGrown
import Derived.Test.YthpogbbgdenmeaaGrowPlain
import Derived.Test.YthpogbbgdenmeaaSplice
import Derived.Test.YthpogbbgdenmeaaPiece
import Derived.Test.YthpogbbgdenmeaaCommon
namespace Go.Proofs.Ythpogbbgdenmeaa
open Go.RowKit Go.Deep
set_option linter.unusedVariables false
set_option linter.unusedSimpArgs false

section appG
variable {P : Program} {t e : TypeId} {k bytes : Nat} {α : Type} {enc : α → List Value}
theorem wpList_appG {w : World} (T : RowT P t e k bytes) (E : Enc enc k) {ops : Array Oper} {rest : List Oper} {o : Oper} {a : Act} {Q : Exit → Act → World → Prop} (s x : Operand)
    (ho : o.op = .call { callee := .builtin .append, args := #[s, x], argTypes := #[t, t] })
    (base : Nat) {v : Value} {xs ys : List α} (hs : a.eval s = v) (hv : Made enc k e base w v xs) {B : Nat} {A : Option Addr} {c m : Nat} (hx : a.eval x = .slice A m c) (hm : m = ys.length) (hy : Rd enc k w B A ys)
    (hbytes : (xs.length + ys.length) * bytes ≤ 140737488355328) (h63 : xs.length + ys.length ≤ maxLen) (hbase : base ≤ w.heap.size) (hw : Region.wanted o (yielded ops a.tmps) = true)
    (h : ∀ v' w', Made enc k e base w' v' (xs ++ ys) → w.grownBy w' v.ownBlock → wpList P ops Q rest (a.put o.dst v') w') : wpList P ops Q (o :: rest) a w :=
  wpList_step fun K hK => by
    rw [if_pos hw]
    exact wp_app w T E s x ho base hs hv hx hm hy hbytes h63 hbase fun v' w' h2 h3 h4 => hK _ _ (h v' w' h2 h3)
end appG
theorem common_take_self (l : List Entry) (p : Nat) (hp : p ≤ l.length) : common (l.take p) l = p := by
  induction p generalizing l with
  | zero => cases l <;> rfl
  | succ p ih =>
    cases l with
    | nil => simp at hp
    | cons x l => simp only [List.take_succ_cons, common, if_pos rfl]; rw [ih l (by simpa using hp)]; simp
theorem cut_ok' (A : Option Addr) (c : Nat) (p : Nat) (l : List Entry) (hc : l.length ≤ c) (hp : p ≤ l.length) (w : World) (hb : l.length ≤ 256) (ha : Rd Entry.cells 5 w w.heap.size A l) :
    Calls Try.prog 23 #[.slice A l.length c, .int .i64 (p : Int)] w fun e w' => ∃ A' c', e = .returned (.tuple #[.slice A' p c', .int .i64 0]) ∧ p ≤ c' ∧ Rd Entry.cells 5 w' w'.heap.size A' (l.take p) ∧ Below w.heap.size w w' := by
  refine (cut_prog A c l.length p l rfl hc w (by omega) ha).mono ?_
  rintro e w' ⟨v, rfl, hm, hb⟩
  rw [if_neg (by omega)] at hm ⊢
  obtain ⟨A', c', rfl, hc'⟩ := hm.form
  have hr := hm.rd' encEntry.len
  rw [Int.toNat_natCast] at hm hr hc' ⊢
  have hl : (l.take p).length = p := by simp; omega
  rw [hl] at hc' ⊢
  exact ⟨A', c', rfl, hc', hr, hb⟩
theorem tail_ok (A : Option Addr) (c : Nat) (p : Nat) (l : List Entry) (hc : l.length ≤ c) (hp : p ≤ l.length) (w : World) (hb : l.length ≤ 256) (ha : Rd Entry.cells 5 w w.heap.size A l) :
    Calls Try.prog 25 #[.slice A l.length c, .int .i64 ((p : Int) + 1)] w fun e w' => ∃ A' c', e = .returned (.tuple #[.slice A' (l.drop p).length c', .int .i64 0]) ∧ (l.drop p).length ≤ c' ∧ Rd Entry.cells 5 w' w'.heap.size A' (l.drop p) ∧ Below w.heap.size w w' := by
  refine (tail_prog A c l.length ((p : Int) + 1) l rfl hc w (by omega) ha).mono ?_
  rintro e w' ⟨v, rfl, hm, hb⟩
  rw [if_neg (by omega)] at hm ⊢
  have e1 : ((p : Int) + 1 - 1).toNat = p := by omega
  rw [e1] at hm
  obtain ⟨A', c', rfl, hc'⟩ := hm.form
  exact ⟨A', c', rfl, hc', hm.rd' encEntry.len, hb⟩
theorem splE_at {l t : List Entry} (h : GoodE l) {room : Int} (h1 : 1 ≤ room) (h2 : room ≤ 256) (h3 : (l.length : Int) ≤ room) (p : Nat) (hp : p ≤ l.length) : splE l room ((p : Int) + 1) t = (chkE (l.take p ++ t) room).1 := by
  unfold splE
  have e : ((p : Int) + 1 - 1).toNat = p := by omega
  rw [if_neg (by simpa using chkE_zero.2 ⟨h1, h2, h3, h⟩), if_neg (by omega), e]
theorem toNat_at (p : Nat) : ((p : Int) + 1 - 1).toNat = p := by omega

set_option maxRecDepth 100000 in
set_option maxHeartbeats 8000000 in
theorem whole_calls (A A' : Option Addr) (c c' n n' : Nat) (rs rs' : List Raw) (room k : Int) (hroom : I64 room) (hk : I64 k) (hn : n = rs.length) (hn' : n' = rs'.length) (w : World) (hl : rs.length ≤ 9223372036854775806) (hl' : rs'.length ≤ 9223372036854775806) (hw : ∀ r ∈ rs, r.wf) (hw' : ∀ r ∈ rs', r.wf) (ha : Rd Raw.cells 5 w w.heap.size A rs) (ha' : Rd Raw.cells 5 w w.heap.size A' rs') :
    Calls Try.prog 12 #[.slice A n c, .slice A' n' c', .int .i64 room, .int .i64 k] w fun e w' => e = .returned (.bool true) ∧ Below w.heap.size w w' := by
  subst hn; subst hn'
  have HA := Lib.hid ha
  have HA' := Lib.hid ha'
  clear ha ha'
  go_enter Try.func12, Try.ntmps12
  go_wp2_with fail
  refine (size_calls room hroom w).mono ?_
  rintro e w0 ⟨rfl, hw0⟩
  rw [hw0]
  clear hw0 w0
  have hR0 := Int.emod_nonneg room (by omega : (256 : Int) ≠ 0)
  have hR1 := Int.emod_lt_of_pos room (by omega : (0 : Int) < 256)
  obtain ⟨R, hR⟩ : ∃ R, R = 1 + room % 256 := ⟨_, rfl⟩
  rw [← hR]
  have hr1 : 1 ≤ R := by omega
  have hr2 : R ≤ 256 := by omega
  clear hR hR0 hR1
  dsimp only
  go_wp2_with fail
  refine (grown_calls A c rs.length rs R rfl hr1 hr2 w hl hw HA.out).mono ?_
  rintro e w1 ⟨v1, rfl, ⟨l, hm1, hg, hlen, _⟩, hb1⟩
  obtain ⟨A1, c1, rfl, hc1⟩ := hm1.form
  have HG := Lib.hid hg
  have hra1 := hm1.rd' encEntry.len
  clear hg HA hw hm1
  dsimp only
  go_wp2_with fail
  refine (grown_calls A' c' rs'.length rs' R rfl hr1 hr2 w1 hl' hw' ((HA'.out.below hb1).more hb1.size)).mono ?_
  rintro e w2 ⟨v2, rfl, ⟨t, hm2, hgt, htlen, _⟩, hb2⟩
  obtain ⟨A2, c2, rfl, hc2⟩ := hm2.form
  have HGT := Lib.hid hgt
  have hrt2 := hm2.rd' encEntry.len
  have hra2 := (hra1.below hb2).more hb2.size
  have hbw2 := hb1.trans (hb2.mono hb1.size)
  clear hgt HA' hw' hm2 hra1 hb1 hb2
  dsimp only
  go_wp2_with fail
  refine (works06 w2).mono ?_
  rintro e w3 ⟨rfl, hb3⟩
  have hbw3 := hbw2.trans (hb3.mono hbw2.size)
  have HL3 := Lib.hid ((hra2.below hb3).more hb3.size)
  have HT3 := Lib.hid ((hrt2.below hb3).more hb3.size)
  clear hra2 hrt2 hb3
  dsimp only
  go_wp2_with fail
  have hp0 := Int.emod_nonneg k (by omega : (l.length : Int) + 1 ≠ 0)
  have hp1 := Int.emod_lt_of_pos k (by omega : 0 < (l.length : Int) + 1)
  have hwi := within_calls k (l.length : Int) hk (by omega) (by omega) w3
  obtain ⟨p, hp⟩ := Int.eq_ofNat_of_zero_le hp0
  rw [hp] at hp1 hwi
  clear hp hp0
  refine hwi.mono ?_
  rintro e w0 ⟨rfl, hw0⟩
  rw [hw0]
  clear hw0 w0 hwi
  have hpl : p ≤ l.length := by omega
  have hlp : (l.take p).length = p := by simp; omega
  dsimp only
  go_wp2_with fail
  refine (cut_ok' A1 c1 p l hc1 hpl w3 (by omega) HL3.out).mono ?_
  rintro e w4 ⟨A4, c4, rfl, hc4, hra4, hb4⟩
  have hbw4 := hbw3.trans (hb4.mono hbw3.size)
  have HL4 := Lib.hid ((HL3.out.below hb4).more hb4.size)
  have HT4 := Lib.hid ((HT3.out.below hb4).more hb4.size)
  clear hb4 HL3 HT3
  dsimp only
  go_wp2_with fail
  refine (tail_ok A1 c1 p l hc1 hpl w4 (by omega) HL4.out).mono ?_
  rintro e w5 ⟨A5, c5, rfl, hc5, hrb5, hb5⟩
  have hbw5 := hbw4.trans (hb5.mono hbw4.size)
  have HL5 := Lib.hid ((HL4.out.below hb5).more hb5.size)
  have HT5 := Lib.hid ((HT4.out.below hb5).more hb5.size)
  have HA5 := Lib.hid ((hra4.below hb5).more hb5.size)
  have HB5 := Lib.hid hrb5
  have hld : (l.drop p).length ≤ 256 := by simp; omega
  clear hb5 HL4 HT4 hra4 hrb5
  dsimp only
  obtain ⟨ld, hld'⟩ : ∃ ld, ld = l.drop p := ⟨_, rfl⟩
  rw [← hld'] at hld hc5 HB5 ⊢
  have HLD := Lib.hid (show l.take p ++ ld = l by rw [hld']; exact List.take_append_drop p l)
  clear hld'
  go_wp2_with fail
  refine (copyEntries A4 c4 p (l.take p) hlp.symm w5 (by omega) HA5.out).mono ?_
  rintro e w6 ⟨A6, c6, rfl, hm6, hb6⟩
  have hbw6 := hbw5.trans (hb6.mono hbw5.size)
  have HL6 := Lib.hid ((HL5.out.below hb6).more hb6.size)
  have HT6 := Lib.hid ((HT5.out.below hb6).more hb6.size)
  have HA6 := Lib.hid ((HA5.out.below hb6).more hb6.size)
  have HB6 := Lib.hid ((HB5.out.below hb6).more hb6.size)
  have HM6 := Lib.hid hm6
  have hml6 := Lib.hid hm6.lt
  have hs56 : w5.heap.size ≤ w6.heap.size := hb6.size
  have hb56 : Below w5.heap.size w5 w6 := hb6
  clear hb6 hm6
  dsimp only
  go_wp2_with (at_builtin; go_loud (refine wpList_appG (v := .slice A6 p c6) (xs := l.take p) (ys := ld) rowEntry encEntry (.tmp 82) (.tmp 83) rfl w5.heap.size rfl HM6.out rfl rfl HB6.out (by omega) (by unfold maxLen; omega) hs56 rfl ?_); intro v7 w7 hm7 hg7)
  rw [HLD.out] at hm7
  obtain ⟨A7, c7, rfl, hc7⟩ := hm7.form
  have hb67 : Below w5.heap.size w6 w7 := (Below.refl _ w6).grown hg7 hs56 (fun b q => (hml6.out b q).1)
  have hbw7 : Below w.heap.size w w7 := hbw6.trans (hb67.mono hbw5.size)
  have HL7 := Lib.hid ((HL5.out.below hb56).below hb67 |>.more (Nat.le_trans hs56 hb67.size))
  have HT7 := Lib.hid ((HT5.out.below hb56).below hb67 |>.more (Nat.le_trans hs56 hb67.size))
  have HA7 := Lib.hid ((HA5.out.below hb56).below hb67 |>.more (Nat.le_trans hs56 hb67.size))
  have HB7 := Lib.hid ((HB5.out.below hb56).below hb67 |>.more (Nat.le_trans hs56 hb67.size))
  have HS7 := Lib.hid (hm7.rd' encEntry.len)
  clear hm7 hg7 HM6 hml6 hb67 HL5 HT5 HA5 HB5 HL6 HT6 HA6 HB6 hbw6
  refine (sameTrue A7 A1 c7 c1 _ l rfl w7 (by omega) HS7.out HL7.out).mono ?_
  rintro e w0 ⟨rfl, q1, rfl⟩
  dsimp only
  go_wp2_with fail
  refine (begins_prog A4 A1 c4 c1 p l.length (l.take p) l hlp.symm rfl _ (by omega) (by omega) (by exact HA7.out) (by exact HL7.out)).mono ?_
  rintro e w0 ⟨rfl, q2, rfl⟩
  rw [show begins (l.take p) l = true by simp only [begins, common_take_self l p hpl, hlp]; simp]
  have HS0 := Lib.hid hbw7
  obtain ⟨w8, hw8⟩ : ∃ w8, w8 = w7.drewN (q1 + q2) := ⟨_, rfl⟩
  have hbw8 : Below w.heap.size w w8 := by rw [hw8]; exact below_drewN hbw7 _
  have HL8 : Hid (Rd Entry.cells 5 w8 w8.heap.size A1 l) := by rw [hw8]; exact HL7.out
  have HT8 : Hid (Rd Entry.cells 5 w8 w8.heap.size A2 t) := by rw [hw8]; exact HT7.out
  have HA8 : Hid (Rd Entry.cells 5 w8 w8.heap.size A4 (l.take p)) := by rw [hw8]; exact HA7.out
  have HB8 : Hid (Rd Entry.cells 5 w8 w8.heap.size A5 ld) := by rw [hw8]; exact HB7.out
  first
    | rw [← hw8]
    | (rw [World.drewN_drewN, ← hw8])
  clear hw8 HL7 HT7 HA7 HB7 HS7 HS0 hbw7
  obtain ⟨zs, hzs⟩ : ∃ zs, zs = l.take p ++ t := ⟨_, rfl⟩
  have hzl : zs.length ≤ p + t.length := by rw [hzs]; simp; omega
  have hsp := fun W r1 r2 => splice_prog A1 A2 c1 c2 l.length t.length l t R ((p : Int) + 1) (by unfold I64; omega) rfl rfl hc1 hc2 W (by omega) (by omega) HG.out.vals HGT.out.vals r1 r2
  rw [splE_at HG.out hr1 hr2 hlen p hpl, toNat_at, ← hzs] at hsp
  have HSP := Lib.hid hsp
  have HZS := Lib.hid hzs
  clear hsp hzs
  dsimp only
  go_wp2_with fail
  refine (HSP.out w8 HL8.out HT8.out).mono ?_
  rintro e w9 ⟨v9, rfl, hm9, hb9⟩
  obtain ⟨z, hz⟩ : ∃ z, z = (chkE zs R).1 := ⟨_, rfl⟩
  have hsays : z = 0 ∨ z = 60 ∨ z = 64 := by rw [hz, HZS.out]; exact spl_says HG.out HGT.out hr1 hr2
  have HZ := Lib.hid hz
  rw [← hz] at hm9 ⊢
  clear hz
  obtain ⟨zl, hzl'⟩ : ∃ zl, zl = (if z = 0 then zs else []) := ⟨_, rfl⟩
  rw [← hzl'] at hm9
  have HZL := Lib.hid hzl'
  clear hzl'
  obtain ⟨A9, c9, rfl, hc9⟩ := hm9.form
  have hbw9 := hbw8.trans (hb9.mono hbw8.size)
  have HL9 := Lib.hid ((HL8.out.below hb9).more hb9.size)
  have HT9 := Lib.hid ((HT8.out.below hb9).more hb9.size)
  have HA9 := Lib.hid ((HA8.out.below hb9).more hb9.size)
  have HB9 := Lib.hid ((HB8.out.below hb9).more hb9.size)
  have HS9 := Lib.hid (hm9.rd' encEntry.len)
  clear hm9 hb9 HL8 HT8 HA8 HB8 HSP
  dsimp only
  go_wp2_with fail
  refine (copyEntries A4 c4 p (l.take p) hlp.symm w9 (by omega) HA9.out).mono ?_
  rintro e w10 ⟨A10, c10, rfl, hm10, hb10⟩
  have HM10 := Lib.hid hm10
  have hml10 := Lib.hid hm10.lt
  have hs910 : w9.heap.size ≤ w10.heap.size := hb10.size
  have HT10 := Lib.hid ((HT9.out.below hb10).more hb10.size)
  clear hm10
  dsimp only
  go_wp2_with (at_builtin; go_loud (refine wpList_app (v := .slice A10 p c10) (xs := l.take p) (ys := t) rowEntry encEntry rfl (.tmp 105) (.tmp 106) rfl w9.heap.size rfl HM10.out rfl rfl HT10.out (by omega) (by unfold maxLen; omega) hs910 ?_); intro v11 w11 hm11 hg11 hat11)
  rw [← HZS.out] at hm11
  obtain ⟨A11, c11, rfl, hc11⟩ := hm11.form
  have hb911 : Below w9.heap.size w9 w11 := hb10.grown hg11 hs910 (fun b q => (hml10.out b q).1)
  have hbw11 : Below w.heap.size w w11 := hbw9.trans (hb911.mono hbw9.size)
  have HL11 := Lib.hid ((HL9.out.below hb911).more hb911.size)
  have HB11 := Lib.hid ((HB9.out.below hb911).more hb911.size)
  have HS11 := Lib.hid ((HS9.out.below hb911).more hb911.size)
  have HW11 := Lib.hid (hm11.rd' encEntry.len)
  have hvz : Hid (∀ x ∈ zs, x.op.value.size ≤ 9223372036854775807) := fun x hx => by
    rw [HZS.out] at hx
    rcases List.mem_append.1 hx with h | h
    · exact HG.out.vals x (List.mem_of_mem_take h)
    · exact HGT.out.vals x h
  clear hm11 hg11 hat11 HM10 hml10 hb10 hb911 HL9 HT9 HA9 HB9 HS9 HT10
  refine (check_prog_log A11 c11 zs.length zs R rfl w11 (by omega) hvz.out HW11.out).mono ?_
  rintro e w12 ⟨rfl, hb12⟩
  rw [← HZ.out]
  have hbw12 := hbw11.trans (hb12.mono hbw11.size)
  have HL12 := Lib.hid ((HL11.out.below hb12).more hb12.size)
  have HB12 := Lib.hid ((HB11.out.below hb12).more hb12.size)
  have HS12 := Lib.hid ((HS11.out.below hb12).more hb12.size)
  have HW12 := Lib.hid ((HW11.out.below hb12).more hb12.size)
  clear hb12 HL11 HB11 HS11 HW11
  generalize (chkE zs R).2 = z2 at *
  dsimp only
  by_cases hz0 : z = 0
  · have ezl : zl = zs := by rw [HZL.out, if_pos hz0]
    obtain ⟨_, _, hzR, hgz⟩ := chkE_zero.1 (HZ.out.symm.trans hz0)
    have htk : zs.take p = l.take p := by rw [HZS.out, List.take_left' hlp]
    have hsp := fun W r1 r2 => splice_prog A9 A5 c9 c5 zs.length ld.length zs ld R ((p : Int) + 1) (by unfold I64; omega) rfl rfl (by rw [← ezl]; exact hc9) hc5 W (by omega) (by omega) hgz.vals (fun x hx => HG.out.vals x (by rw [← HLD.out]; exact List.mem_append_right _ hx)) r1 r2
    rw [splE_at hgz hr1 hr2 hzR p (by rw [HZS.out]; simp; omega), toNat_at, htk, HLD.out, chkE_zero.2 ⟨hr1, hr2, hlen, HG.out⟩, if_pos rfl] at hsp
    have HSP := Lib.hid hsp
    have hck : Hid (chkE zs R = (0, 0)) := chkE_ok (HZ.out.symm.trans hz0)
    subst hz0
    subst ezl
    clear hsp htk HZ HZL hsays HZS
    go_wp2_with fail
    refine (check_prog_log A9 c9 zl.length zl R rfl w12 (by omega) hvz.out HS12.out).mono ?_
    rintro e w13 ⟨rfl, hb13⟩
    rw [hck.out]
    have hbw13 := hbw12.trans (hb13.mono hbw12.size)
    have HL13 := Lib.hid ((HL12.out.below hb13).more hb13.size)
    have HB13 := Lib.hid ((HB12.out.below hb13).more hb13.size)
    have HS13 := Lib.hid ((HS12.out.below hb13).more hb13.size)
    have HW13 := Lib.hid ((HW12.out.below hb13).more hb13.size)
    clear hb13 HL12 HB12 HS12 HW12 hck
    dsimp only
    go_wp2_with fail
    refine (HSP.out w13 HS13.out HB13.out).mono ?_
    rintro e w14 ⟨v14, rfl, hm14, hb14⟩
    obtain ⟨A14, c14, rfl, hc14⟩ := hm14.form
    have hbw14 := hbw13.trans (hb14.mono hbw13.size)
    have HL14 := Lib.hid ((HL13.out.below hb14).more hb14.size)
    have HS14 := Lib.hid ((HS13.out.below hb14).more hb14.size)
    have HW14 := Lib.hid ((HW13.out.below hb14).more hb14.size)
    have HK14 := Lib.hid (hm14.rd' encEntry.len)
    clear hm14 hb14 HL13 HB13 HS13 HW13 HSP
    dsimp only
    go_wp2_with fail
    refine (sameTrue A9 A11 c9 c11 _ zl rfl w14 (by omega) HS14.out HW14.out).mono ?_
    rintro e w0 ⟨rfl, q3, rfl⟩
    dsimp only
    go_wp2_with fail
    refine (sameTrue A14 A1 c14 c1 _ l rfl _ (by omega) (by exact HK14.out) (by exact HL14.out)).mono ?_
    rintro e w0 ⟨rfl, q4, rfl⟩
    dsimp only
    go_wp2_with fail
    go_ret
    exact ⟨rfl, by first | exact below_drewN hbw14 _ | exact below_drewN (below_drewN hbw14 _) _⟩
  · have ezl : zl = [] := by rw [HZL.out, if_neg hz0]
    subst ezl
    rcases hsays with h | h | h
    · exact absurd h hz0
    · subst h
      clear HZ HZL hz0
      go_wp2_with fail
      go_ret
      exact ⟨rfl, hbw12⟩
    · subst h
      clear HZ HZL hz0
      go_wp2_with fail
      go_ret
      exact ⟨rfl, hbw12⟩
theorem whole_law (W : World) (A0 : Option Addr) (c0 n0 : Nat) (xs0 : List Raw) (hn0 : n0 = xs0.length) (_ : n0 ≤ c0) (hr0 : Rd Raw.cells 5 W W.heap.size A0 xs0) (hw0 : ∀ x ∈ xs0, x.wf) (hs0 : xs0.length * 48 ≤ 140737488351232)
    (A1 : Option Addr) (c1 n1 : Nat) (xs1 : List Raw) (hn1 : n1 = xs1.length) (_ : n1 ≤ c1) (hr1 : Rd Raw.cells 5 W W.heap.size A1 xs1) (hw1 : ∀ x ∈ xs1, x.wf) (hs1 : xs1.length * 48 ≤ 140737488351232)
    (room : Int) (hroom : I64 room) (k : Int) (hk : I64 k) : Calls Try.prog 12 #[.slice A0 n0 c0, .slice A1 n1 c1, .int .i64 room, .int .i64 k] W fun e w' => e = .returned (.bool true) ∧ Below W.heap.size W w' :=
  whole_calls A0 A1 c0 c1 n0 n1 xs0 xs1 room k hroom hk hn0 hn1 W (by omega) (by omega) hw0 hw1 hr0 hr1
end Go.Proofs.Ythpogbbgdenmeaa
