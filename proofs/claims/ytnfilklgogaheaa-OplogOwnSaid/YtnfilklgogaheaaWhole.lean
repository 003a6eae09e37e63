/- OplogWhole answers true, whatever the arguments. Conditions: sizes within the form's own reach. -/
import Derived.Test.YtnfilklgogaheaaGrown
import Derived.Test.YtnfilklgogaheaaGrowPlain
import Derived.Test.YtnfilklgogaheaaSplice
import Derived.Test.YtnfilklgogaheaaPiece
import Derived.Test.YtnfilklgogaheaaCommon
namespace Go.Proofs.Ytnfilklgogaheaa
open Go.RowKit Go.Deep
set_option linter.unusedVariables false
set_option linter.unusedSimpArgs false

section appG
variable {P : Program} {t e : TypeId} {k bytes : Nat} {α : Type} {enc : α → List Value}
theorem wpList_appG {w : World} (T : RowT P t e k bytes) (E : Enc enc k) {ops : Array Oper} {rest : List Oper} {o : Oper} {a : Act} {Q : Exit → Act → World → Prop} (s x : Operand)
    (ho : o.op = .call { callee := .builtin .append, args := #[s, x], argTypes := #[t, t] })
    (base : Nat) {v : Value} {xs ys : List α} (hs : a.eval s = v) (hv : Made enc k e base w v xs) {B : Nat} {A : Option Addr} {c m : Nat} (hx : a.eval x = .slice A m c) (hm : m = ys.length) (hy : Rd enc k w B A ys)
    (hbytes : (xs.length + ys.length) * bytes ≤ 140737488355328) (h63 : xs.length + ys.length ≤ maxLen) (hbase : base ≤ w.heap.size) (hw : Region.wanted o (yielded ops a.tmps) = true)
    (h : ∀ v' w', Made enc k e base w' v' (xs ++ ys) → w.grownBy w' v.ownBlock → wpList P ops Q rest (a.put o.dst v') w') : wpList P ops Q (o :: rest) a w :=
  wpList_step fun K hK => by
    rw [if_pos hw]
    exact wp_app w T E s x ho base hs hv hx hm hy hbytes h63 hbase fun v' w' h2 h3 h4 => hK _ _ (h v' w' h2 h3)
end appG
theorem common_take_self (l : List Entry) (p : Nat) (hp : p ≤ l.length) : common (l.take p) l = p := by
  induction p generalizing l with
  | zero => cases l <;> rfl
  | succ p ih =>
    cases l with
    | nil => simp at hp
    | cons x l => simp only [List.take_succ_cons, common, if_pos rfl]; rw [ih l (by simpa using hp)]; simp
theorem cut_ok' (A : Option Addr) (c : Nat) (p : Nat) (l : List Entry) (hc : l.length ≤ c) (hp : p ≤ l.length) (w : World) (hb : l.length ≤ 256) (ha : Rd Entry.cells 5 w w.heap.size A l) :
    Calls Try.prog 26 #[.slice A l.length c, .int .i64 (p : Int)] w fun e w' => ∃ A' c', e = .returned (.tuple #[.slice A' p c', .int .i64 0]) ∧ p ≤ c' ∧ Rd Entry.cells 5 w' w'.heap.size A' (l.take p) ∧ Below w.heap.size w w' := by
  refine (cut_prog A c l.length p l rfl hc w (by omega) ha).mono ?_
  rintro e w' ⟨v, rfl, hm, hb⟩
  rw [if_neg (by omega)] at hm ⊢
  obtain ⟨A', c', rfl, hc'⟩ := hm.form
  have hr := hm.rd' encEntry.len
  rw [Int.toNat_natCast] at hm hr hc' ⊢
  have hl : (l.take p).length = p := by simp; omega
  rw [hl] at hc' ⊢
  exact ⟨A', c', rfl, hc', hr, hb⟩
theorem tail_ok (A : Option Addr) (c : Nat) (p : Nat) (l : List Entry) (hc : l.length ≤ c) (hp : p ≤ l.length) (w : World) (hb : l.length ≤ 256) (ha : Rd Entry.cells 5 w w.heap.size A l) :
    Calls Try.prog 27 #[.slice A l.length c, .int .i64 ((p : Int) + 1)] w fun e w' => ∃ A' c', e = .returned (.tuple #[.slice A' (l.drop p).length c', .int .i64 0]) ∧ (l.drop p).length ≤ c' ∧ Rd Entry.cells 5 w' w'.heap.size A' (l.drop p) ∧ Below w.heap.size w w' := by
  refine (tail_prog A c l.length ((p : Int) + 1) l rfl hc w (by omega) ha).mono ?_
  rintro e w' ⟨v, rfl, hm, hb⟩
  rw [if_neg (by omega)] at hm ⊢
  have e1 : ((p : Int) + 1 - 1).toNat = p := by omega
  rw [e1] at hm
  obtain ⟨A', c', rfl, hc'⟩ := hm.form
  exact ⟨A', c', rfl, hc', hm.rd' encEntry.len, hb⟩
theorem splE_at {l t : List Entry} (h : GoodE l) {room : Int} (h1 : 1 ≤ room) (h2 : room ≤ 256) (h3 : (l.length : Int) ≤ room) (p : Nat) (hp : p ≤ l.length) : splE l room ((p : Int) + 1) t = (chkE (l.take p ++ t) room).1 := by
  unfold splE
  have e : ((p : Int) + 1 - 1).toNat = p := by omega
  rw [if_neg (by simpa using chkE_zero.2 ⟨h1, h2, h3, h⟩), if_neg (by omega), e]
theorem toNat_at (p : Nat) : ((p : Int) + 1 - 1).toNat = p := by omega

end Go.Proofs.Ytnfilklgogaheaa
