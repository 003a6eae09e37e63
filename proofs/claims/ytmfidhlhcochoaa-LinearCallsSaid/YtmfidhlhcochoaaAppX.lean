/- append to a row of the call's own, which stays what it was in its own length; stores into such rows; several rows of one kind. Plain memory. Conditions: none. -/
import Derived.Test.YtmfidhlhcochoaaBookPlain
import Derived.Test.YtmfidhlhcochoaaSrchSt
namespace Go.Proofs.Ytmfidhlhcochoaa
open Go.RowKit
set_option linter.unusedVariables false
set_option linter.unusedSimpArgs false

section appx
variable {P : Program} {t e : TypeId} {k bytes : Nat} {α : Type} {enc : α → List Value}
/-- append of some elements to a row of the call's own: the old slice still reads as it did. -/
theorem run_appX (w : World) (T : RowT P t e k bytes) (E : Enc enc k) (ty : TypeId) (base : Nat) {v : Value} {xs ys : List α} (hv : Made enc k e base w v xs) {B : Nat} {A : Option Addr} {c m : Nat} (hm : m = ys.length) (hne : ys ≠ []) (hy : Rd enc k w B A ys)
    (hbytes : (xs.length + ys.length) * bytes ≤ 140737488355328) (h63 : xs.length + ys.length ≤ maxLen) (hbase : base ≤ w.heap.size) :
    ∃ (v' : Value) (w' : World), (Builtin.append_ #[t, t] ty #[v, .slice A m c]).run P w = .ok v' w' ∧ Made enc k e base w' v' (xs ++ ys) ∧ Made enc k e base w' v xs ∧ w.grownBy w' v.ownBlock ∧ (v'.ownBlock = v.ownBlock ∨ v'.ownBlock = some w.heap.size) := by
  obtain ⟨v', w', hrun, hmd, hgr, hat⟩ := run_app w T E ty base hv (c := c) (m := m) hm hy hbytes h63 hbase
  refine ⟨v', w', hrun, hmd, ?_, hgr, hat⟩
  obtain ⟨A', c', rfl, hc'⟩ := hmd.form
  obtain ⟨i, z, hi, hz, hs, hb, hzs⟩ := T.info
  have hA : ∃ ad, A = some ad := by
    cases ys with
    | nil => exact absurd rfl hne
    | cons y ys => obtain ⟨ad, q, _⟩ := hy 0 y rfl; exact ⟨ad, q⟩
  obtain ⟨ad, rfl⟩ := hA
  rcases id hv.2 with ⟨hvn, hx0⟩ | ⟨g, cap, cur, hvv, hbg, hg, hnc, hcm, hcs, htake⟩
  · subst hvn
    have : xs = [] := by cases xs; rfl; cases hx0
    subst this
    exact Made.nil _ _ _
  · subst hvv
    have hfl : (flat enc ys).length = m * i.size := by rw [flat_length E.len, hs, hm]
    have hnews : ∀ j u, (flat enc ys)[j]? = some u → w.cell? (ad.add j) = some u := hy.flatAt E.len T.pos
    by_cases hroom : xs.length + m ≤ cap
    · have hfit : xs.length * i.size + (flat enc ys).length ≤ cur.size := by rw [hfl, hcs, hs, ← Nat.add_mul]; exact Nat.mul_le_mul_right _ hroom
      have hr := run_append_room (P := P) w t ty e i T.under hi g xs.length cap cur hg ad m c (flat enc ys) hfl hnews (E.flat_one ys) hroom hfit
      rw [hr] at hrun
      injection hrun with r1 r2
      injection r1 with r1 r3 r4
      subst r1
      rw [← r4] at hmd
      have h1 := Made.cutTo E.len hmd (show xs.length ≤ (xs ++ ys).length by simp) (by simp)
      rwa [List.take_left] at h1
    · have holds : ∀ j u, (flat enc xs)[j]? = some u → w.cell? ((⟨g, 0, none⟩ : Addr).add j) = some u := World.ownsRow.cells (g := g) hv rfl
      have hr := run_append_grow (P := P) w t ty e i z T.under hi hz ⟨g, 0, none⟩ xs.length cap (flat enc xs) (by rw [flat_length E.len, hs]) holds ad m c (flat enc ys) hfl hnews (by omega) (by simp only [maxLen] at h63; omega) (growslice_fits (by omega) (by rw [hm, hb]; exact hbytes))
      rw [hr] at hrun
      injection hrun with r1 r2
      have hbl : Below w.heap.size w w' := by rw [← r2]; exact ⟨rfl, rfl, rfl, by simp, fun j hj => heap_alloc_old w.drew _ hj⟩
      exact hv.below hbl (fun b q => (hv.lt b q).2)
theorem wpList_appX {w : World} (T : RowT P t e k bytes) (E : Enc enc k) {ops : Array Oper} {rest : List Oper} {o : Oper} {a : Act} {Q : Exit → Act → World → Prop} (hgd : o.guard = none) (s x : Operand)
    (ho : o.op = .call { callee := .builtin .append, args := #[s, x], argTypes := #[t, t] })
    (base : Nat) {v : Value} {xs ys : List α} (hs : a.eval s = v) (hv : Made enc k e base w v xs) {B : Nat} {A : Option Addr} {c m : Nat} (hx : a.eval x = .slice A m c) (hm : m = ys.length) (hne : ys ≠ []) (hy : Rd enc k w B A ys)
    (hbytes : (xs.length + ys.length) * bytes ≤ 140737488355328) (h63 : xs.length + ys.length ≤ maxLen) (hbase : base ≤ w.heap.size)
    (h : ∀ v' w', Made enc k e base w' v' (xs ++ ys) → Made enc k e base w' v xs → w.grownBy w' v.ownBlock → (v'.ownBlock = v.ownBlock ∨ v'.ownBlock = some w.heap.size) → wpList P ops Q rest (a.put o.dst v') w') : wpList P ops Q (o :: rest) a w := by
  refine wpList_plain hgd fun _ hK => ?_
  obtain ⟨v', w', hrun, h2, h3, h4, h5⟩ := run_appX w T E o.type base hv (c := c) hm hne hy hbytes h63 hbase
  unfold Oper.wp execOp
  simp only [ho, resolve, invoke, builtin, Sem.run_bind, Sem.run_pure, Result.andThen_ok, List.map_toArray, List.map_cons, List.map_nil, hs, hx, hrun]
  exact hK _ _ (h v' w' h2 h3 h4 h5)
end appx

section rows
variable {α : Type} {enc : α → List Value} {k : Nat} {e : TypeId} {base : Nat} {w w' : World}
/-- One cell of one element of a row, written over. -/
theorem Made.cellPut (E : Enc enc k) {g n c : Nat} {xs : List α} (h : Made enc k e base w (.slice (some ⟨g, 0, none⟩) n c) xs) {i j : Nat} (hi : i < xs.length) (hj : j < k) (x' : α) {u : Value} (hx : enc x' = (enc xs[i]).set j u) : Made enc k e base (w.setCell ⟨g, i * k + j, none⟩ u) (.slice (some ⟨g, 0, none⟩) n c) (xs.set i x') := by
  obtain rfl : n = xs.length := by
    obtain ⟨A', c', hv, _⟩ := h.form
    injection hv
  have h1 := (World.ownsRow.stored h (i * k + j) u).1
  unfold Made
  have h2 : flat enc (xs.set i x') = (flat enc xs).set (i * k + j) u := by
    have hlen := E.len
    clear h h1
    induction xs generalizing i with
    | nil => simp at hi
    | cons y ys ih =>
      cases i with
      | zero =>
        simp only [List.set_cons_zero, flat, List.flatMap_cons, List.getElem_cons_zero] at hx ⊢
        rw [hx, Nat.zero_mul, Nat.zero_add, List.set_append_left _ _ (by rw [hlen]; exact hj)]
      | succ i =>
        simp only [List.set_cons_succ, flat, List.flatMap_cons, List.getElem_cons_succ] at hx ⊢
        have := ih (i := i) (by simpa using hi) hx
        unfold flat at this
        rw [this, List.set_append_right _ _ (by rw [hlen, Nat.succ_mul]; omega), hlen]
        congr 2
        rw [Nat.succ_mul]; omega
  rw [List.length_set, h2]
  exact h1
end rows
end Go.Proofs.Ytmfidhlhcochoaa
