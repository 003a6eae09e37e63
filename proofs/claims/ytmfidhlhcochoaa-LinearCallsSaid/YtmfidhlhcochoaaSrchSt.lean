/- What lives while linear.Search runs, and the soundness of what it has in vain. Conditions: none. -/
import Derived.Test.YtmfidhlhcochoaaLinM1
import Derived.Test.YtmfidhlhcochoaaLedger
namespace Go.Proofs.Ytmfidhlhcochoaa
open Go.RowKit
set_option linter.unusedVariables false
set_option linter.unusedSimpArgs false

def icell (n : Nat) : List Value := [.int .i64 (n : Nat)]
theorem encI : Enc icell 1 := ⟨fun _ => rfl, fun x u hu => by simp [icell] at hu; subst hu; rfl⟩
theorem rowInt : RowT Try.prog 23 3 1 8 := RowT.of (z := .int .i64 0) Try.underlying23 (by kernel_rfl) rfl (by omega)
theorem rowBool : RowT Try.prog 91 4 1 1 := RowT.of (z := .bool false) Try.underlying91 (by kernel_rfl) rfl (by omega)

/-- One place of the search. -/
def stepC (f : Nat) (l : List Call) (S : List Bool) (cs : List Cell) (i : Nat) : Option (List Nat) := match S[i]?, l[i]? with
  | some false, some x => if breaksL l S i (would cs x.op) = true then none else comp f l (S.set i true) (after cs x.op)
  | _, _ => none
theorem comp_done {f : Nat} {l : List Call} {S : List Bool} {cs : List Cell} (h : missingL l S = false) : comp (f + 1) l S cs = some [] := by
  simp [comp, h]
theorem comp_try {f : Nat} {l : List Call} {S : List Bool} {cs : List Cell} (h : missingL l S = true) : comp (f + 1) l S cs = tryL (stepC f l S cs) (List.range l.length) := by
  simp only [comp, h, if_true]
  rfl
theorem step_stood {f : Nat} {l : List Call} {S : List Bool} {cs : List Cell} {i : Nat} (h : S[i]? = some true) : stepC f l S cs i = none := by simp [stepC, h]
theorem step_breaks {f : Nat} {l : List Call} {S : List Bool} {cs : List Cell} {i : Nat} (hi : i < l.length) (h : S[i]? = some false) (hb : breaksL l S i (would cs l[i].op) = true) : stepC f l S cs i = none := by
  simp [stepC, h, List.getElem?_eq_getElem hi, hb]
theorem step_goes {f : Nat} {l : List Call} {S : List Bool} {cs : List Cell} {i : Nat} (hi : i < l.length) (h : S[i]? = some false) (hb : breaksL l S i (would cs l[i].op) = false) : stepC f l S cs i = comp f l (S.set i true) (after cs l[i].op) := by
  simp [stepC, h, List.getElem?_eq_getElem hi, hb]
theorem try_none_succ {g : Nat → Option (List Nat)} {k : Nat} (h : tryL g (List.range k) = none) (hk : g k = none) : tryL g (List.range (k + 1)) = none := by
  rw [List.range_succ, tryL_append _ _ _ h]
  simp [tryL, hk]
theorem try_some {g : Nat → Option (List Nat)} {k n : Nat} {ks : List Nat} (h : tryL g (List.range k) = none) (hkn : k < n) (hk : g k = some ks) : tryL g (List.range n) = some (k :: ks) := by
  have e : List.range n = List.range k ++ (k :: (List.range n).drop (k + 1)) := by
    have h1 := List.take_append_drop k (List.range n)
    have h2 : (List.range n).take k = List.range k := by rw [List.take_range]; congr 1; omega
    have h3 : (List.range n).drop k = k :: (List.range n).drop (k + 1) := by
      rw [List.drop_eq_getElem_cons (by simpa using hkn)]
      simp
    rw [h2, h3] at h1
    exact h1.symm
  rw [e, tryL_append _ _ _ h]
  simp [tryL, hk]

/-- What was tried in vain leads nowhere. -/
def Vain (l : List Call) (ps : List ((Int × ByteArray) × Int)) : Prop :=
  ∀ q v, lookK ps q = some v → 0 < v → ∀ (S : List Bool) (cs : List Cell), S.length = l.length → (∀ c ∈ cs, Good c) → q = ((bitsN S : Int), textC cs) → ∀ f, falses S < f → comp f l S cs = none
theorem Vain.nil (l : List Call) : Vain l [] := fun q v h => by simp [lookK] at h
theorem Vain.snoc {l : List Call} {ps : List ((Int × ByteArray) × Int)} (h : Vain l ps) {S : List Bool} {cs : List Cell} {f : Nat} (hS : S.length = l.length) (hc : ∀ c ∈ cs, Good c) (hf : falses S < f) (hn : comp f l S cs = none) (v : Int) : Vain l (setK ps ((bitsN S : Int), textC cs) v) := by
  intro q u hq hu S' cs' hS' hc' e f' hf'
  rw [lookK_setK] at hq
  by_cases e2 : ((bitsN S : Int), textC cs) = q
  · rw [← e2] at e
    injection e with e3 e4
    have e5 : S = S' := bitsN_inj (by omega) (by omega)
    have e6 : cs = cs' := textC_inj hc hc' e4
    subst e5 e6
    rw [comp_fuel l f' f S cs hf' hf]
    exact hn
  · rw [if_neg e2] at hq
    exact h q u hq hu S' cs' hS' hc' e f' hf'

/-- The captured boxes as values. -/
def srchFn (Bl B : Nat) : Value := .func (.func 40) #[] #[.pointer (some ⟨Bl, 0, none⟩), .pointer (some ⟨B + 1, 0, none⟩), .pointer (some ⟨B + 3, 0, none⟩), .pointer (some ⟨B + 4, 0, none⟩), .pointer (some ⟨B + 5, 0, none⟩)]
structure SrchSt (W : World) (l : List Call) (A : Option Addr) (c lo Bl B : Nat) (S : List Bool) (vo : Value) (ord : List Nat) (ps : List ((Int × ByteArray) × Int)) : Prop where
  hBl : Bl < B
  hlo : lo ≤ Bl
  bl : W.heap[Bl]? = some (.cells #[.slice A l.length c] 22 (0, 0))
  gs : W.heap[B]? = some (.cells (S.map Value.bool).toArray 4 (0, 0))
  bs : W.heap[B + 1]? = some (.cells #[.slice (some ⟨B, 0, none⟩) l.length l.length] 91 (0, 0))
  mv : MapK ekTried evInt W (B + 2) ps
  bv : W.heap[B + 3]? = some (.cells #[.map (some (B + 2))] 92 (0, 0))
  bo : W.heap[B + 4]? = some (.cells #[vo] 23 (0, 0))
  bn : W.heap[B + 5]? = some (.cells #[srchFn Bl B] 93 (0, 0))
  hl : Rd Call.cells 10 W lo A l
  ho : Made icell 1 3 (B + 6) W vo ord
  hS : S.length = l.length
  vain : Vain l ps

section
variable {W W' : World} {l : List Call} {A : Option Addr} {c lo Bl B : Nat} {S : List Bool} {vo vo' : Value} {ord ord' : List Nat} {ps ps' : List ((Int × ByteArray) × Int)}
theorem SrchSt.lt (h : SrchSt W l A c lo Bl B S vo ord ps) : B + 5 < W.heap.size := (Array.getElem?_eq_some_iff.1 h.bn).1
/-- Blocks other than those that turn are as they were. -/
theorem SrchSt.frame (h : SrchSt W l A c lo Bl B S vo ord ps) (hs : ∀ k, k < W.heap.size → W'.heap[k]? = W.heap[k]?) : SrchSt W' l A c lo Bl B S vo ord ps := by
  have hlt := h.lt
  have h1 := h.hBl
  have h2 := h.hlo
  exact ⟨h.hBl, h.hlo, (hs _ (by omega)).trans h.bl, (hs _ (by omega)).trans h.gs, (hs _ (by omega)).trans h.bs, h.mv.same (hs _ (by omega)), (hs _ (by omega)).trans h.bv, (hs _ (by omega)).trans h.bo, (hs _ (by omega)).trans h.bn, h.hl.keep fun q hq => World.cell?_of_block (hs _ (by omega)), h.ho.same fun b hb => hs _ (h.ho.lt b hb).2, h.hS, h.vain⟩
theorem SrchSt.below (h : SrchSt W l A c lo Bl B S vo ord ps) (hb : Below W.heap.size W W') : SrchSt W' l A c lo Bl B S vo ord ps := h.frame fun k hk => hb.block k hk
/-- What else turns: books of the caller's. -/
theorem SrchSt.kept {X : Nat → Prop} (h : SrchSt W l A c lo Bl B S vo ord ps) (hk : Kept X W W') (h1 : ∀ k, X k → B + 6 ≤ k ∧ vo.ownBlock ≠ some k) : SrchSt W' l A c lo Bl B S vo ord ps := by
  have hlt := h.lt
  have h2 := h.hBl
  have h3 := h.hlo
  have hs : ∀ k, k < B + 6 → W'.heap[k]? = W.heap[k]? := fun k hk' => hk.block k (by omega) (fun q => by have := (h1 k q).1; omega)
  exact ⟨h.hBl, h.hlo, (hs _ (by omega)).trans h.bl, (hs _ (by omega)).trans h.gs, (hs _ (by omega)).trans h.bs, h.mv.same (hs _ (by omega)), (hs _ (by omega)).trans h.bv, (hs _ (by omega)).trans h.bo, (hs _ (by omega)).trans h.bn, h.hl.keep fun q hq => World.cell?_of_block (hs _ (by omega)), h.ho.same fun b hb => hk.block b (h.ho.lt b hb).2 (fun q => (h1 b q).2 hb), h.hS, h.vain⟩
/-- A place is marked, or its mark taken away. -/
theorem SrchSt.mark (h : SrchSt W l A c lo Bl B S vo ord ps) (i : Nat) (v : Bool) : SrchSt (W.setCell ⟨B, i, none⟩ (.bool v)) l A c lo Bl B (S.set i v) vo ord ps := by
  have hlt := h.lt
  have h2 := h.hBl
  have h3 := h.hlo
  have hs : ∀ k, k ≠ B → (W.setCell ⟨B, i, none⟩ (.bool v)).heap[k]? = W.heap[k]? := fun k hk => Below.heap_setCell _ _ _ _ hk
  refine ⟨h.hBl, h.hlo, (hs _ (by omega)).trans h.bl, ?_, (hs _ (by omega)).trans h.bs, h.mv.same (hs _ (by omega)), (hs _ (by omega)).trans h.bv, (hs _ (by omega)).trans h.bo, (hs _ (by omega)).trans h.bn, h.hl.keep fun q hq => World.cell?_of_block (hs _ (by omega)), h.ho.same fun b hb => hs _ (by have := (h.ho.lt b hb).1; omega), by simpa using h.hS, h.vain⟩
  rw [heap_setCell_same W B i _ _ _ h.gs]
  congr 2
  apply Array.ext'
  simp [List.map_set]
/-- The order's box is written anew. -/
theorem SrchSt.order (h : SrchSt W l A c lo Bl B S vo ord ps) (hk : Kept (fun k => vo.ownBlock = some k) W W') (hm : Made icell 1 3 (B + 6) W' vo' ord') : SrchSt (W'.setCell ⟨B + 4, 0, none⟩ vo') l A c lo Bl B S vo' ord' ps := by
  have hlt := h.lt
  have h2 := h.hBl
  have h3 := h.hlo
  have hs0 : ∀ k, k < B + 6 → W'.heap[k]? = W.heap[k]? := fun k hk' => hk.block k (by omega) (fun q => by have := (h.ho.lt k q).1; omega)
  have hs1 : ∀ k, k ≠ B + 4 → (W'.setCell ⟨B + 4, 0, none⟩ vo').heap[k]? = W'.heap[k]? := fun k hk => Below.heap_setCell _ _ _ _ hk
  have hs : ∀ k, k < B + 6 → k ≠ B + 4 → (W'.setCell ⟨B + 4, 0, none⟩ vo').heap[k]? = W.heap[k]? := fun k a b => (hs1 k b).trans (hs0 k a)
  refine ⟨h.hBl, h.hlo, (hs _ (by omega) (by omega)).trans h.bl, (hs _ (by omega) (by omega)).trans h.gs, (hs _ (by omega) (by omega)).trans h.bs, h.mv.same (hs _ (by omega) (by omega)), (hs _ (by omega) (by omega)).trans h.bv, ?_, (hs _ (by omega) (by omega)).trans h.bn, h.hl.keep fun q hq => World.cell?_of_block (hs _ (by omega) (by omega)), hm.same fun b hb => hs1 _ (by have := (hm.lt b hb).1; omega), h.hS, h.vain⟩
  rw [heap_setCell_same W' (B + 4) 0 _ _ _ ((hs0 _ (by omega)).trans h.bo)]; rfl
/-- The map of what was in vain has grown. -/
theorem SrchSt.more (h : SrchSt W l A c lo Bl B S vo ord ps) (hg : W.grownBy W' (some (B + 2))) (hm : MapK ekTried evInt W' (B + 2) ps') (hv : Vain l ps') : SrchSt W' l A c lo Bl B S vo ord ps' := by
  have hlt := h.lt
  have h2 := h.hBl
  have h3 := h.hlo
  have hs : ∀ k, k < W.heap.size → k ≠ B + 2 → W'.heap[k]? = W.heap[k]? := fun k a b => hg.block k a (fun e => b (Option.some.inj e))
  exact ⟨h.hBl, h.hlo, (hs _ (by omega) (by omega)).trans h.bl, (hs _ (by omega) (by omega)).trans h.gs, (hs _ (by omega) (by omega)).trans h.bs, hm, (hs _ (by omega) (by omega)).trans h.bv, (hs _ (by omega) (by omega)).trans h.bo, (hs _ (by omega) (by omega)).trans h.bn, h.hl.keep fun q hq => World.cell?_of_block (hs _ (by omega) (by omega)), h.ho.same fun b hb => hs _ (h.ho.lt b hb).2 (by have := (h.ho.lt b hb).1; omega), h.hS, hv⟩
/-- The marks read as a list. -/
theorem SrchSt.rdS (h : SrchSt W l A c lo Bl B S vo ord ps) : Rd boolC 1 W W.heap.size (some ⟨B, 0, none⟩) S := fun i b hb => by
  have hlt := h.lt
  refine ⟨⟨B, 0, none⟩, rfl, by show B < _; omega, fun j u hu => ?_⟩
  cases j with
  | zero =>
    simp only [boolC, List.getElem?_cons_zero, Option.some.injEq] at hu
    subst hu
    have : W.cell? ⟨B, i, none⟩ = some (.bool b) := cell_of_row _ _ i _ _ _ h.gs |>.trans (by simp [hb])
    have e : ((⟨B, 0, none⟩ : Addr).add (i * 1)).add 0 = ⟨B, i, none⟩ := by
      rw [add_add', Nat.mul_one, Nat.add_zero]
      unfold Addr.add
      by_cases hi : i = 0
      · subst hi; simp
      · simp [hi]
    rw [e]; exact this
  | succ j => simp [boolC] at hu
end
theorem flat_take {α : Type} {enc : α → List Value} {k : Nat} (hk : ∀ x, (enc x).length = k) (xs : List α) (m : Nat) (hm : m ≤ xs.length) : flat enc (xs.take m) = (flat enc xs).take (m * k) := by
  have h1 : flat enc xs = flat enc (xs.take m) ++ flat enc (xs.drop m) := by rw [← flat_append, List.take_append_drop]
  have h2 : (flat enc (xs.take m)).length = m * k := by rw [flat_length hk, List.length_take, Nat.min_eq_left hm]
  rw [h1, ← h2, List.take_left]
theorem Made.addrN {α : Type} {enc : α → List Value} {k : Nat} {e : TypeId} {base : Nat} {w : World} {A : Option Addr} {n c : Nat} {xs : List α} (h : Made enc k e base w (.slice A n c) xs) (hn : 0 < n) : A ≠ none := by
  rcases h.2 with ⟨hv, hn'⟩ | ⟨g, cap, cur, hv, _⟩
  · injection hv with h1 h2 h3
    omega
  · injection hv with h1 h2 h3
    subst h1
    simp
theorem own_len {A : Option Addr} {n m c : Nat} : (Value.slice A n c).ownBlock = (Value.slice A m c).ownBlock := by cases A <;> rfl
/-- A row of the call's own, cut shorter. -/
theorem Made.cutTo {α : Type} {enc : α → List Value} {k : Nat} {e : TypeId} {base : Nat} {w : World} (hk : ∀ x, (enc x).length = k) {A : Option Addr} {n c m : Nat} {xs : List α} (h : Made enc k e base w (.slice A n c) xs) (hm : m ≤ n) (hA : A ≠ none) : Made enc k e base w (.slice A m c) (xs.take m) := by
  have hn : n = xs.length := by
    obtain ⟨A', c', hv, _⟩ := h.form
    injection hv
  refine ⟨by rw [flat_length hk], ?_⟩
  rcases h.2 with ⟨hv, _⟩ | ⟨g, cap, cur, hv, hb, hg, h1, h2, h3, h4⟩
  · injection hv with q; exact absurd q hA
  · injection hv with q1 q2 q3
    subst q1 q3
    refine .inr ⟨g, c, cur, ?_, hb, hg, by rw [List.length_take]; omega, h2, h3, ?_⟩
    · rw [List.length_take, Nat.min_eq_left (by omega)]
    · rw [List.length_take, Nat.min_eq_left (by omega), flat_take hk xs m (by omega), ← h4, List.take_take]
      congr 1
      rw [← hn]
      exact (Nat.min_eq_left (Nat.mul_le_mul_right _ hm)).symm
end Go.Proofs.Ytmfidhlhcochoaa
