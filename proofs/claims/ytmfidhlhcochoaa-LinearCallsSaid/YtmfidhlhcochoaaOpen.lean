/- A law's arguments opened: slices of operations, entries, cells; operations and entries by value. And the post that a law's row asks, out of 'true' and 'old memory as it was'. Conditions: none. -/
import Derived.Test.YtmfidhlhcochoaaRows
import Derived.Test.YtmfidhlhcochoaaPlain
import Derived.ProofKit
import Derived.Deep.Slices
import Derived.Deep.Fields
import Derived.OpenShut
import Derived.ShutString
import Derived.SizedLaws
namespace Go.Proofs.Ytmfidhlhcochoaa
open Go.ChangeShapes Go.WideShapes Go.ChangeAt Go.RowKit Go.Deep
open Go.ChangeMaps (open_string shut_string)
set_option linter.unusedVariables false
set_option linter.unusedSimpArgs false

def I64 (x : Int) : Prop := -9223372036854775808 ≤ x ∧ x ≤ 9223372036854775807
structure Op.wf (o : Op) : Prop where
  kind : I64 o.kind
  slot : I64 o.slot
  value : o.value.size ≤ 9223372036854775807
structure Entry.wf (e : Entry) : Prop where
  client : I64 e.client
  number : I64 e.number
  op : e.op.wf
structure Cell.wf (c : Cell) : Prop where
  slot : I64 c.slot
  value : c.value.size ≤ 9223372036854775807

section
variable {H : Type} {enc : TypeId × Value → H} {w : World} {base : Nat} {spare : Nat → Bool} {held : Bool} {fuel : Nat} {cs : List Value} {x : DataW H × List MemPlace}
theorem lenLe {s : ByteArray} (h : s.size ≤ maxLen) : s.size ≤ 9223372036854775807 := by unfold maxLen at h; exact h
set_option maxRecDepth 100000 in
theorem trod_op (h : DataW.trod enc Try.prog w base spare held fuel 38 cs = some x) : ∃ o : Op, cs = o.cells ∧ o.wf := by
  obtain ⟨xs, n, _, _, hl, hxl, hf⟩ := DataW.trod_struct Try.underlying38 h
  have hl3 : cs.length = 3 := hl.trans (by kernel_rfl)
  match cs, hl3 with
  | [a, b, c], _ =>
    match xs, hxl with
    | [x0, x1, x2], _ =>
      have c3 : Try.prog.cellsOf 3 = 1 := by kernel_rfl
      have c9 : Try.prog.cellsOf 9 = 1 := by kernel_rfl
      have h0 := hf 0 _ rfl
      have h1 := hf 1 _ rfl
      have h2 := hf 2 _ rfl
      simp [c3, c9] at h0 h1 h2
      obtain ⟨k, e0, _, w0⟩ := DataW.trod_int Try.underlying3 h0
      obtain ⟨s, e1, _, w1⟩ := DataW.trod_int Try.underlying3 h1
      obtain ⟨v, e2, _, w2⟩ := DataW.trod_string Try.underlying9 h2
      simp at e0 e1 e2
      exact ⟨⟨k, s, v⟩, by rw [e0, e1, e2]; rfl, bounds_i64 w0, bounds_i64 w1, lenLe w2⟩
set_option maxRecDepth 100000 in
theorem trod_entry (h : DataW.trod enc Try.prog w base spare held fuel 119 cs = some x) : ∃ e : Entry, cs = e.cells ∧ e.wf := by
  obtain ⟨xs, n, _, _, hl, hxl, hf⟩ := DataW.trod_struct Try.underlying119 h
  have hl5 : cs.length = 5 := hl.trans (by kernel_rfl)
  match cs, hl5 with
  | [a, b, c, d, e], _ =>
    match xs, hxl with
    | [x0, x1, x2], _ =>
      have c3 : Try.prog.cellsOf 3 = 1 := by kernel_rfl
      have c9 : Try.prog.cellsOf 38 = 3 := by kernel_rfl
      have h0 := hf 0 _ rfl
      have h1 := hf 1 _ rfl
      have h2 := hf 2 _ rfl
      simp [c3, c9] at h0 h1 h2
      obtain ⟨k, e0, _, w0⟩ := DataW.trod_int Try.underlying3 h0
      obtain ⟨s, e1, _, w1⟩ := DataW.trod_int Try.underlying3 h1
      obtain ⟨o, e2, w2⟩ := trod_op h2
      simp at e0 e1
      exact ⟨⟨k, s, o⟩, by rw [e0, e1, e2]; rfl, bounds_i64 w0, bounds_i64 w1, w2⟩
set_option maxRecDepth 100000 in
theorem trod_cell (h : DataW.trod enc Try.prog w base spare held fuel 107 cs = some x) : ∃ e : Cell, cs = e.cells ∧ e.wf := by
  obtain ⟨xs, n, _, _, hl, hxl, hf⟩ := DataW.trod_struct Try.underlying107 h
  have hl5 : cs.length = 2 := hl.trans (by kernel_rfl)
  match cs, hl5 with
  | [a, b], _ =>
    match xs, hxl with
    | [x0, x1], _ =>
      have c3 : Try.prog.cellsOf 3 = 1 := by kernel_rfl
      have c9 : Try.prog.cellsOf 9 = 1 := by kernel_rfl
      have h0 := hf 0 _ rfl
      have h1 := hf 1 _ rfl
      simp [c3, c9] at h0 h1
      obtain ⟨k, e0, _, w0⟩ := DataW.trod_int Try.underlying3 h0
      obtain ⟨v, e1, _, w2⟩ := DataW.trod_string Try.underlying9 h1
      simp at e0 e1
      exact ⟨⟨k, v⟩, by rw [e0, e1]; rfl, bounds_i64 w0, lenLe w2⟩
end

theorem list_of {α : Type} {p : Nat → α → Prop} (n : Nat) (h : ∀ i, i < n → ∃ a, p i a) : ∃ xs : List α, xs.length = n ∧ ∀ i a, xs[i]? = some a → p i a := by
  induction n with
  | zero => exact ⟨[], rfl, fun i a h => by simp at h⟩
  | succ n ih =>
    obtain ⟨xs, hl, hp⟩ := ih (fun i hi => h i (by omega))
    obtain ⟨a, ha⟩ := h n (by omega)
    refine ⟨xs ++ [a], by simp [hl], fun i b hb => ?_⟩
    by_cases hi : i < xs.length
    · rw [List.getElem?_append_left hi] at hb; exact hp i b hb
    · rw [List.getElem?_append_right (by omega)] at hb
      have : i - xs.length = 0 := by
        rcases Nat.eq_zero_or_pos (i - xs.length) with h0 | h0
        · exact h0
        · rw [List.getElem?_eq_none (by simp; omega)] at hb; cases hb
      rw [this] at hb
      simp at hb
      subst hb
      rwa [show i = n by omega]

set_option maxRecDepth 100000 in
theorem open_list {H : Type} {en : TypeId × Value → H} {α : Type} {enc : α → List Value} {wf : α → Prop} {t e k bytes : Nat} {W : World} {v : Value} {d : DataW H} {p : List MemPlace} {base : Nat} {r : Reach} (T : RowT Try.prog t e k bytes) (hC : Try.prog.cellsOf e = k)
    (hE : ∀ x, (enc x).length = k)
    (hel : ∀ {fuel : Nat} {cs : List Value} {x : DataW H × List MemPlace}, DataW.trod en Try.prog W 0 (fun _ => true) true fuel e cs = some x → ∃ a : α, cs = enc a ∧ wf a)
    (hv : Value.okWide Try.prog W r base t v) (h : DataW.Trod en Try.prog W 0 (fun _ => true) true t v d p) :
    ∃ A c n, ∃ xs : List α, v = .slice A n c ∧ n = xs.length ∧ n ≤ c ∧ Rd enc k W W.heap.size A xs ∧ (∀ x ∈ xs, wf x) ∧ ((d = .nil ∧ xs = []) ∨ ∃ es sp, d = .slice es sp ∧ es.length = xs.length) := by
  obtain ⟨a0, len0, cap0, rfl⟩ := okWide_slice T.under hv
  obtain ⟨fuel, hf⟩ := h
  rcases open_slice T.under hf with ⟨hcs, hx⟩ | ⟨ad, len, cap, m, n, D, Pl, hcs, _, hl, hm, hmm, hx, hi⟩
  · simp [Value.cells] at hcs
    obtain ⟨rfl, rfl, rfl⟩ := hcs
    exact ⟨none, 0, 0, [], rfl, rfl, Nat.le_refl _, Rd.nil, by simp, .inl ⟨by simpa using congrArg Prod.fst hx, rfl⟩⟩
  · simp [Value.cells] at hcs
    obtain ⟨rfl, rfl, rfl⟩ := hcs
    simp at hmm
    subst hmm
    obtain ⟨xs, hxl, hxp⟩ := list_of (p := fun i (a : α) => W.cells? 0 (ad.add (i * k)) k = some (enc a) ∧ wf a) len0 (fun i hi' => by
      obtain ⟨cs', hc, ht⟩ := hi i (by omega)
      rw [hC] at hc
      obtain ⟨a, ha, hw⟩ := hel ht
      exact ⟨a, ha ▸ hc, hw⟩)
    refine ⟨some ad, _, _, xs, rfl, hxl.symm, hl, fun i x hix => ?_, fun x hx' => ?_, .inr ⟨_, _, by simpa using congrArg Prod.fst hx, by simp [hxl]⟩⟩
    · obtain ⟨hc, _⟩ := hxp i x hix
      obtain ⟨_, hcl, hat⟩ := World.cells?_some hc
      have hat' : At W (ad.add (i * k)) (enc x) := fun j u hu => by
        have hj : j < k := by rw [← hE x]; exact (List.getElem?_eq_some_iff.1 hu).1
        exact (hat j hj).trans hu
      refine ⟨ad, rfl, ?_, hat'⟩
      have h0 : ∃ u, (enc x)[0]? = some u := ⟨_, List.getElem?_eq_getElem (by rw [hE]; exact T.pos)⟩
      obtain ⟨u, hu⟩ := h0
      have := World.block_lt_of_cell? W _ (hat' 0 u hu)
      rwa [block_add, block_add] at this
    · obtain ⟨i, hi', rfl⟩ := List.mem_iff_getElem.1 hx'
      exact (hxp i _ (List.getElem?_eq_getElem hi')).2

/-- Its size, by the form's own reach. -/
theorem sized_list {H : Type} {α : Type} {P : Program} {ts : List TypeId} {ds : List (DataW H)} {j t e bytes : Nat} {d : DataW H} {xs : List α} (h : (DataW.weightsEach P ts ds).all (· ≤ reachBytes) = true) (ht : ts[j]? = some t) (hd : ds[j]? = some d) (hu : P.underlying t = some (.slice e)) (hb : P.bytesOf e = bytes)
    (hx : (d = .nil ∧ xs = []) ∨ ∃ es sp, d = .slice es sp ∧ es.length = xs.length) : xs.length * bytes ≤ 140737488351232 := by
  rcases hx with ⟨_, rfl⟩ | ⟨es, sp, rfl, hl⟩
  · simp
  · have := sized_slice h ht hd hu
    rw [hb, hl, Nat.add_mul] at this
    unfold reachBytes at this
    omega

theorem own_ : ownKnob Try.prog.godebug = none := by kernel_rfl
theorem laidOut_ : laidOutB Try.prog = true := by kernel_rfl

structure Rdb (t : TypeId) : Prop where
  rec_ : Try.prog.readableRec t = true
  lt : t < Try.prog.types.size
def AllRd : List TypeId → Prop
  | [] => True
  | t :: ts => Rdb t ∧ AllRd ts
theorem rdE : Rdb 75 := ⟨by kernel_rfl, of_decide_eq_true (by kernel_rfl)⟩
theorem rdC : Rdb 35 := ⟨by kernel_rfl, of_decide_eq_true (by kernel_rfl)⟩
theorem rdi : Rdb 3 := ⟨by kernel_rfl, of_decide_eq_true (by kernel_rfl)⟩
theorem rdb : Rdb 4 := ⟨by kernel_rfl, of_decide_eq_true (by kernel_rfl)⟩
theorem rds : Rdb 9 := ⟨by kernel_rfl, of_decide_eq_true (by kernel_rfl)⟩
theorem rdo : Rdb 38 := ⟨by kernel_rfl, of_decide_eq_true (by kernel_rfl)⟩
theorem rde : Rdb 119 := ⟨by kernel_rfl, of_decide_eq_true (by kernel_rfl)⟩

/-- All arguments read as they did. -/
theorem trodAll_below {H : Type} {en : TypeId × Value → H} {W W' : World} (hb : Below W.heap.size W W') (ts : List TypeId) : ∀ (vs : List Value) (ds : List (DataW H)) (p : List MemPlace),
    AllRd ts → DataW.TrodAll en Try.prog W 0 (fun _ => true) true ts vs ds p → DataW.TrodAll en Try.prog W' 0 (fun b => decide (b < W.heap.size)) true ts vs ds p := by
  induction ts with
  | nil =>
    intro vs ds p _ h
    obtain ⟨rfl, rfl, rfl⟩ := trodAll_nil h
    exact trodAll_mk0
  | cons t ts ih =>
    intro vs ds p hr h
    obtain ⟨v, vs', d, ds', p0, q0, rfl, rfl, rfl, h0, r0⟩ := trodAll_cons h
    exact trodAll_cons_mk (Below.trod laidOut_ hr.1.rec_ hr.1.lt h0 hb (by obtain ⟨m, hm⟩ := h0; exact DataW.trod_lt m _ _ _ hm)) (ih vs' ds' q0 hr.2 r0)
end Go.Proofs.Ytmfidhlhcochoaa
