/- Plain data of the program (operations, entries, cells, results, rows) and predicates on memory: no program in sight. Conditions: none. -/
import Derived.WalkKit
import Derived.Below
import Derived.Laws.StructEq
import Derived.Laws.AppendOwn
import Derived.Lib.Hide
import Derived.Deep.Draws
namespace Go.Proofs.Ytmfidhlhcochoaa
open Go.RowKit
set_option linter.unusedVariables false
set_option linter.unusedSimpArgs false

structure Op where
  kind : Int
  slot : Int
  value : ByteArray
deriving DecidableEq
structure Entry where
  client : Int
  number : Int
  op : Op
deriving DecidableEq
structure Cell where
  slot : Int
  value : ByteArray
deriving DecidableEq
structure Res where
  code : Int
  slot : Int
  value : ByteArray
deriving DecidableEq

def Op.cells (o : Op) : List Value := [.int .i64 o.kind, .int .i64 o.slot, .string o.value]
def Entry.cells (e : Entry) : List Value := [.int .i64 e.client, .int .i64 e.number, .int .i64 e.op.kind, .int .i64 e.op.slot, .string e.op.value]
def Cell.cells (c : Cell) : List Value := [.int .i64 c.slot, .string c.value]
def Res.cells (r : Res) : List Value := [.int .i64 r.code, .int .i64 r.slot, .string r.value]

theorem beq_bytes (a b : ByteArray) : (a.toList == b.toList) = decide (a = b) := by
  rw [ByteArray.toList_eq, ByteArray.toList_eq, Bool.eq_iff_iff]
  obtain ⟨⟨x⟩⟩ := a
  obtain ⟨⟨y⟩⟩ := b
  simp

section eqf
variable {P : Program} {d : Nat} {xs ys : Array Value} {f : Field} {fs : List Field} {a b : Value} {r s : Bool} {w : World}
theorem eqf_last (hn : (f.name == "_") = false) (ha : (part f.type xs f.offset).run P w = .ok a w) (hb : (part f.type ys f.offset).run P w = .ok b w) (he : (Op.equalIn d f.type a b).run P w = .ok r w) : (Op.eqFields d xs ys [f]).run P w = .ok r w := by
  have hn' : f.name ≠ "_" := by simpa using hn
  simp only [Op.eqFields, if_pos hn', Sem.run_bind, ha, hb, he, Result.andThen_ok]
  cases r <;> simp
theorem eqf_cons (hn : (f.name == "_") = false) (ha : (part f.type xs f.offset).run P w = .ok a w) (hb : (part f.type ys f.offset).run P w = .ok b w) (he : (Op.equalIn d f.type a b).run P w = .ok r w) (hr : (Op.eqFields d xs ys fs).run P w = .ok s w) : (Op.eqFields d xs ys (f :: fs)).run P w = .ok (r && s) w := by
  have hn' : f.name ≠ "_" := by simpa using hn
  rw [Op.eqFields]
  simp only [if_pos hn', Sem.run_bind, ha, hb, he, Result.andThen_ok]
  cases r
  · simp
  · simpa using hr
theorem eqA_of {t : TypeId} {fs : Array Field} (hu : P.underlying t = some (.struct fs)) (hp : P.stoodInHeld t = false) (h : (Op.eqFields d xs ys fs.toList).run P w = .ok r w) : (Op.equalIn (d + 1) t (.agg xs) (.agg ys)).run P w = .ok r w := by
  have hf : P.fieldsOf t = fs := by simp [Program.fieldsOf, hu]
  rw [run_equalIn_struct (P := P) w d t xs ys (by rw [hf]; exact hu) hp, hf]
  exact h
end eqf

/-! ### cells in a row -/
def At (w : World) (p : Addr) (cs : List Value) : Prop := ∀ j u, cs[j]? = some u → w.cell? (p.add j) = some u
section at_
variable {w w' : World} {p : Addr} {a b c d e : Value} {cs : List Value}
theorem block_add (a : Addr) (n : Nat) : (a.add n).block = a.block := by unfold Addr.add; split <;> rfl
theorem add_add' (a : Addr) (i j : Nat) : (a.add i).add j = a.add (i + j) := by
  unfold Addr.add
  by_cases hi : i = 0 <;> by_cases hj : j = 0 <;> simp [hi, hj, Nat.add_assoc]
theorem At.keep (h : At w p cs) (hk : ∀ q : Addr, q.block = p.block → w'.cell? q = w.cell? q) : At w' p cs :=
  fun j u hu => (hk _ (block_add p j)).trans (h j u hu)
theorem At.two (h : At w p [a, b]) : w.cell? p = some a ∧ w.cell? ⟨p.block, p.off + 1, none⟩ = some b := ⟨h 0 _ rfl, h 1 _ rfl⟩
theorem At.three (h : At w p [a, b, c]) : w.cell? p = some a ∧ w.cell? ⟨p.block, p.off + 1, none⟩ = some b ∧ w.cell? ⟨p.block, p.off + 2, none⟩ = some c := ⟨h 0 _ rfl, h 1 _ rfl, h 2 _ rfl⟩
theorem At.five (h : At w p [a, b, c, d, e]) :
    w.cell? p = some a ∧ w.cell? ⟨p.block, p.off + 1, none⟩ = some b ∧ w.cell? ⟨p.block, p.off + 2, none⟩ = some c ∧ w.cell? ⟨p.block, p.off + 3, none⟩ = some d ∧ w.cell? ⟨p.block, p.off + 4, none⟩ = some e :=
  ⟨h 0 _ rfl, h 1 _ rfl, h 2 _ rfl, h 3 _ rfl, h 4 _ rfl⟩
end at_

/-- The slice at A reads as xs, k cells an element; it lies below block B. -/
def Rd {α : Type} (enc : α → List Value) (k : Nat) (w : World) (B : Nat) (A : Option Addr) (xs : List α) : Prop :=
  ∀ i x, xs[i]? = some x → ∃ ad, A = some ad ∧ ad.block < B ∧ At w (ad.add (i * k)) (enc x)
section rd
variable {α : Type} {enc : α → List Value} {k : Nat} {w w' : World} {B B' : Nat} {A : Option Addr} {xs : List α}
theorem Rd.nil : Rd enc k w B A [] := fun i x h => by simp at h
theorem Rd.keep (h : Rd enc k w B A xs) (hk : ∀ q : Addr, q.block < B → w'.cell? q = w.cell? q) : Rd enc k w' B A xs := fun i x hx => by
  obtain ⟨ad, e, hb, ha⟩ := h i x hx
  exact ⟨ad, e, hb, ha.keep (fun q hq => hk q (by rw [hq, block_add]; exact hb))⟩
theorem Rd.more (h : Rd enc k w B A xs) (hB : B ≤ B') : Rd enc k w B' A xs := fun i x hx => by
  obtain ⟨ad, e, hb, ha⟩ := h i x hx
  exact ⟨ad, e, by omega, ha⟩
theorem Rd.below (h : Rd enc k w B A xs) (hb : Below B w w') : Rd enc k w' B A xs := h.keep fun _ hp => hb.cell hp
theorem Rd.drewN (h : Rd enc k w B A xs) (n : Nat) : Rd enc k (w.drewN n) B A xs := h
theorem Rd.at_ (h : Rd enc k w B A xs) {i : Nat} (hi : i < xs.length) : ∃ ad, A = some ad ∧ ad.block < B ∧ At w (ad.add (i * k)) (enc xs[i]) :=
  h i _ (List.getElem?_eq_getElem hi)
theorem Rd.take (h : Rd enc k w B A xs) (n : Nat) : Rd enc k w B A (xs.take n) := fun i x hx => by
  rw [List.getElem?_take] at hx
  split at hx
  · exact h i x hx
  · cases hx
theorem Rd.drop (h : Rd enc k w B A xs) (n : Nat) : Rd enc k w B (A.map (·.add (n * k))) (xs.drop n) := fun i x hx => by
  rw [List.getElem?_drop] at hx
  obtain ⟨ad, rfl, hb, ha⟩ := h _ x hx
  refine ⟨ad.add (n * k), rfl, by rw [block_add]; exact hb, ?_⟩
  rw [add_add', ← Nat.add_mul]
  exact ha
end rd

/-- All cells of a list of elements. -/
def flat {α : Type} (enc : α → List Value) (xs : List α) : List Value := xs.flatMap enc
theorem flat_length {α : Type} {enc : α → List Value} {k : Nat} (hk : ∀ x, (enc x).length = k) (xs : List α) : (flat enc xs).length = xs.length * k := by
  induction xs with
  | nil => simp [flat]
  | cons x xs ih => simp only [flat, List.flatMap_cons, List.length_append, List.length_cons, hk] at *; rw [ih, Nat.add_mul]; omega
theorem flat_append {α : Type} {enc : α → List Value} (xs ys : List α) : flat enc (xs ++ ys) = flat enc xs ++ flat enc ys := by simp [flat]
theorem flat_get {α : Type} {enc : α → List Value} {k : Nat} (hk : ∀ x, (enc x).length = k) (xs : List α) : ∀ (i j : Nat) (x : α) (u : Value), xs[i]? = some x → (enc x)[j]? = some u → (flat enc xs)[i * k + j]? = some u := by
  induction xs with
  | nil => intro i j x u h; simp at h
  | cons y xs ih =>
    intro i j x u h hu
    have hj : j < k := by rw [← hk x]; exact (List.getElem?_eq_some_iff.1 hu).1
    cases i with
    | zero =>
      simp at h; subst h
      simp only [flat, List.flatMap_cons, Nat.zero_mul, Nat.zero_add]
      rw [List.getElem?_append_left (by rw [hk]; exact hj)]; exact hu
    | succ i =>
      simp at h
      simp only [flat, List.flatMap_cons]
      rw [List.getElem?_append_right (by rw [hk, Nat.add_mul]; omega), hk, show (i + 1) * k + j - k = i * k + j by rw [Nat.add_mul]; omega]
      exact ih i j x u h hu

/-- A row of the call's own reads as its elements. -/
theorem Rd.of_own {α : Type} {enc : α → List Value} {k : Nat} (hk : ∀ x, (enc x).length = k) {w : World} {base : Nat} {e : TypeId} {A : Option Addr} {c : Nat} {xs : List α}
    (h : w.ownsRow base e k (.slice A xs.length c) xs.length (flat enc xs)) : Rd enc k w w.heap.size A xs := by
  intro i x hx
  have hi : i < xs.length := (List.getElem?_eq_some_iff.1 hx).1
  rcases h.2 with ⟨hv, h0⟩ | ⟨g, cap, cur, hv, hb, hg, _⟩
  · omega
  · have hA : A = some ⟨g, 0, none⟩ := by injection hv
    subst hA
    refine ⟨_, rfl, (Array.getElem?_eq_some_iff.1 hg).1, fun j u hu => ?_⟩
    rw [add_add']
    exact h.cells (g := g) rfl _ u (flat_get hk xs i j x u hx hu)

/-- What a call hands back: new memory of its own, or nil. -/
def Made {α : Type} (enc : α → List Value) (k : Nat) (e : TypeId) (base : Nat) (w : World) (v : Value) (xs : List α) : Prop :=
  w.ownsRow base e k v xs.length (flat enc xs)
section made
variable {α : Type} {enc : α → List Value} {k : Nat} {e : TypeId} {base : Nat} {w w' : World} {v : Value} {xs : List α}
theorem Made.form (h : Made enc k e base w v xs) : ∃ A c, v = .slice A xs.length c ∧ xs.length ≤ c := by
  rcases h.2 with ⟨rfl, h0⟩ | ⟨g, cap, cur, rfl, _, _, hc, _⟩
  · exact ⟨none, 0, by rw [h0], by omega⟩
  · exact ⟨_, cap, rfl, hc⟩
theorem Made.rd (hk : ∀ x, (enc x).length = k) {A : Option Addr} {c : Nat} (h : Made enc k e base w (.slice A xs.length c) xs) : Rd enc k w w.heap.size A xs := Rd.of_own hk h
theorem Made.lt (h : Made enc k e base w v xs) : ∀ b, v.ownBlock = some b → base ≤ b ∧ b < w.heap.size := World.ownsRow.lt h
theorem Made.below {B : Nat} (h : Made enc k e base w v xs) (hb : Below B w w') (hv : ∀ b, v.ownBlock = some b → b < B) : Made enc k e base w' v xs := by
  refine ⟨h.1, ?_⟩
  rcases h.2 with hn | ⟨g, cap, cur, rfl, hbg, hgg, rest⟩
  · exact .inl hn
  · exact .inr ⟨g, cap, cur, rfl, hbg, (hb.block g (hv g rfl)).trans hgg, rest⟩
theorem Made.nil (w : World) (base : Nat) (e : TypeId) : Made enc k e base w (.slice none 0 0) ([] : List α) := World.ownsRow_nil w base e k
theorem Made.base' {base' : Nat} (h : Made enc k e base w v xs) (hb : base' ≤ base) : Made enc k e base' w v xs := by
  refine ⟨h.1, ?_⟩
  rcases h.2 with hn | ⟨g, cap, cur, rfl, hbg, hgg, rest⟩
  · exact .inl hn
  · exact .inr ⟨g, cap, cur, rfl, by omega, hgg, rest⟩
theorem Made.cell_block (h : Made enc k e base w v xs) {b : Nat} (hb : v.ownBlock = some b) : ∃ cs, w.heap[b]? = some (.cells cs e (0, 0)) := by
  rcases h.2 with ⟨rfl, _⟩ | ⟨g, cap, cur, rfl, _, hg, _⟩
  · simp [Value.ownBlock] at hb
  · simp [Value.ownBlock] at hb; subst hb; exact ⟨cur, hg⟩
theorem Made.same (h : Made enc k e base w v xs) (hs : ∀ b, v.ownBlock = some b → w'.heap[b]? = w.heap[b]?) : Made enc k e base w' v xs := by
  refine ⟨h.1, ?_⟩
  rcases h.2 with hn | ⟨g, cap, cur, rfl, hbg, hgg, rest⟩
  · exact .inl hn
  · exact .inr ⟨g, cap, cur, rfl, hbg, (hs g rfl).trans hgg, rest⟩

theorem Made.rd' (hk : ∀ x, (enc x).length = k) {A : Option Addr} {n c : Nat} (h : Made enc k e base w (.slice A n c) xs) : Rd enc k w w.heap.size A xs := by
  obtain ⟨A', c', hv, _⟩ := h.form
  injection hv with h1 h2 h3
  subst h1; subst h2; subst h3
  exact h.rd hk
theorem Made.alloc (h : Made enc k e base w v xs) (o : Obj) : Made enc k e base (w.alloc o) v xs := World.ownsRow.alloc h o
theorem Made.drewN (h : Made enc k e base w v xs) (n : Nat) : Made enc k e base (w.drewN n) v xs := h
end made

/-- Old blocks but those of S are as they were. -/
structure Kept (S : Nat → Prop) (w w' : World) : Prop where
  os : w'.os = w.os
  tape : w'.tape = w.tape
  output : w'.output = w.output
  size : w.heap.size ≤ w'.heap.size
  block : ∀ k, k < w.heap.size → ¬ S k → w'.heap[k]? = w.heap[k]?
theorem Kept.refl (S : Nat → Prop) (w : World) : Kept S w w := ⟨rfl, rfl, rfl, Nat.le_refl _, fun _ _ _ => rfl⟩
theorem Kept.trans {S : Nat → Prop} {a b c : World} (h : Kept S a b) (j : Kept S b c) : Kept S a c :=
  ⟨j.os.trans h.os, j.tape.trans h.tape, j.output.trans h.output, Nat.le_trans h.size j.size, fun k hk hs => (j.block k (Nat.lt_of_lt_of_le hk h.size) hs).trans (h.block k hk hs)⟩
theorem Kept.mono {S S' : Nat → Prop} {a b : World} (h : Kept S a b) (hs : ∀ k, k < a.heap.size → S k → S' k) : Kept S' a b :=
  ⟨h.os, h.tape, h.output, h.size, fun k hk hn => h.block k hk (fun q => hn (hs k hk q))⟩
theorem Kept.of_below {a b : World} (h : Below a.heap.size a b) (S : Nat → Prop) : Kept S a b := ⟨h.os, h.tape, h.output, h.size, fun k hk _ => h.block k hk⟩
theorem Kept.below {S : Nat → Prop} {a b : World} {B : Nat} (h : Kept S a b) (hB : B ≤ a.heap.size) (hs : ∀ k, S k → B ≤ k) : Below B a b :=
  ⟨h.os, h.tape, h.output, h.size, fun k hk => h.block k (by omega) (fun q => by have := hs k q; omega)⟩
theorem Kept.of_grown {a b : World} {row : Option Nat} (h : a.grownBy b row) : Kept (fun k => row = some k) a b :=
  ⟨h.os, h.tape, h.output, h.size, fun k hk hn => h.block k hk (fun q => hn q.symm)⟩
theorem Kept.setCell {S : Nat → Prop} {a b : World} (h : Kept S a b) {p : Addr} (hp : p.block < a.heap.size → S p.block) (u : Value) : Kept S a (b.setCell p u) :=
  ⟨h.os, h.tape, h.output, by simpa [World.setCell] using h.size, fun k hk hn => (Below.heap_setCell b p u k (fun q => hn (q ▸ hp (q ▸ hk)))).trans (h.block k hk hn)⟩
theorem Kept.alloc {S : Nat → Prop} {a b : World} (h : Kept S a b) (o : Obj) : Kept S a (b.alloc o) :=
  ⟨h.os, h.tape, h.output, Nat.le_trans h.size (by simp), fun k hk hn => (Below.heap_alloc b o k (Nat.lt_of_lt_of_le hk h.size)).trans (h.block k hk hn)⟩
theorem Kept.drewN {S : Nat → Prop} {a b : World} (h : Kept S a b) (n : Nat) : Kept S a (b.drewN n) := ⟨h.os, h.tape, h.output, h.size, h.block⟩

theorem ret_int' {a b : Int} (h : a = b) : Ending.returned (.int .i64 a) = .returned (.int .i64 b) := by rw [h]
theorem ret_bool' {a b : Bool} (h : a = b) : Ending.returned (.bool a) = .returned (.bool b) := by rw [h]
theorem below_drewN {B : Nat} {a w : World} (h : Below B a w) (n : Nat) : Below B a (w.drewN n) := ⟨h.os, h.tape, h.output, h.size, h.block⟩
theorem drawn2 (w : World) (q n : Nat) : ∃ q', (w.drewN q).drewN n = w.drewN q' := ⟨_, World.drewN_drewN _ _ _⟩
theorem isEmpty_size (v : ByteArray) : v.toList.isEmpty = decide (v.size = 0) := by
  rw [ByteArray.toList_eq, Bool.eq_iff_iff]
  obtain ⟨⟨x⟩⟩ := v
  simp [ByteArray.size]
/-- A quiet call inside a region that draws: behind draws of the round's own, or not. -/
theorem quiet_add {P : Program} {f : FuncId} {args : Array Value} {w : World} {a n : Nat} {v : Value}
    (h : Calls P f args (w.drewN (a + n)) fun e w' => e = .returned v ∧ ∃ m, w' = (w.drewN (a + n)).drewN m) :
    Calls P f args (w.drewN (a + n)) fun e w'' => e = .returned v ∧ ∃ m, w'' = w.drewN (a + m) :=
  h.mono fun _ _ ⟨he, m, hm⟩ => ⟨he, n + m, by rw [hm, World.drewN_drewN, Nat.add_assoc]⟩
theorem quiet_one {P : Program} {f : FuncId} {args : Array Value} {w : World} {n : Nat} {v : Value}
    (h : Calls P f args (w.drewN n) fun e w' => e = .returned v ∧ ∃ m, w' = (w.drewN n).drewN m) :
    Calls P f args (w.drewN n) fun e w'' => e = .returned v ∧ ∃ m, w'' = w.drewN m :=
  h.mono fun _ _ ⟨he, m, hm⟩ => ⟨he, n + m, by rw [hm, World.drewN_drewN]⟩
end Go.Proofs.Ytmfidhlhcochoaa
