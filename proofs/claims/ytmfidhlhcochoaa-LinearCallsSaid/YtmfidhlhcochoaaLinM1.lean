/- Histories in plain lists: which may be, what breaks an order, the search. No program in sight. Conditions: none.
The text of a ledger's cells: it tells the cells. Plain bytes. Conditions: slots below 1024, values of at most 64 bytes.
Calls of a history: plain data, '==' of two calls. Conditions: none.
Precedes, may, missing: what they answer. Conditions: Go lengths.
missing, breaks: what they answer. Conditions: Go lengths.
Maps keyed by a struct, read as association lists: look-up, store; over any program. Conditions: what the key's type says (KeyT).
The keys of linear's maps. Conditions: none.
A set of places as a number. Conditions: at most eight places.
Orders of a history in plain lists: what holds, where it breaks. Conditions: none.
The reference's search and the least completion are one. Plain lists. Conditions: a history that may be.
Order: what a sequence of entries says of a history, in plain lists. Conditions: none.
Witnesses of a history as lists of calls: the least completion is there just if there is one; beginnings, slots. Plain lists. Conditions: a history that may be. -/
import Derived.Test.YtmfidhlhcochoaaCells2
import Derived.Test.YtmfidhlhcochoaaEq
import Derived.Test.YtmfidhlhcochoaaApp
import Derived.Deep.QuietTactic
import Derived.BigQuiet
import Derived.Deep.LoopGhost
import Derived.Test.YtmfidhlhcochoaaOpCheck
import Derived.Test.YtmfidhlhcochoaaOpen3
import Derived.StillTailTactics
import Derived.Test.YtmfidhlhcochoaaMem
import Derived.MapKept
import Derived.RangeFuncRecord
import Derived.Maps.OwnOps
import Derived.Maps.OwnSet
import Derived.KernelRfl
import Derived.Laws.Entries
import Derived.RowKit
namespace Go.Proofs.Ytmfidhlhcochoaa
set_option linter.unusedVariables false
set_option linter.unusedSimpArgs false

structure Call where
  client : Int
  number : Int
  op : Op
  beg : Int
  fin : Int
  res : Res
deriving DecidableEq
def Call.cells (x : Call) : List Value := [.int .i64 x.client, .int .i64 x.number, .int .i64 x.op.kind, .int .i64 x.op.slot, .string x.op.value, .int .i64 x.beg, .int .i64 x.fin, .int .i64 x.res.code, .int .i64 x.res.slot, .string x.res.value]
/-- May a call be asked? -/
def mayC (client number : Int) (o : Op) : Bool := decide (0 ≤ client) && decide (client < 16) && decide (1 ≤ number) && decide (checkOp o = 0)
/-- A call that may stand in a history, whatever the others are. -/
def goodC (x : Call) : Bool := mayC x.client x.number x.op && decide (0 ≤ x.beg) && (if x.fin = -1 then decide (x.res = zres) else decide (x.beg < x.fin))
def sameKey (x y : Call) : Bool := decide (x.client = y.client) && decide (x.number = y.number)
/-- The first k calls may be a history. -/
def goodUpto (l : List Call) (k : Nat) : Prop := ∀ i (h : i < l.length), i < k → goodC l[i] = true ∧ ∀ j (hj : j < i), sameKey l[j] l[i] = false
def GoodL (l : List Call) : Prop := ∀ i (h : i < l.length), goodC l[i] = true ∧ ∀ j (hj : j < i), sameKey l[j] l[i] = false
instance (l : List Call) : Decidable (GoodL l) := by unfold GoodL; infer_instance
def checkL (l : List Call) : Int := if GoodL l then 0 else 180
def precedes (a b : Call) : Bool := decide (0 ≤ a.fin) && decide (a.fin < b.beg)
/-- A call that stands not, other than number i, and precedes number i. -/
def aheadAt (l : List Call) (S : List Bool) (i k : Nat) : Bool := !(S.getD k false) && !(k == i) && (match l[k]?, l[i]? with | some a, some b => precedes a b | _, _ => false)
def aheadOf (l : List Call) (S : List Bool) (i : Nat) : Bool := (List.range l.length).any (aheadAt l S i)
def breaksL (l : List Call) (S : List Bool) (i : Nat) (r : Res) : Bool := aheadOf l S i || (match l[i]? with | some x => decide (0 ≤ x.fin) && !(decide (r = x.res)) | none => false)
def missAt (l : List Call) (S : List Bool) (k : Nat) : Bool := (match l[k]? with | some x => decide (0 ≤ x.fin) | none => false) && !(S.getD k false)
def missingL (l : List Call) (S : List Bool) : Bool := (List.range l.length).any (missAt l S)
theorem any_range {p : Nat → Bool} {n k : Nat} (h : k < n) (hk : p k = true) : (List.range n).any p = true := List.any_eq_true.2 ⟨k, List.mem_range.2 h, hk⟩
theorem any_range_none {p : Nat → Bool} {n : Nat} (h : ∀ j, j < n → p j = false) : (List.range n).any p = false := by
  rw [List.any_eq_false]
  intro x hx
  simp [h x (List.mem_range.1 hx)]

/-- The first of some numbers from which it goes on; the number ahead of what goes on. -/
def tryL (g : Nat → Option (List Nat)) : List Nat → Option (List Nat)
  | [] => none
  | i :: is => match g i with
    | some ks => some (i :: ks)
    | none => tryL g is
/-- The least completion of an order behind which S stands and the cells are cs. -/
def comp : Nat → List Call → List Bool → List Cell → Option (List Nat)
  | 0, _, _, _ => none
  | f + 1, l, S, cs => if missingL l S = true then tryL (fun i => match S[i]?, l[i]? with
      | some false, some x => if breaksL l S i (would cs x.op) = true then none else comp f l (S.set i true) (after cs x.op)
      | _, _ => none) (List.range l.length) else some []
def falses (S : List Bool) : Nat := S.count false
theorem falses_set {S : List Bool} {i : Nat} (h : S[i]? = some false) : falses (S.set i true) + 1 = falses S := by
  unfold falses
  have hi : i < S.length := (List.getElem?_eq_some_iff.1 h).1
  have hv : S[i] = false := (List.getElem?_eq_some_iff.1 h).2
  have h1 := List.count_set (a := true) (b := false) (l := S) (i := i) hi
  have hp : 0 < S.count false := List.count_pos_iff.2 (hv ▸ List.getElem_mem hi)
  simp [hv] at h1
  omega
theorem tryL_congr {g g' : Nat → Option (List Nat)} {is : List Nat} (h : ∀ i ∈ is, g i = g' i) : tryL g is = tryL g' is := by
  induction is with
  | nil => rfl
  | cons i is ih =>
    simp only [tryL]
    rw [h i (by simp), ih (fun j hj => h j (by simp [hj]))]
/-- Fuel beyond what is needed changes nothing. -/
theorem comp_fuel (l : List Call) : ∀ (f g : Nat) (S : List Bool) (cs : List Cell), falses S < f → falses S < g → comp f l S cs = comp g l S cs := by
  intro f
  induction f with
  | zero => intro g S cs h; omega
  | succ f ih =>
    intro g S cs hf hg
    cases g with
    | zero => omega
    | succ g =>
      simp only [comp]
      split
      · refine tryL_congr fun i _ => ?_
        split
        · rename_i h1 h2
          split
          · rfl
          · have := falses_set h1
            exact ih g _ _ (by omega) (by omega)
        · rfl
      · rfl
theorem tryL_append (g : Nat → Option (List Nat)) (a b : List Nat) (h : tryL g a = none) : tryL g (a ++ b) = tryL g b := by
  induction a with
  | nil => rfl
  | cons i is ih =>
    simp only [tryL] at h
    simp only [List.cons_append, tryL]
    cases hg : g i with
    | some ks => rw [hg] at h; cases h
    | none => rw [hg] at h; exact ih h
def allFree (l : List Call) : List Bool := List.replicate l.length false
theorem falses_free (l : List Call) : falses (allFree l) = l.length := by simp [falses, allFree]
def best (l : List Call) : Option (List Nat) := comp (l.length + 1) l (allFree l) []
end Go.Proofs.Ytmfidhlhcochoaa

namespace Go.Proofs.Ytmfidhlhcochoaa
set_option linter.unusedVariables false
set_option linter.unusedSimpArgs false

def bytesL (s : ByteArray) : List UInt8 := s.data.toList
theorem bytesL_append (a b : ByteArray) : bytesL (a ++ b) = bytesL a ++ bytesL b := by simp [bytesL]
theorem bytesL_size (a : ByteArray) : (bytesL a).length = a.size := by
  show a.data.toList.length = a.data.size
  exact Array.length_toList
theorem bytesL_inj {a b : ByteArray} (h : bytesL a = bytesL b) : a = b := by
  obtain ⟨⟨x⟩⟩ := a
  obtain ⟨⟨y⟩⟩ := b
  simp [bytesL] at h
  rw [h]
/-- One cell's text. -/
def textOf (c : Cell) : ByteArray := Utf8.encode c.slot ++ Utf8.encode (c.value.size : Int) ++ c.value
def textC (cs : List Cell) : ByteArray := cs.foldl (fun s c => s ++ textOf c) ⟨#[]⟩
theorem foldl_text (cs : List Cell) (s : ByteArray) : bytesL (cs.foldl (fun s c => s ++ textOf c) s) = bytesL s ++ cs.flatMap fun c => bytesL (textOf c) := by
  induction cs generalizing s with
  | nil => simp
  | cons c cs ih => rw [List.foldl_cons, ih, bytesL_append, List.flatMap_cons, List.append_assoc]
theorem bytesL_text (cs : List Cell) : bytesL (textC cs) = cs.flatMap fun c => bytesL (textOf c) := by
  unfold textC
  rw [foldl_text]
  simp [bytesL]
theorem textC_snoc (cs : List Cell) (c : Cell) : textC (cs ++ [c]) = textC cs ++ textOf c := by simp [textC]
theorem enc_low {n : Int} (h0 : 0 ≤ n) (h1 : n < 128) : bytesL (Utf8.encode n) = [UInt8.ofNat n.toNat] := by
  have hv : Utf8.valid n = true := by simp [Utf8.valid]; omega
  have hlt : n.toNat < 128 := by omega
  simp [Utf8.encode, hv, hlt, bytesL]
theorem enc_mid {n : Int} (h0 : 128 ≤ n) (h1 : n < 2048) : bytesL (Utf8.encode n) = [UInt8.ofNat (192 + n.toNat / 64), UInt8.ofNat (128 + n.toNat % 64)] := by
  have hv : Utf8.valid n = true := by simp [Utf8.valid]; omega
  have hlt : ¬ n.toNat < 128 := by omega
  have hlt2 : n.toNat < 2048 := by omega
  simp [Utf8.encode, hv, hlt, hlt2, bytesL]
theorem byte_inj {a b : Nat} (ha : a < 256) (hb : b < 256) (h : UInt8.ofNat a = UInt8.ofNat b) : a = b := by
  have := congrArg UInt8.toNat h
  simp only [UInt8.toNat_ofNat'] at this
  omega
/-- Numbers below 2048 are told by what begins with their text. -/
theorem enc_inj {m n : Int} {x y : List UInt8} (hm : 0 ≤ m) (hm2 : m < 2048) (hn : 0 ≤ n) (hn2 : n < 2048) (h : bytesL (Utf8.encode m) ++ x = bytesL (Utf8.encode n) ++ y) : m = n ∧ x = y := by
  by_cases h1 : m < 128 <;> by_cases h2 : n < 128
  · rw [enc_low hm h1, enc_low hn h2] at h
    simp only [List.cons_append, List.nil_append, List.cons.injEq] at h
    have := byte_inj (by omega) (by omega) h.1
    exact ⟨by omega, h.2⟩
  · rw [enc_low hm h1, enc_mid (by omega) hn2] at h
    simp only [List.cons_append, List.nil_append, List.cons.injEq] at h
    have := byte_inj (by omega) (by omega) h.1
    omega
  · rw [enc_mid (by omega) hm2, enc_low hn h2] at h
    simp only [List.cons_append, List.nil_append, List.cons.injEq] at h
    have := byte_inj (by omega) (by omega) h.1
    omega
  · rw [enc_mid (by omega) hm2, enc_mid (by omega) hn2] at h
    simp only [List.cons_append, List.nil_append, List.cons.injEq] at h
    have h3 := byte_inj (by omega) (by omega) h.1
    have h4 := byte_inj (by omega) (by omega) h.2.1
    exact ⟨by omega, h.2.2⟩
theorem enc_size {n : Int} (h0 : 0 ≤ n) (h1 : n < 2048) : (Utf8.encode n).size ≤ 2 ∧ 0 < (Utf8.encode n).size := by
  rw [← bytesL_size]
  by_cases h : n < 128
  · rw [enc_low h0 h]; simp
  · rw [enc_mid (by omega) h1]; simp
theorem text_cons (c : Cell) (cs : List Cell) : bytesL (textC (c :: cs)) = bytesL (Utf8.encode c.slot) ++ (bytesL (Utf8.encode (c.value.size : Int)) ++ (bytesL c.value ++ bytesL (textC cs))) := by
  rw [bytesL_text, bytesL_text, List.flatMap_cons, textOf, bytesL_append, bytesL_append]
  simp only [List.append_assoc]
theorem textC_inj : ∀ {cs ds : List Cell}, (∀ c ∈ cs, Good c) → (∀ c ∈ ds, Good c) → textC cs = textC ds → cs = ds
  | [], [], _, _, _ => rfl
  | [], d :: ds, _, hd, h => by
    have h' := congrArg (fun s => (bytesL s).length) h
    simp only [text_cons, List.length_append] at h'
    rw [show bytesL (textC []) = [] from rfl] at h'
    obtain ⟨h0, h1, _⟩ := hd d (by simp)
    have h2 := (enc_size h0 (by omega)).2
    rw [← bytesL_size] at h2
    simp only [List.length_nil] at h'
    omega
  | c :: cs, [], hc, _, h => by
    have h' := congrArg (fun s => (bytesL s).length) h
    simp only [text_cons, List.length_append] at h'
    rw [show bytesL (textC []) = [] from rfl] at h'
    obtain ⟨h0, h1, _⟩ := hc c (by simp)
    have h2 := (enc_size h0 (by omega)).2
    rw [← bytesL_size] at h2
    simp only [List.length_nil] at h'
    omega
  | c :: cs, d :: ds, hc, hd, h => by
    have h' := congrArg bytesL h
    rw [text_cons, text_cons] at h'
    obtain ⟨c0, c1, c2⟩ := hc c (by simp)
    obtain ⟨d0, d1, d2⟩ := hd d (by simp)
    obtain ⟨e1, h'⟩ := enc_inj c0 (by omega) d0 (by omega) h'
    obtain ⟨e2, h'⟩ := enc_inj (by omega) (by omega) (by omega) (by omega) h'
    obtain ⟨e3, h'⟩ := List.append_inj h' (by rw [bytesL_size, bytesL_size]; omega)
    have e4 := textC_inj (fun x hx => hc x (by simp [hx])) (fun x hx => hd x (by simp [hx])) (bytesL_inj h')
    obtain ⟨cs1, cv⟩ := c
    obtain ⟨ds1, dv⟩ := d
    simp only at e1 e3
    rw [e1, bytesL_inj e3, e4]
theorem textOf_size {c : Cell} (h : Good c) : (textOf c).size ≤ 68 := by
  obtain ⟨h0, h1, h2⟩ := h
  have a := (enc_size h0 (by omega)).1
  have b := (enc_size (n := (c.value.size : Int)) (by omega) (by omega)).1
  rw [← bytesL_size, textOf, bytesL_append, bytesL_append, List.length_append, List.length_append, bytesL_size, bytesL_size, bytesL_size]
  omega
theorem textC_size : ∀ {cs : List Cell}, (∀ c ∈ cs, Good c) → (textC cs).size ≤ 68 * cs.length
  | [], _ => Nat.le_refl _
  | c :: cs, h => by
    have a := textOf_size (h c (by simp))
    have b := textC_size (cs := cs) fun x hx => h x (by simp [hx])
    rw [← bytesL_size, bytesL_text, List.flatMap_cons, List.length_append, ← bytesL_text, bytesL_size, bytesL_size]
    simp only [List.length_cons]
    omega
end Go.Proofs.Ytmfidhlhcochoaa

namespace Go.Proofs.Ytmfidhlhcochoaa
open Go.RowKit
set_option linter.unusedVariables false
set_option linter.unusedSimpArgs false

theorem encCall : Enc Call.cells 10 := ⟨fun _ => rfl, fun x u hu => by simp [Call.cells] at hu; rcases hu with rfl | rfl | rfl | rfl | rfl | rfl | rfl | rfl | rfl | rfl <;> rfl⟩
theorem rowCall : RowT Try.prog 22 45 10 96 := RowT.of (z := .agg #[.int .i64 0, .int .i64 0, .int .i64 0, .int .i64 0, .string ⟨#[]⟩, .int .i64 0, .int .i64 0, .int .i64 0, .int .i64 0, .string ⟨#[]⟩]) Try.underlying22 (by kernel_rfl) rfl (by omega)
def Call.v (x : Call) : Value := .agg #[.int .i64 x.client, .int .i64 x.number, .int .i64 x.op.kind, .int .i64 x.op.slot, .string x.op.value, .int .i64 x.beg, .int .i64 x.fin, .int .i64 x.res.code, .int .i64 x.res.slot, .string x.res.value]
theorem equalIn_call (d : Nat) (w : World) (x y : Call) : (Op.equalIn (d + 3) 45 (.agg #[.int .i64 x.client, .int .i64 x.number, .int .i64 x.op.kind, .int .i64 x.op.slot, .string x.op.value, .int .i64 x.beg, .int .i64 x.fin, .int .i64 x.res.code, .int .i64 x.res.slot, .string x.res.value]) (.agg #[.int .i64 y.client, .int .i64 y.number, .int .i64 y.op.kind, .int .i64 y.op.slot, .string y.op.value, .int .i64 y.beg, .int .i64 y.fin, .int .i64 y.res.code, .int .i64 y.res.slot, .string y.res.value])).run Try.prog w = .ok (decide (x = y)) w := by
  have e : decide (x = y) = (x.client == y.client && (x.number == y.number && (decide (x.op = y.op) && (x.beg == y.beg && (x.fin == y.fin && decide (x.res = y.res)))))) := by
    rw [Bool.eq_iff_iff]
    cases x; cases y; simp
  rw [e]
  refine eqA_of Try.underlying45 (by kernel_rfl) ?_
  refine eqf_cons (by rfl) (by go_simp; rfl) (by go_simp; rfl) (by go_simp) ?_
  refine eqf_cons (by rfl) (by go_simp; rfl) (by go_simp; rfl) (by go_simp) ?_
  refine eqf_cons (by rfl) (by go_simp) (by go_simp) (equalIn_op d w x.op y.op) ?_
  refine eqf_cons (by rfl) (by go_simp; rfl) (by go_simp; rfl) (by go_simp) ?_
  refine eqf_cons (by rfl) (by go_simp; rfl) (by go_simp; rfl) (by go_simp) ?_
  exact eqf_last (by rfl) (by go_simp) (by go_simp) (equalIn_res d w x.res y.res)
theorem guard_call : Try.prog.eqGuardType Try.prog.depth 45 = false := by kernel_rfl
theorem neq_call (x y : Call) (w : World) : (binOp .neq 45 (.agg #[.int .i64 x.client, .int .i64 x.number, .int .i64 x.op.kind, .int .i64 x.op.slot, .string x.op.value, .int .i64 x.beg, .int .i64 x.fin, .int .i64 x.res.code, .int .i64 x.res.slot, .string x.res.value]) (.agg #[.int .i64 y.client, .int .i64 y.number, .int .i64 y.op.kind, .int .i64 y.op.slot, .string y.op.value, .int .i64 y.beg, .int .i64 y.fin, .int .i64 y.res.code, .int .i64 y.res.slot, .string y.res.value])).run Try.prog w = .ok (.bool (!decide (x = y))) w := by
  rw [run_neq_struct, equalIn_call 9997]; rfl
structure CallAt (w : World) (p : Addr) (r : Call) : Prop where
  c0 : w.cell? p = some (.int .i64 r.client)
  c1 : w.cell? ⟨p.block, p.off + 1, none⟩ = some (.int .i64 r.number)
  c2 : w.cell? ⟨p.block, p.off + 2, none⟩ = some (.int .i64 r.op.kind)
  c3 : w.cell? ⟨p.block, p.off + 3, none⟩ = some (.int .i64 r.op.slot)
  c4 : w.cell? ⟨p.block, p.off + 4, none⟩ = some (.string r.op.value)
  c5 : w.cell? ⟨p.block, p.off + 5, none⟩ = some (.int .i64 r.beg)
  c6 : w.cell? ⟨p.block, p.off + 6, none⟩ = some (.int .i64 r.fin)
  c7 : w.cell? ⟨p.block, p.off + 7, none⟩ = some (.int .i64 r.res.code)
  c8 : w.cell? ⟨p.block, p.off + 8, none⟩ = some (.int .i64 r.res.slot)
  c9 : w.cell? ⟨p.block, p.off + 9, none⟩ = some (.string r.res.value)
theorem At.call {w : World} {p : Addr} {r : Call} (h : At w p r.cells) : CallAt w p r :=
  ⟨h 0 _ rfl, h 1 _ rfl, h 2 _ rfl, h 3 _ rfl, h 4 _ rfl, h 5 _ rfl, h 6 _ rfl, h 7 _ rfl, h 8 _ rfl, h 9 _ rfl⟩
end Go.Proofs.Ytmfidhlhcochoaa

namespace Go.Proofs.Ytmfidhlhcochoaa
open Go.RowKit
set_option linter.unusedVariables false
set_option linter.unusedSimpArgs false

theorem precedes_prog (x y : Call) (w : World) :
    Calls Try.prog 78 #[.agg #[.int .i64 x.client, .int .i64 x.number, .int .i64 x.op.kind, .int .i64 x.op.slot, .string x.op.value, .int .i64 x.beg, .int .i64 x.fin, .int .i64 x.res.code, .int .i64 x.res.slot, .string x.res.value], .agg #[.int .i64 y.client, .int .i64 y.number, .int .i64 y.op.kind, .int .i64 y.op.slot, .string y.op.value, .int .i64 y.beg, .int .i64 y.fin, .int .i64 y.res.code, .int .i64 y.res.slot, .string y.res.value]] w
      fun e w' => e = .returned (.bool (precedes x y)) ∧ Below w.heap.size w w' := by
  by_cases h1 : 0 ≤ x.fin
  · by_cases h2 : x.fin < y.beg
    · have hp : precedes x y = true := by simp [precedes, h1, h2]
      rw [hp]
      have g1 : decide (x.fin < y.beg) = true := decide_eq_true h2
      go_enter Try.func78, Try.ntmps78
      go_wp2
      go_ret
      exact ⟨rfl, ((Below.refl _ _).alloc (Nat.le_refl _) _).alloc (by simp) _⟩
    · have hp : precedes x y = false := by simp [precedes, h2]
      rw [hp]
      have g1 : decide (x.fin < y.beg) = false := decide_eq_false h2
      go_enter Try.func78, Try.ntmps78
      go_wp2
      go_ret
      exact ⟨rfl, ((Below.refl _ _).alloc (Nat.le_refl _) _).alloc (by simp) _⟩
  · have hp : precedes x y = false := by simp [precedes, h1]
    rw [hp]
    go_enter Try.func78, Try.ntmps78
    go_wp2
    go_ret
    exact ⟨rfl, ((Below.refl _ _).alloc (Nat.le_refl _) _).alloc (by simp) _⟩
theorem precedes_ref (x y : Call) (w : World) :
    Calls Try.prog 100 #[.agg #[.int .i64 x.client, .int .i64 x.number, .int .i64 x.op.kind, .int .i64 x.op.slot, .string x.op.value, .int .i64 x.beg, .int .i64 x.fin, .int .i64 x.res.code, .int .i64 x.res.slot, .string x.res.value], .agg #[.int .i64 y.client, .int .i64 y.number, .int .i64 y.op.kind, .int .i64 y.op.slot, .string y.op.value, .int .i64 y.beg, .int .i64 y.fin, .int .i64 y.res.code, .int .i64 y.res.slot, .string y.res.value]] w
      fun e w' => e = .returned (.bool (precedes x y)) ∧ Below w.heap.size w w' := by
  by_cases h1 : 0 ≤ x.fin
  · by_cases h2 : x.fin < y.beg
    · have hp : precedes x y = true := by simp [precedes, h1, h2]
      rw [hp]
      have g1 : decide (x.fin < y.beg) = true := decide_eq_true h2
      go_enter Try.func100, Try.ntmps100
      go_wp2
      go_ret
      exact ⟨rfl, ((Below.refl _ _).alloc (Nat.le_refl _) _).alloc (by simp) _⟩
    · have hp : precedes x y = false := by simp [precedes, h2]
      rw [hp]
      have g1 : decide (x.fin < y.beg) = false := decide_eq_false h2
      go_enter Try.func100, Try.ntmps100
      go_wp2
      go_ret
      exact ⟨rfl, ((Below.refl _ _).alloc (Nat.le_refl _) _).alloc (by simp) _⟩
  · have hp : precedes x y = false := by simp [precedes, h1]
    rw [hp]
    go_enter Try.func100, Try.ntmps100
    go_wp2
    go_ret
    exact ⟨rfl, ((Below.refl _ _).alloc (Nat.le_refl _) _).alloc (by simp) _⟩

theorem may_prog (c n : Int) (o : Op) (hv : o.value.size ≤ 9223372036854775807) (w : World) :
    Calls Try.prog 50 #[.int .i64 c, .int .i64 n, .agg #[.int .i64 o.kind, .int .i64 o.slot, .string o.value]] w fun e w' => e = .returned (.bool (mayC c n o)) ∧ Below w.heap.size w w' := by
  by_cases h : 0 ≤ c ∧ c < 16 ∧ 1 ≤ n
  · obtain ⟨h1, h2, h3⟩ := h
    have hm : mayC c n o = decide (checkOp o = 0) := by simp [mayC, h1, h2, h3]
    rw [hm]
    obtain ⟨r, hr⟩ : ∃ r, r = decide (checkOp o = 0) := ⟨_, rfl⟩
    rw [← hr]
    have HR := Lib.hid hr
    clear hr hm
    go_enter Try.func50, Try.ntmps50
    go_wp2_with fail
    have hb0 : Below w.heap.size w (w.alloc (.cells #[.int .i64 o.kind, .int .i64 o.slot, .string o.value] 38)) := (Below.refl _ _).alloc (Nat.le_refl _) _
    refine (check_prog o hv _).mono ?_
    rintro e w1 ⟨rfl, hb1⟩
    have hb := hb0.trans (hb1.mono hb0.size)
    generalize checkOp o = q at *
    by_cases hq : q = 0
    · subst hq
      obtain rfl : r = true := HR.out
      dsimp only
      go_wp2_with fail
      go_ret
      exact ⟨rfl, hb⟩
    · have hq' : (q == 0) = false := by simpa using hq
      obtain rfl : r = false := HR.out.trans (decide_eq_false hq)
      dsimp only
      go_wp2_with fail
      go_ret
      exact ⟨rfl, hb⟩
  · have hm : mayC c n o = false := by
      simp only [mayC, Bool.and_eq_false_iff, decide_eq_false_iff_not]
      omega
    rw [hm]
    by_cases h1 : 0 ≤ c
    · by_cases h2 : c < 16
      · have h3 : ¬ 1 ≤ n := fun h3 => h ⟨h1, h2, h3⟩
        go_enter Try.func50, Try.ntmps50
        go_wp2
        go_ret
        exact ⟨rfl, (Below.refl _ _).alloc (Nat.le_refl _) _⟩
      · go_enter Try.func50, Try.ntmps50
        go_wp2
        go_ret
        exact ⟨rfl, (Below.refl _ _).alloc (Nat.le_refl _) _⟩
    · go_enter Try.func50, Try.ntmps50
      go_wp2
      go_ret
      exact ⟨rfl, (Below.refl _ _).alloc (Nat.le_refl _) _⟩
end Go.Proofs.Ytmfidhlhcochoaa

namespace Go.Proofs.Ytmfidhlhcochoaa
open Go.RowKit
set_option linter.unusedVariables false
set_option linter.unusedSimpArgs false

def boolC (b : Bool) : List Value := [.bool b]
theorem encB : Enc boolC 1 := ⟨fun _ => rfl, fun x u hu => by simp [boolC] at hu; subst hu; rfl⟩
theorem At.one {w : World} {p : Addr} {a : Value} (h : At w p [a]) : w.cell? p = some a := h 0 _ rfl
theorem below_drewL {B : Nat} {a w : World} (h : Below B a w) : Below B a w.drew := ⟨h.os, h.tape, h.output, h.size, h.block⟩
theorem missing_of {l : List Call} {S : List Bool} {k : Nat} (h : k < l.length) (hk : missAt l S k = true) : missingL l S = true := any_range h hk
theorem missing_none {l : List Call} {S : List Bool} (h : ∀ j, j < l.length → missAt l S j = false) : missingL l S = false := any_range_none h

set_option maxHeartbeats 2000000 in
theorem missing_prog (A B : Option Addr) (c d n m : Nat) (l : List Call) (S : List Bool) (hn : n = l.length) (hm : m = l.length) (hS : S.length = l.length) (w : World) (hl : l.length ≤ 9223372036854775806) (ha : Rd Call.cells 10 w w.heap.size A l) (hb : Rd boolC 1 w w.heap.size B S) :
    Calls Try.prog 41 #[.slice A n c, .slice B m d] w fun e w' => e = .returned (.bool (missingL l S)) ∧ Below w.heap.size w w' := by
  subst hn hm
  obtain ⟨r, hr⟩ : ∃ r, r = missingL l S := ⟨_, rfl⟩
  rw [← hr]
  have HA := Lib.hid ha
  have HB := Lib.hid hb
  have HR := Lib.hid hr
  have HS := Lib.hid hS
  clear ha hb hr hS
  go_enter Try.func41, Try.ntmps41
  go_wp2_with fail
  go_loopw [9] (fun i wr => ∃ k : Nat, k ≤ l.length ∧ i = .int .i64 k ∧ Hid (∀ j, j < k → missAt l S j = false) ∧ Below w.heap.size w wr) (fun i _ => l.length - (intOf i).toNat)
  case atStart => exact ⟨0, by omega, rfl, fun j hj => absurd hj (Nat.not_lt_zero j), Below.refl _ _⟩
  case round =>
    obtain ⟨k, hk, rfl, hno, hbr⟩ := hrel
    by_cases h1 : k < l.length
    · obtain ⟨ad, hA, _, hca⟩ := (HA.out.below hbr).at_ h1
      have h2 : k < S.length := by rw [HS.out]; exact h1
      obtain ⟨bd, hB, hbl, hcb⟩ := (HB.out.below hbr).at_ h2
      have g1 : (k:Int) < (l.length : Int) := by omega
      have i2 : (0:Int) ≤ (k:Int) := by omega
      obtain ⟨c0, c1, c2, c3, c4, c5, c6, c7, c8, c9⟩ := hca.call
      have d0 : wr.cell? (bd.add k) = some (.bool S[k]) := by have := hcb.one; rwa [Nat.mul_one] at this
      have hmk : missAt l S k = (decide (0 ≤ l[k].fin) && !S[k]) := by
        simp [missAt, List.getElem?_eq_getElem h1, List.getElem?_eq_getElem h2]
      have HMK := Lib.hid hmk
      have hsz := hbr.size
      have hbd : bd.block < wr.heap.size := by omega
      have d0' : ∀ o, (wr.alloc o).cell? (bd.add k) = some (.bool S[k]) := fun o => (World.cell?_alloc_lt _ _ _ (by rw [block_add]; exact hbd)).trans d0
      subst hA hB
      clear hca hcb hmk
      generalize l[k] = x at *
      generalize S[k] = b at *
      by_cases hf : 0 ≤ x.fin
      · have hf2 : decide (0 ≤ x.fin) = true := decide_eq_true hf
        cases b
        · obtain rfl : r = true := HR.out.trans (missing_of h1 (by rw [HMK.out, hf2]; rfl))
          go_wp2_with fail
          go_ret
          exact ⟨rfl, hbr.alloc hsz _⟩
        · have hnx : Hid (∀ j, j < k + 1 → missAt l S j = false) := fun j hj => by
            by_cases e : j = k
            · subst e; rw [HMK.out, hf2]; rfl
            · exact hno.out j (by omega)
          go_wp2_with fail
          go_roundw
          case rel => exact ⟨k + 1, by omega, by go_num, hnx, hbr.alloc hsz _⟩
          case measure => simp [intOf]; omega
      · have hf2 : decide (0 ≤ x.fin) = false := decide_eq_false hf
        have hnx : Hid (∀ j, j < k + 1 → missAt l S j = false) := fun j hj => by
          by_cases e : j = k
          · subst e; rw [HMK.out, hf2]; rfl
          · exact hno.out j (by omega)
        go_wp2_with fail
        go_roundw
        case rel => exact ⟨k + 1, by omega, by go_num, hnx, hbr.alloc hsz _⟩
        case measure => simp [intOf]; omega
    · obtain rfl : r = false := HR.out.trans (missing_none fun j hj => hno.out j (by omega))
      have g2 : decide ((k:Int) < (l.length : Int)) = false := decide_eq_false (by omega)
      have g3 : decide (k < l.length) = false := decide_eq_false h1
      go_wp2_with fail
      go_ret
      exact ⟨rfl, hbr⟩

theorem ahead_of {l : List Call} {S : List Bool} {i k : Nat} {r : Res} (h : k < l.length) (hk : aheadAt l S i k = true) : breaksL l S i r = true := by
  unfold breaksL aheadOf
  rw [any_range h hk]
  rfl
theorem ahead_none {l : List Call} {S : List Bool} {i : Nat} {r : Res} (hi : i < l.length) (h : ∀ j, j < l.length → aheadAt l S i j = false) : breaksL l S i r = (decide (0 ≤ l[i].fin) && !(decide (r = l[i].res))) := by
  unfold breaksL aheadOf
  rw [any_range_none h, List.getElem?_eq_getElem hi]
  rfl

set_option maxRecDepth 100000 in
set_option maxHeartbeats 4000000 in
theorem breaks_prog (A B : Option Addr) (c d n m i : Nat) (l : List Call) (S : List Bool) (q : Res) (hn : n = l.length) (hm : m = l.length) (hS : S.length = l.length) (hi : i < l.length) (w : World) (hl : l.length ≤ 9223372036854775806) (ha : Rd Call.cells 10 w w.heap.size A l) (hb : Rd boolC 1 w w.heap.size B S) :
    Calls Try.prog 44 #[.slice A n c, .slice B m d, .int .i64 i, .agg #[.int .i64 q.code, .int .i64 q.slot, .string q.value]] w fun e w' => e = .returned (.bool (breaksL l S i q)) ∧ Below w.heap.size w w' := by
  subst hn hm
  obtain ⟨r, hr⟩ : ∃ r, r = breaksL l S i q := ⟨_, rfl⟩
  rw [← hr]
  have HA := Lib.hid ha
  have HB := Lib.hid hb
  have HR := Lib.hid hr
  have HS := Lib.hid hS
  have HI := Lib.hid hi
  have gi : (i:Int) < (l.length : Int) := by omega
  have gi0 : (0:Int) ≤ (i:Int) := by omega
  clear ha hb hr hS
  go_enter Try.func44, Try.ntmps44
  go_wp2_with fail
  have hw0 : ∃ w0, w0 = w.alloc (.cells #[.int .i64 q.code, .int .i64 q.slot, .string q.value] 40) := ⟨_, rfl⟩
  obtain ⟨w0, hw0⟩ := hw0
  have hb0 : Below w.heap.size w w0 := by rw [hw0]; exact (Below.refl _ _).alloc (Nat.le_refl _) _
  have hq0 : w0.heap[w.heap.size]? = some (.cells #[.int .i64 q.code, .int .i64 q.slot, .string q.value] 40 (0, 0)) := by rw [hw0]; exact heap_alloc_new _ _
  have HA0 := Lib.hid ((HA.out.below hb0).more hb0.size)
  have HB0 := Lib.hid ((HB.out.below hb0).more hb0.size)
  have HBB := Lib.hid hb0
  have HQ0 := Lib.hid hq0
  rw [← hw0]
  clear hw0 hb0 hq0 HA HB
  go_loopw [12] (fun i' wr => ∃ k : Nat, k ≤ l.length ∧ i' = .int .i64 k ∧ Hid (∀ j, j < k → aheadAt l S i j = false) ∧ Hid (Below w0.heap.size w0 wr)) (fun i _ => l.length - (intOf i).toNat)
  case atStart => exact ⟨0, by omega, rfl, fun j hj => absurd hj (Nat.not_lt_zero j), Below.refl _ _⟩
  case round =>
    obtain ⟨k, hk, rfl, hno, hbr⟩ := hrel
    have hbr := hbr.out
    have HBR := Lib.hid hbr
    have hsz := hbr.size
    by_cases h1 : k < l.length
    · have h2 : k < S.length := by rw [HS.out]; exact h1
      obtain ⟨ad, hA, hal, hca⟩ := (HA0.out.below hbr).at_ h1
      obtain ⟨ai, hAi, hail, hci⟩ := (HA0.out.below hbr).at_ HI.out
      obtain ⟨bd, hB, hbl, hcb⟩ := (HB0.out.below hbr).at_ h2
      have g1 : (k:Int) < (l.length : Int) := by omega
      have i2 : (0:Int) ≤ (k:Int) := by omega
      obtain ⟨c0, c1, c2, c3, c4, c5, c6, c7, c8, c9⟩ := hca.call
      obtain ⟨e0, e1, e2, e3, e4, e5, e6, e7, e8, e9⟩ := hci.call
      have d0 : wr.cell? (bd.add k) = some (.bool S[k]) := by have := hcb.one; rwa [Nat.mul_one] at this
      have hmk : aheadAt l S i k = (!S[k] && !(k == i) && precedes l[k] l[i]) := by
        unfold aheadAt
        rw [List.getElem?_eq_getElem h1, List.getElem?_eq_getElem HI.out]
        simp only [List.getD_eq_getElem?_getD, List.getElem?_eq_getElem h2, Option.getD_some]
        rfl
      have HMK := Lib.hid hmk
      have hA2 : some ai = some ad := hAi.symm.trans hA
      injection hA2 with hA2
      subst hA hB hA2
      clear hca hcb hmk hci hAi
      have hnx : aheadAt l S i k = false → Hid (∀ j, j < k + 1 → aheadAt l S i j = false) := fun h j hj => by
        by_cases e : j = k
        · subst e; exact h
        · exact hno.out j (by omega)
      have HNX := Lib.hid hnx
      have HYES : Hid (aheadAt l S i k = true → r = true) := fun h => HR.out.trans (ahead_of h1 h)
      clear hnx hbr
      generalize S[k] = b at *
      generalize l[k] = x at *
      generalize l[i] = y at *
      cases b
      · by_cases hki : k = i
        · have hki1 : decide ((k:Int) = (i:Int)) = true := decide_eq_true (by omega)
          have hki2 : ((k:Int) == (i:Int)) = true := by simp; omega
          have hki3 : ((k:Int) != (i:Int)) = false := by simp; omega
          have HN := Lib.hid (HNX.out (by rw [HMK.out]; simp [hki]))
          clear HNX HYES HMK hki
          go_wp2_with fail
          go_quiet (fail)
          go_wp2_with fail
          go_roundw
          case rel => exact ⟨k + 1, by omega, by go_num, HN.out, below_drewN HBR.out _⟩
          case measure => simp [intOf]; omega
        · have hki1 : decide ((k:Int) = (i:Int)) = false := decide_eq_false (by omega)
          have hki2 : ((k:Int) == (i:Int)) = false := by simp; omega
          have hki3 : ((k:Int) != (i:Int)) = true := by simp; omega
          have hki4 : (k == i) = false := by simpa using hki
          rw [hki4] at HMK
          clear hki hki4
          go_wp2_with fail
          go_still_tail 19, (by kernel_rfl)
          change wpList _ _ _ _ _ wr.drew
          have hbd : Below w0.heap.size w0 wr.drew := below_drewL HBR.out
          have HBD := Lib.hid hbd
          clear hbd HBR
          generalize wr.drew = w2 at *
          go_wp2_with fail
          refine (precedes_prog x y w2).mono ?_
          rintro e w3 ⟨rfl, hb3⟩
          have HB3 := Lib.hid (HBD.out.trans (hb3.mono HBD.out.size))
          clear hb3
          cases hpr : precedes x y
          · have HN := Lib.hid (HNX.out (by rw [HMK.out, hpr]; rfl))
            clear HNX HYES HMK hpr
            dsimp only
            go_wp2_with fail
            go_roundw
            case rel => exact ⟨k + 1, by omega, by go_num, HN.out, HB3.out⟩
            case measure => simp [intOf]; omega
          · obtain rfl : r = true := HYES.out (by rw [HMK.out, hpr]; rfl)
            clear HNX HYES HMK hpr
            dsimp only
            go_wp2_with fail
            go_ret
            exact ⟨rfl, HBB.out.trans (HB3.out.mono HBB.out.size)⟩
      · have HN := Lib.hid (HNX.out (by rw [HMK.out]; rfl))
        clear HNX HYES HMK
        go_wp2_with fail
        go_quiet (fail)
        go_wp2_with fail
        go_roundw
        case rel => exact ⟨k + 1, by omega, by go_num, HN.out, below_drewN HBR.out _⟩
        case measure => simp [intOf]; omega
    · have hra : r = (decide (0 ≤ l[i].fin) && !(decide (q = l[i].res))) := HR.out.trans (ahead_none HI.out fun j hj => hno.out j (by omega))
      have HRA := Lib.hid hra
      obtain ⟨ai, hAi, hail, hci⟩ := (HA0.out.below hbr).at_ HI.out
      obtain ⟨e0, e1, e2, e3, e4, e5, e6, e7, e8, e9⟩ := hci.call
      have hrow := (hbr.block _ (Array.getElem?_eq_some_iff.1 HQ0.out).1).trans HQ0.out
      have q0 : wr.cell? ⟨w.heap.size, 0, none⟩ = some (.int .i64 q.code) := cell_of_row _ _ 0 _ _ _ hrow
      have q1 : wr.cell? ⟨w.heap.size, 1, none⟩ = some (.int .i64 q.slot) := cell_of_row _ _ 1 _ _ _ hrow
      have q2 : wr.cell? ⟨w.heap.size, 2, none⟩ = some (.string q.value) := cell_of_row _ _ 2 _ _ _ hrow
      have g2 : decide ((k:Int) < (l.length : Int)) = false := decide_eq_false (by omega)
      have g3 : decide (k < l.length) = false := decide_eq_false h1
      have hge := guard_res
      subst hAi
      clear hci hrow hra hbr
      generalize l[i] = y at *
      have he := neq_res q y.res
      have hfinal := HBB.out.trans (HBR.out.mono HBB.out.size)
      by_cases hf : 0 ≤ y.fin
      · have hf2 : decide (0 ≤ y.fin) = true := decide_eq_true hf
        by_cases hqq : q = y.res
        · have hd : decide (q = y.res) = true := decide_eq_true hqq
          rw [hd] at he
          obtain rfl : r = false := HRA.out.trans (by rw [hf2, hd]; rfl)
          clear HRA hqq hd
          go_wp2_with fail
          go_quiet (fail)
          go_wp2_with fail
          go_ret
          exact ⟨rfl, below_drewN hfinal _⟩
        · have hd : decide (q = y.res) = false := decide_eq_false hqq
          rw [hd] at he
          obtain rfl : r = true := HRA.out.trans (by rw [hf2, hd]; rfl)
          clear HRA hqq hd
          go_wp2_with fail
          go_quiet (fail)
          go_wp2_with fail
          go_ret
          exact ⟨rfl, below_drewN hfinal _⟩
      · have hf2 : decide (0 ≤ y.fin) = false := decide_eq_false hf
        obtain rfl : r = false := HRA.out.trans (by rw [hf2]; rfl)
        clear HRA
        go_wp2_with fail
        go_quiet (fail)
        go_wp2_with fail
        go_ret
        exact ⟨rfl, below_drewN hfinal _⟩
end Go.Proofs.Ytmfidhlhcochoaa

namespace Go.Proofs.Ytmfidhlhcochoaa
open Go.RowKit
set_option linter.unusedVariables false
set_option linter.unusedSimpArgs false

section assocK
variable {κ α : Type} [DecidableEq κ]
def lookK (ps : List (κ × α)) (k : κ) : Option α := match ps with
  | [] => none
  | p :: ps => if p.1 = k then some p.2 else lookK ps k
def setK : List (κ × α) → κ → α → List (κ × α)
  | [], k, v => [(k, v)]
  | p :: ps, k, v => if p.1 = k then (k, v) :: ps else p :: setK ps k v
theorem lookK_none {ps : List (κ × α)} {k : κ} : lookK ps k = none ↔ ∀ p ∈ ps, p.1 ≠ k := by
  induction ps with
  | nil => simp [lookK]
  | cons p ps ih =>
    simp only [lookK]
    by_cases h : p.1 = k
    · simp [h]
    · simp [h, ih]
theorem lookK_setK (ps : List (κ × α)) (k : κ) (v : α) (j : κ) : lookK (setK ps k v) j = if k = j then some v else lookK ps j := by
  induction ps with
  | nil => rfl
  | cons p ps ih =>
    simp only [setK]
    by_cases h : p.1 = k
    · rw [if_pos h]
      simp only [lookK]
      by_cases hj : k = j
      · rw [if_pos hj, if_pos hj]
      · rw [if_neg hj, if_neg hj, if_neg (by rw [h]; exact hj)]
    · rw [if_neg h]
      simp only [lookK]
      rw [ih]
      by_cases hp : p.1 = j
      · rw [if_pos hp, if_pos hp, if_neg (fun e => h (hp.trans e.symm))]
      · rw [if_neg hp, if_neg hp]
theorem setK_absent {ps : List (κ × α)} {k : κ} {v : α} (h : ∀ p ∈ ps, p.1 ≠ k) : setK ps k v = ps ++ [(k, v)] := by
  induction ps with
  | nil => rfl
  | cons p ps ih =>
    simp only [setK]
    rw [if_neg (h p (by simp)), ih (fun q hq => h q (by simp [hq]))]
    rfl
end assocK

/-- What a map's look-up asks of its key's type. -/
structure KeyT {κ : Type} [DecidableEq κ] (P : Program) (K : TypeId) (ek : κ → Value) : Prop where
  check : ∀ em k w, (Instr.checkKey em 10000 K (ek k)).run P w = .ok () w
  eq : ∀ k j w, (Op.equal K (ek k) (ek j)).run P w = .ok (decide (k = j)) w
  under : ∃ fs, P.underlying K = some (.struct fs)
  bits : ∀ k, Instr.sameBits 10000 (ek k) (ek k) = true

/-- Block mb is a map that reads as ps. -/
def MapK {κ α : Type} (ek : κ → Value) (ev : α → Value) (w : World) (mb : Nat) (ps : List (κ × α)) : Prop :=
  ∃ (es : Array MapEntry) (clock : Nat), w.heap[mb]? = some (.map es clock) ∧ es.toList.map (fun e => (e.key, e.val)) = ps.map (fun p => (ek p.1, ev p.2))

section
variable {κ α : Type} {ek : κ → Value} {ev : α → Value} {w w' : World} {mb : Nat} {ps : List (κ × α)}
theorem MapK.lt (h : MapK ek ev w mb ps) : mb < w.heap.size := by
  obtain ⟨es, c, hb, _⟩ := h
  exact (Array.getElem?_eq_some_iff.1 hb).1
theorem MapK.same (h : MapK ek ev w mb ps) (hs : w'.heap[mb]? = w.heap[mb]?) : MapK ek ev w' mb ps := by
  obtain ⟨es, c, hb, r⟩ := h
  exact ⟨es, c, hs.trans hb, r⟩
theorem MapK.new (w : World) : MapK ek ev (w.alloc (.map #[] 0)) w.heap.size [] := ⟨#[], 0, World.alloc_heap_new w _, rfl⟩

end
section
variable {κ α : Type} [DecidableEq κ] {ek : κ → Value} {ev : α → Value} {w w' : World} {mb : Nat} {ps : List (κ × α)} {P : Program} {T K E : TypeId}
theorem run_findAsking (hk : KeyT P K ek) (k : κ) (w : World) : ∀ (l : List MapEntry) (ps : List (κ × α)) (i : Nat), l.map (fun e => (e.key, e.val)) = ps.map (fun p => (ek p.1, ev p.2)) →
    (∃ j v, lookK ps k = some v ∧ (ps[j]?).map (·.1) = some k ∧ (Instr.findAsking K (ek k) l i).run P w = .ok (some (i + j, ev v)) w ∧ (∀ u, setK ps k u = ps.set j (k, u))) ∨ (lookK ps k = none ∧ (Instr.findAsking K (ek k) l i).run P w = .ok none w) := by
  intro l
  induction l with
  | nil =>
    intro ps i h
    have : ps = [] := by simpa using h
    subst this
    exact .inr ⟨rfl, rfl⟩
  | cons e l ih =>
    intro ps i h
    cases ps with
    | nil => simp at h
    | cons p ps =>
      simp only [List.map_cons, List.cons.injEq, Prod.mk.injEq] at h
      obtain ⟨⟨hk1, hv⟩, hr⟩ := h
      have heq := hk.eq k p.1 w
      by_cases hp : p.1 = k
      · left
        refine ⟨0, p.2, by simp [lookK, hp], by simp [hp], ?_, fun u => by simp [setK, hp]⟩
        rw [decide_eq_true hp.symm] at heq
        simp [Instr.findAsking, Sem.run_bind, hk1, hv, heq, Result.andThen]
      · have hp' : ¬ k = p.1 := fun e => hp e.symm
        rw [decide_eq_false hp'] at heq
        have hstep : (Instr.findAsking K (ek k) (e :: l) i).run P w = (Instr.findAsking K (ek k) l (i + 1)).run P w := by
          simp [Instr.findAsking, Sem.run_bind, hk1, heq, Result.andThen]
        rw [hstep]
        rcases ih ps (i + 1) hr with ⟨j, v, h1, h2, h3, h4⟩ | ⟨h1, h2⟩
        · left
          refine ⟨j + 1, v, by simp [lookK, hp, h1], by simpa using h2, by rw [h3]; congr 3; omega, fun u => by simp [setK, hp, h4]⟩
        · right
          exact ⟨by simp [lookK, hp, h1], h2⟩
theorem run_findKey (hk : KeyT P K ek) (k : κ) (w : World) (l : List MapEntry) : (Instr.findKey K (ek k) l).run P w = (Instr.findAsking K (ek k) l).run P w := by
  obtain ⟨fs, hu⟩ := hk.under
  unfold Instr.findKey
  simp only [Sem.run_bind, run_underlying hu, Result.andThen_ok]
  cases l with
  | nil => rfl
  | cons e l => simp [Instr.findNow, Instr.sameNow]
theorem MapK.lookup (h : MapK ek ev w mb ps) (hk : KeyT P K ek) (hT : P.underlying T = some (.map K E)) {z : Value} (hz : (zeroValue E).run P w = .ok z w) (k : κ) :
    (Instr.lookup T (.map (some mb)) (ek k) false).run P w = .ok (((lookK ps k).map ev).getD z) w := by
  obtain ⟨es, c, hb, hl⟩ := h
  rcases run_findAsking hk k w es.toList ps 0 hl with ⟨j, v, h1, _, h3, _⟩ | ⟨h1, h3⟩
  · simp [Instr.lookup, run_underlying hT, MapKept.run_getObj_map hb, hk.check, run_findKey hk, h3, h1, Result.andThen]
  · simp [Instr.lookup, run_underlying hT, MapKept.run_getObj_map hb, hk.check, run_findKey hk, h3, h1, hz, Result.andThen]
theorem MapK.update (h : MapK ek ev w mb ps) (hk : KeyT P K ek) (hT : P.underlying T = some (.map K E)) (k : κ) (u : α) :
    ∃ w', (Instr.mapUpdate T (.map (some mb)) (ek k) (ev u)).run P w = .ok () w' ∧ MapK ek ev w' mb (setK ps k u) ∧ w.grownBy w' (some mb) ∧ w'.heap.size = w.heap.size := by
  have hlt := h.lt
  obtain ⟨es, c, hb, hl⟩ := h
  have hgr : ∀ o : Obj, w.grownBy { w with heap := w.heap.setIfInBounds mb o } (some mb) := fun o => ⟨rfl, rfl, rfl, by simp, fun i hi hne => by
    show (w.heap.setIfInBounds mb o)[i]? = _
    rw [Array.getElem?_setIfInBounds_ne (fun e => hne (by rw [e]))]⟩
  rcases run_findAsking hk k w es.toList ps 0 hl with ⟨j, v, h1, h2, h3, h4⟩ | ⟨h1, h3⟩
  · have hj : j < ps.length := by
      rcases Nat.lt_or_ge j ps.length with h | h
      · exact h
      · rw [List.getElem?_eq_none h] at h2; cases h2
    have hjs : j < es.size := by
      have := congrArg List.length hl
      simp at this
      omega
    have hkey : es[j].key = ek k := by
      have h5 := congrArg (fun l => l[j]?) hl
      simp [hj, hjs] at h5 h2
      rw [h5.1, h2]
    refine ⟨{ w with heap := w.heap.setIfInBounds mb (.map (es.modify j fun e => { e with key := ek k, val := ev u }) c) }, ?_, ⟨es.modify j fun e => { e with key := ek k, val := ev u }, c, by simp [hlt], ?_⟩, hgr _, by simp⟩
    · simp only [Nat.zero_add] at h3
      simp [Instr.mapUpdate, run_underlying hT, MapKept.run_getObj_map hb, hk.check, run_findKey hk, h3, Instr.keyThatStays, hjs, hkey, hk.bits, MapKept.run_setObj_map _ hb, Result.andThen]
    · rw [h4 u]
      apply List.ext_getElem?
      intro i
      have h5 := congrArg (fun l => l[i]?) hl
      simp only [List.getElem?_map, Array.getElem?_toList] at h5
      simp only [List.getElem?_map, Array.getElem?_toList, Array.getElem?_modify]
      by_cases hi : j = i
      · subst hi
        simp [hj, hjs]
      · rw [if_neg hi, h5]
        simp [hi]
  · refine ⟨{ w with heap := w.heap.setIfInBounds mb (.map (es.push { key := ek k, val := ev u, born := c }) (c + 1)) }, ?_, ⟨es.push { key := ek k, val := ev u, born := c }, c + 1, by simp [hlt], ?_⟩, hgr _, by simp⟩
    · simp [Instr.mapUpdate, run_underlying hT, MapKept.run_getObj_map hb, hk.check, run_findKey hk, h3, MapKept.run_setObj_map _ hb, Result.andThen]
    · rw [setK_absent (lookK_none.1 h1)]
      simp [hl]
/-! ### at the operation -/
theorem wpList_updateK {ops : Array Oper} {rest : List Oper} {o : Oper} {a : Act} {Q : Exit → Act → World → Prop} (h : MapK ek ev w mb ps) (hk : KeyT P K ek) (hg : o.guard = none) (m x v : Operand) (hop : o.op = Op.mapUpdate T m x v)
    (hT : P.underlying T = some (.map K E)) (hm : a.eval m = .map (some mb)) (k : κ) (hx : a.eval x = ek k) (u : α) (hv : a.eval v = ev u)
    (hK' : ∀ w', MapK ek ev w' mb (setK ps k u) → w.grownBy w' (some mb) → w'.heap.size = w.heap.size → wpList P ops Q rest (a.put o.dst undef) w') : wpList P ops Q (o :: rest) a w := by
  refine wpList_plain hg fun K1 hK1 => ?_
  obtain ⟨w', hrun, h1, h2, h3⟩ := h.update (T := T) hk hT k u
  unfold Oper.wp
  simp only [execOp, hop, hm, hx, hv, Sem.run_bind, Sem.run_pure, hrun, Result.andThen_ok]
  exact hK1 _ _ (hK' w' h1 h2 h3)
end
end Go.Proofs.Ytmfidhlhcochoaa

namespace Go.Proofs.Ytmfidhlhcochoaa
open Go.RowKit
set_option linter.unusedVariables false
set_option linter.unusedSimpArgs false

theorem zeroI (w : World) : (zeroValue 3).run Try.prog w = .ok (.int .i64 0) w := by kernel_rfl
theorem beq_self_bytes (b : ByteArray) : (b == b) = true := by
  obtain ⟨x⟩ := b
  show ByteArray.beq _ _ = true
  simp [ByteArray.beq]
def ekReq (k : Int × Int) : Value := .agg #[.int .i64 k.1, .int .i64 k.2]
def ekTried (k : Int × ByteArray) : Value := .agg #[.int .i64 k.1, .string k.2]
def evInt (n : Int) : Value := .int .i64 n

theorem checkKey_int (em : Bool) (n : Nat) (v : Int) (w : World) : (Instr.checkKey em (n + 1) 3 (.int .i64 v)).run Try.prog w = .ok () w := by
  unfold Instr.checkKey
  simp only [Sem.run_bind, run_underlying Try.underlying3, Result.andThen]
  rfl
theorem checkKey_str (em : Bool) (n : Nat) (v : ByteArray) (w : World) : (Instr.checkKey em (n + 1) 9 (.string v)).run Try.prog w = .ok () w := by
  unfold Instr.checkKey
  simp only [Sem.run_bind, run_underlying Try.underlying9, Result.andThen]
  rfl
theorem keyReq : KeyT Try.prog 110 ekReq where
  check := fun em k w => by
    unfold Instr.checkKey ekReq
    simp only [Sem.run_bind, run_underlying Try.underlying110, Result.andThen]
    have h1 : (part 3 #[Value.int IntKind.i64 k.1, Value.int IntKind.i64 k.2] 0).run Try.prog w = .ok (.int .i64 k.1) w := by go_simp
    have h2 : (part 3 #[Value.int IntKind.i64 k.1, Value.int IntKind.i64 k.2] 1).run Try.prog w = .ok (.int .i64 k.2) w := by go_simp
    have h3 := fun v w => checkKey_int em 9998 v w
    simp [Sem.run_bind, h1, h2, h3, Result.andThen]
  eq := fun k j w => by
    have e : decide (k = j) = (k.1 == j.1 && k.2 == j.2) := by
      rw [Bool.eq_iff_iff]
      cases k; cases j; simp
    rw [e]
    refine eqA_of Try.underlying110 (by kernel_rfl) ?_
    refine eqf_cons (by rfl) (by go_simp; rfl) (by go_simp; rfl) (by go_simp) ?_
    exact eqf_last (by rfl) (by go_simp; rfl) (by go_simp; rfl) (by go_simp)
  under := ⟨_, Try.underlying110⟩
  bits := fun k => by simp [Instr.sameBits, ekReq]

theorem keyTried : KeyT Try.prog 98 ekTried where
  check := fun em k w => by
    unfold Instr.checkKey ekTried
    simp only [Sem.run_bind, run_underlying Try.underlying98, Result.andThen]
    have h1 : (part 3 #[Value.int IntKind.i64 k.1, Value.string k.2] 0).run Try.prog w = .ok (.int .i64 k.1) w := by go_simp
    have h2 : (part 9 #[Value.int IntKind.i64 k.1, Value.string k.2] 1).run Try.prog w = .ok (.string k.2) w := by go_simp
    have h3 := fun v w => checkKey_int em 9998 v w
    have h4 := fun v w => checkKey_str em 9998 v w
    simp [Sem.run_bind, h1, h2, h3, h4, Result.andThen]
  eq := fun k j w => by
    have e : decide (k = j) = (k.1 == j.1 && (k.2.toList == j.2.toList)) := by
      rw [beq_bytes, Bool.eq_iff_iff]
      cases k; cases j; simp
    rw [e]
    refine eqA_of Try.underlying98 (by kernel_rfl) ?_
    refine eqf_cons (by rfl) (by go_simp; rfl) (by go_simp; rfl) (by go_simp) ?_
    exact eqf_last (by rfl) (by go_simp; rfl) (by go_simp; rfl) (by go_simp)
  under := ⟨_, Try.underlying98⟩
  bits := fun k => by simp [Instr.sameBits, ekTried, beq_self_bytes]

def ekEntry (k : Entry) : Value := .agg #[.int .i64 k.client, .int .i64 k.number, .int .i64 k.op.kind, .int .i64 k.op.slot, .string k.op.value]
theorem checkKey_op (em : Bool) (n : Nat) (o : Op) (w : World) : (Instr.checkKey em (n + 2) 38 (.agg #[.int .i64 o.kind, .int .i64 o.slot, .string o.value])).run Try.prog w = .ok () w := by
  unfold Instr.checkKey
  simp only [Sem.run_bind, run_underlying Try.underlying38, Result.andThen]
  have h1 : (part 3 #[Value.int IntKind.i64 o.kind, Value.int IntKind.i64 o.slot, Value.string o.value] 0).run Try.prog w = .ok (.int .i64 o.kind) w := by go_simp
  have h2 : (part 3 #[Value.int IntKind.i64 o.kind, Value.int IntKind.i64 o.slot, Value.string o.value] 1).run Try.prog w = .ok (.int .i64 o.slot) w := by go_simp
  have h5 : (part 9 #[Value.int IntKind.i64 o.kind, Value.int IntKind.i64 o.slot, Value.string o.value] 2).run Try.prog w = .ok (.string o.value) w := by go_simp
  have h3 := fun v w => checkKey_int em n v w
  have h4 := fun v w => checkKey_str em n v w
  simp [Sem.run_bind, h1, h2, h5, h3, h4, Result.andThen]
theorem keyEntry : KeyT Try.prog 119 ekEntry where
  check := fun em k w => by
    unfold Instr.checkKey ekEntry
    simp only [Sem.run_bind, run_underlying Try.underlying119, Result.andThen]
    have h1 : (part 3 #[Value.int IntKind.i64 k.client, Value.int IntKind.i64 k.number, Value.int IntKind.i64 k.op.kind, Value.int IntKind.i64 k.op.slot, Value.string k.op.value] 0).run Try.prog w = .ok (.int .i64 k.client) w := by go_simp
    have h2 : (part 3 #[Value.int IntKind.i64 k.client, Value.int IntKind.i64 k.number, Value.int IntKind.i64 k.op.kind, Value.int IntKind.i64 k.op.slot, Value.string k.op.value] 1).run Try.prog w = .ok (.int .i64 k.number) w := by go_simp
    have h5 : (part 38 #[Value.int IntKind.i64 k.client, Value.int IntKind.i64 k.number, Value.int IntKind.i64 k.op.kind, Value.int IntKind.i64 k.op.slot, Value.string k.op.value] 2).run Try.prog w = .ok (.agg #[.int .i64 k.op.kind, .int .i64 k.op.slot, .string k.op.value]) w := by go_simp
    have h3 := fun v w => checkKey_int em 9998 v w
    have h4 := fun w => checkKey_op em 9997 k.op w
    simp [Sem.run_bind, h1, h2, h5, h3, h4, Result.andThen]
  eq := fun k j w => by
    show (Op.equalIn (9997 + 3) 119 _ _).run Try.prog w = _
    exact equalIn_entry 9997 w k j
  under := ⟨_, Try.underlying119⟩
  bits := fun k => by simp [Instr.sameBits, ekEntry, beq_self_bytes]
end Go.Proofs.Ytmfidhlhcochoaa

namespace Go.Proofs.Ytmfidhlhcochoaa
set_option linter.unusedVariables false
set_option linter.unusedSimpArgs false

def bitsN : List Bool → Nat
  | [] => 0
  | b :: S => (if b then 1 else 0) + 2 * bitsN S
theorem bitsN_lt : ∀ (S : List Bool), bitsN S < 2 ^ S.length
  | [] => by simp [bitsN]
  | b :: S => by
    have := bitsN_lt S
    simp only [bitsN, List.length_cons, Nat.pow_succ]
    split <;> omega
theorem bitsN_inj : ∀ {S T : List Bool}, S.length = T.length → bitsN S = bitsN T → S = T
  | [], [], _, _ => rfl
  | [], _ :: _, h, _ => by simp at h
  | _ :: _, [], h, _ => by simp at h
  | a :: S, b :: T, h, e => by
    simp only [bitsN] at e
    have h' : S.length = T.length := by simpa using h
    have e2 : bitsN S = bitsN T := by split at e <;> split at e <;> omega
    have e1 : a = b := by
      cases a <;> cases b <;> simp at e ⊢ <;> omega
    rw [e1, bitsN_inj h' e2]
theorem bitsN_set : ∀ {S : List Bool} {i : Nat}, S[i]? = some false → bitsN (S.set i true) = bitsN S + 2 ^ i
  | [], i, h => by simp at h
  | b :: S, 0, h => by
    simp at h
    subst h
    simp [bitsN]
    omega
  | b :: S, i + 1, h => by
    have := bitsN_set (S := S) (i := i) (by simpa using h)
    simp only [List.set_cons_succ, bitsN, this, Nat.pow_succ]
    omega
theorem bitsN_free (n : Nat) : bitsN (List.replicate n false) = 0 := by
  induction n with
  | zero => rfl
  | succ n ih => simp [List.replicate_succ, bitsN, ih]
theorem bitsN_test : ∀ {S : List Bool} {i : Nat}, S[i]? = some false → (bitsN S).testBit i = false
  | [], i, h => by simp at h
  | b :: S, 0, h => by
    simp at h
    subst h
    simp [bitsN, Nat.testBit_zero]
  | b :: S, i + 1, h => by
    have := bitsN_test (S := S) (i := i) (by simpa using h)
    rw [Nat.testBit_succ]
    simp only [bitsN]
    rw [show ((if b = true then 1 else 0) + 2 * bitsN S) / 2 = bitsN S by split <;> omega]
    exact this
theorem or_all : ((List.range 256).all fun s => (List.range 8).all fun i => s.testBit i || decide (IntKind.i64.wrap ((BitVec.ofInt IntKind.i64.bits (s : Int) ||| BitVec.ofInt IntKind.i64.bits ((2 : Int) ^ i)).toNat : Int) = ((s + 2 ^ i : Nat) : Int))) = true := by kernel_rfl
theorem or_fact {s i : Nat} (hs : s < 256) (hi : i < 8) (h : s.testBit i = false) : IntKind.i64.wrap ((BitVec.ofInt IntKind.i64.bits (s : Int) ||| BitVec.ofInt IntKind.i64.bits ((2 : Int) ^ i)).toNat : Int) = ((s + 2 ^ i : Nat) : Int) := by
  have h1 := (List.all_eq_true.1 ((List.all_eq_true.1 or_all) s (List.mem_range.2 hs))) i (List.mem_range.2 hi)
  rw [h, Bool.false_or] at h1
  exact of_decide_eq_true h1
theorem or_run {s i : Nat} (hs : s < 256) (hi : i < 8) (h : s.testBit i = false) : Op.intBits .or .i64 (s : Int) ((2 : Int) ^ i) = pure (.int .i64 ((s + 2 ^ i : Nat) : Int)) := by
  rw [← or_fact hs hi h]
  rfl
theorem wrap_pow {i : Nat} (hi : i < 8) : RowKit.wrap64 ((2 : Int) ^ i) = 2 ^ i := by
  have h1 : ((List.range 8).all fun i => decide (RowKit.wrap64 ((2 : Int) ^ i) = 2 ^ i)) = true := by kernel_rfl
  exact of_decide_eq_true ((List.all_eq_true.1 h1) i (List.mem_range.2 hi))
theorem bits_or {s i : Nat} (hs : s < 256) (hi : i < 8) (h : s.testBit i = false) : bits .or .i64 (s : Int) (RowKit.wrap64 ((2 : Int) ^ i)) = ((s + 2 ^ i : Nat) : Int) := by
  rw [wrap_pow hi]
  exact or_fact hs hi h
end Go.Proofs.Ytmfidhlhcochoaa

namespace Go.Proofs.Ytmfidhlhcochoaa
set_option linter.unusedVariables false
set_option linter.unusedSimpArgs false

def marksOf (n : Nat) (is : List Nat) : List Bool := is.foldl (fun S i => S.set i true) (List.replicate n false)
theorem marksOf_snoc (n : Nat) (is : List Nat) (i : Nat) : marksOf n (is ++ [i]) = (marksOf n is).set i true := by simp [marksOf]
theorem foldl_set_length (is : List Nat) : ∀ (S : List Bool), (is.foldl (fun S i => S.set i true) S).length = S.length := by
  induction is with
  | nil => intro S; rfl
  | cons i is ih => intro S; rw [List.foldl_cons, ih]; simp
theorem marksOf_length (n : Nat) (is : List Nat) : (marksOf n is).length = n := by simp [marksOf, foldl_set_length]
theorem foldl_set_get (is : List Nat) (i : Nat) : ∀ (S : List Bool), i < S.length → (is.foldl (fun S i => S.set i true) S)[i]? = if i ∈ is then some true else S[i]? := by
  induction is with
  | nil => intro S h; simp
  | cons j is ih =>
    intro S h
    rw [List.foldl_cons, ih _ (by simpa using h)]
    by_cases e : i ∈ is
    · simp [e]
    · by_cases e2 : j = i
      · subst e2
        simp [e, h]
      · have e3 : ¬ i = j := fun q => e2 q.symm
        simp [e, e3, List.getElem?_set_ne e2]
theorem marksOf_get (n : Nat) (is : List Nat) (i : Nat) (h : i < n) : (marksOf n is)[i]? = some (decide (i ∈ is)) := by
  unfold marksOf
  rw [foldl_set_get _ _ _ (by simpa using h)]
  by_cases e : i ∈ is
  · simp [e]
  · simp [e, h]
/-- Number k of an order may not stand. -/
def badO (n : Nat) (os : List Int) (k : Nat) : Prop := ∀ x, os[k]? = some x → x < 0 ∨ (n : Int) ≤ x ∨ x ∈ os.take k
def okO (n : Nat) (os : List Int) : Prop := ∀ k (h : k < os.length), 0 ≤ os[k] ∧ os[k] < n ∧ os[k] ∉ os.take k
instance (n : Nat) (os : List Int) : Decidable (okO n os) := by unfold okO; infer_instance
/-- The place at which an order breaks, from a place on; -1: it does not. -/
def walkH (l : List Call) : List Bool → List Cell → List Nat → Nat → Int
  | S, cs, [], at_ => if missingL l S = true then (at_ : Int) else -1
  | S, cs, i :: is, at_ => match l[i]? with
    | none => -1
    | some x => if breaksL l S i (would cs x.op) = true then (at_ : Int) else walkH l (S.set i true) (after cs x.op) is (at_ + 1)
def holdsL (l : List Call) (os : List Int) : Int × Int :=
  if checkL l ≠ 0 then (0, checkL l) else if okO l.length os then (walkH l (allFree l) [] (os.map Int.toNat) 0, 0) else (0, 182)
def opsAt (l : List Call) (is : List Nat) : List Op := is.filterMap fun i => (l[i]?).map (·.op)
end Go.Proofs.Ytmfidhlhcochoaa

namespace Go.Proofs.Ytmfidhlhcochoaa
set_option linter.unusedVariables false
set_option linter.unusedSimpArgs false

/-- The first answer of some numbers. -/
def firstL (g : Nat → Option (List Nat)) : List Nat → Option (List Nat)
  | [] => none
  | i :: is => match g i with
    | some ks => some ks
    | none => firstL g is
theorem firstL_append (g : Nat → Option (List Nat)) (a b : List Nat) (h : firstL g a = none) : firstL g (a ++ b) = firstL g b := by
  induction a with
  | nil => rfl
  | cons i is ih =>
    simp only [firstL] at h
    simp only [List.cons_append, firstL]
    cases hg : g i with
    | some ks => rw [hg] at h; cases h
    | none => rw [hg] at h; exact ih h
theorem range_split {k n : Nat} (h : k < n) : List.range n = List.range k ++ (k :: (List.range n).drop (k + 1)) := by
  have h1 := List.take_append_drop k (List.range n)
  have h2 : (List.range n).take k = List.range k := by rw [List.take_range]; congr 1; omega
  have h3 : (List.range n).drop k = k :: (List.range n).drop (k + 1) := by
    rw [List.drop_eq_getElem_cons (by simpa using h)]
    simp
  rw [h2, h3] at h1
  exact h1.symm
theorem first_some {g : Nat → Option (List Nat)} {k n : Nat} {ks : List Nat} (h : firstL g (List.range k) = none) (hkn : k < n) (hk : g k = some ks) : firstL g (List.range n) = some ks := by
  rw [range_split hkn, firstL_append _ _ _ h]
  simp [firstL, hk]
theorem first_none_succ {g : Nat → Option (List Nat)} {k : Nat} (h : firstL g (List.range k) = none) (hk : g k = none) : firstL g (List.range (k + 1)) = none := by
  rw [List.range_succ, firstL_append _ _ _ h]
  simp [firstL, hk]
/-- The reference's answer: the least witness that begins with an order. -/
def fromL : Nat → List Call → List Nat → Option (List Nat)
  | 0, _, _ => none
  | f + 1, l, is => if walkH l (allFree l) [] is 0 = -1 then some is else if walkH l (allFree l) [] is 0 < (is.length : Int) then none
      else firstL (fun k => if k ∈ is then none else fromL f l (is ++ [k])) (List.range l.length)
/-- The cells behind an order. -/
def cellsAt (l : List Call) (is : List Nat) : List Cell := is.foldl (fun cs i => match l[i]? with | some x => after cs x.op | none => cs) []
theorem cellsAt_snoc (l : List Call) (is : List Nat) (i : Nat) (h : i < l.length) : cellsAt l (is ++ [i]) = after (cellsAt l is) l[i].op := by
  simp [cellsAt, List.getElem?_eq_getElem h]
/-- An order that does not break: the walk along it comes to its end. -/
def Stands (l : List Call) (is : List Nat) : Prop := ∀ js, walkH l (allFree l) [] (is ++ js) 0 = walkH l (marksOf l.length is) (cellsAt l is) js is.length
theorem Stands.nil (l : List Call) : Stands l [] := fun js => rfl
theorem Stands.walk {l : List Call} {is : List Nat} (h : Stands l is) : walkH l (allFree l) [] is 0 = if missingL l (marksOf l.length is) = true then (is.length : Int) else -1 := by
  have := h []
  rw [List.append_nil] at this
  rw [this]
  rfl
theorem Stands.snoc {l : List Call} {is : List Nat} (h : Stands l is) {i : Nat} (hi : i < l.length) (hb : breaksL l (marksOf l.length is) i (would (cellsAt l is) l[i].op) = false) : Stands l (is ++ [i]) := fun js => by
  rw [List.append_assoc, h, marksOf_snoc, cellsAt_snoc l is i hi]
  simp only [List.singleton_append, walkH, List.getElem?_eq_getElem hi, hb, List.length_append, List.length_singleton]
  rfl
theorem Stands.breaks {l : List Call} {is : List Nat} (h : Stands l is) {i : Nat} (hi : i < l.length) (hb : breaksL l (marksOf l.length is) i (would (cellsAt l is) l[i].op) = true) : walkH l (allFree l) [] (is ++ [i]) 0 = (is.length : Int) := by
  rw [h]
  simp only [walkH, List.getElem?_eq_getElem hi, hb, if_true]
theorem tryL_first {g : Nat → Option (List Nat)} {g' : Nat → Option (List Nat)} (is : List Nat) (js : List Nat) (h : ∀ k ∈ js, g' k = (g k).map fun ks => is ++ k :: ks) : firstL g' js = (tryL g js).map (is ++ ·) := by
  induction js with
  | nil => rfl
  | cons k js ih =>
    simp only [firstL, tryL]
    rw [h k (by simp)]
    cases hg : g k with
    | some ks => simp
    | none =>
      simp only [Option.map_none]
      exact ih fun q hq => h q (by simp [hq])
theorem from_comp (l : List Call) : ∀ (f : Nat) (is : List Nat), Stands l is → (∀ i ∈ is, i < l.length) → falses (marksOf l.length is) < f → fromL f l is = (comp f l (marksOf l.length is) (cellsAt l is)).map (is ++ ·) := by
  intro f
  induction f with
  | zero => intro is _ _ h; omega
  | succ f ih =>
    intro is hs hr hf
    have hw := hs.walk
    simp only [fromL, comp]
    cases hm : missingL l (marksOf l.length is)
    · rw [hm] at hw
      rw [if_pos (by rw [hw]; rfl)]
      simp
    · rw [hm] at hw
      simp only [if_true] at hw
      rw [if_neg (by rw [hw]; omega), if_neg (by rw [hw]; omega)]
      simp only [if_true]
      refine tryL_first is _ fun k hk => ?_
      have hkl : k < l.length := List.mem_range.1 hk
      have hmk := marksOf_get l.length is k hkl
      rw [hmk, List.getElem?_eq_getElem hkl]
      by_cases hin : k ∈ is
      · simp [hin]
      · simp only [hin, decide_false, if_false]
        rw [decide_eq_false hin] at hmk
        have hfs := falses_set hmk
        cases hb : breaksL l (marksOf l.length is) k (would (cellsAt l is) l[k].op)
        · simp only [Bool.false_eq_true, if_false]
          rw [ih (is ++ [k]) (hs.snoc hkl hb) (fun i hi => by rcases List.mem_append.1 hi with h | h; exact hr i h; simp at h; subst h; exact hkl) (by rw [marksOf_snoc]; omega)]
          rw [marksOf_snoc, cellsAt_snoc l is k hkl]
          cases comp f l ((marksOf l.length is).set k true) (after (cellsAt l is) l[k].op) <;> simp
        · simp only [if_true, Option.map_none]
          cases f with
          | zero => rfl
          | succ f =>
            have hbk := hs.breaks hkl hb
            simp only [fromL]
            rw [if_neg (by rw [hbk]; omega), if_pos (by rw [hbk]; simp; omega)]
theorem from_best (l : List Call) : fromL (l.length + 1) l [] = best l := by
  rw [from_comp l (l.length + 1) [] (Stands.nil l) (fun i h => by simp at h) (by show falses (marksOf l.length []) < _; simp [marksOf, falses])]
  show (comp (l.length + 1) l (allFree l) []).map ([] ++ ·) = _
  unfold best
  cases comp (l.length + 1) l (allFree l) [] <;> simp
end Go.Proofs.Ytmfidhlhcochoaa

namespace Go.Proofs.Ytmfidhlhcochoaa
set_option linter.unusedVariables false
set_option linter.unusedSimpArgs false

def entryOf (c : Call) : Entry := ⟨c.client, c.number, c.op⟩
/-- The place of the call with that entry. -/
def placeE (l : List Call) (x : Entry) : Option Nat := (List.range l.length).find? fun k => decide ((l[k]?).map entryOf = some x)
def ordersW (l : List Call) : List Bool → List Nat → List Entry → Option (List Nat)
  | S, out, [] => if missingL l S = true then none else some out
  | S, out, x :: xs => match placeE l x with
    | none => ordersW l S out xs
    | some p => if S.getD p false = true then none else ordersW l (S.set p true) (out ++ [p]) xs
def orderL (l : List Call) (seq : List Entry) : List Nat × Int :=
  if checkL l ≠ 0 then ([], checkL l) else match ordersW l (allFree l) [] seq with
    | some o => (o, 0)
    | none => ([], 182)
end Go.Proofs.Ytmfidhlhcochoaa

namespace Go.Proofs.Ytmfidhlhcochoaa
set_option linter.unusedVariables false
set_option linter.unusedSimpArgs false

def cellsOf (a : List Call) : List Cell := a.foldl (fun cs x => after cs x.op) []
theorem cellsOf_snoc (a : List Call) (x : Call) : cellsOf (a ++ [x]) = after (cellsOf a) x.op := by simp [cellsOf]
/-- Behind the calls a, those of the second list explain the rest of l. -/
def Runs (l : List Call) : List Call → List Call → Prop
  | a, [] => ∀ y ∈ l, 0 ≤ y.fin → y ∈ a
  | a, x :: b => x ∈ l ∧ x ∉ a ∧ (∀ y ∈ l, precedes y x = true → y ∈ a) ∧ (0 ≤ x.fin → would (cellsOf a) x.op = x.res) ∧ Runs l (a ++ [x]) b
def Expl (l : List Call) : Prop := ∃ b, Runs l [] b
theorem good_fin {x : Call} (h : goodC x = true) : 0 ≤ x.beg ∧ (x.fin = -1 ∧ x.res = zres ∨ 0 ≤ x.fin ∧ x.beg < x.fin) := by
  unfold goodC at h
  simp only [Bool.and_eq_true, decide_eq_true_eq] at h
  obtain ⟨⟨_, h1⟩, h2⟩ := h
  refine ⟨h1, ?_⟩
  split at h2
  · rename_i h3
    exact .inl ⟨h3, by simpa using h2⟩
  · simp only [decide_eq_true_eq] at h2
    exact .inr ⟨by omega, h2⟩
theorem good_not_self {x : Call} (h : goodC x = true) : precedes x x = false := by
  have := good_fin h
  unfold precedes
  rw [Bool.eq_false_iff]
  intro hp
  simp only [Bool.and_eq_true, decide_eq_true_eq] at hp
  omega
theorem GoodL.inj {l : List Call} (hg : GoodL l) {i j : Nat} (hi : i < l.length) (hj : j < l.length) (e : sameKey l[i] l[j] = true) : i = j := by
  have e' : sameKey l[j] l[i] = true := by
    unfold sameKey at e ⊢
    simp only [Bool.and_eq_true, decide_eq_true_eq] at e ⊢
    exact ⟨e.1.symm, e.2.symm⟩
  rcases Nat.lt_trichotomy i j with h | h | h
  · have := (hg j hj).2 i h
    rw [e] at this; cases this
  · exact h
  · have := (hg i hi).2 j h
    rw [e'] at this; cases this
theorem sameKey_refl (x : Call) : sameKey x x = true := by simp [sameKey]
theorem GoodL.good {l : List Call} (hg : GoodL l) {x : Call} (h : x ∈ l) : goodC x = true := by
  obtain ⟨i, hi, rfl⟩ := List.mem_iff_getElem.1 h
  exact (hg i hi).1
theorem GoodL.key {l : List Call} (hg : GoodL l) {x y : Call} (hx : x ∈ l) (hy : y ∈ l) (e : sameKey x y = true) : x = y := by
  obtain ⟨i, hi, rfl⟩ := List.mem_iff_getElem.1 hx
  obtain ⟨j, hj, rfl⟩ := List.mem_iff_getElem.1 hy
  have := hg.inj hi hj e
  subst this
  rfl
/-- The marks S say that the calls a stand. -/
structure MarkOf (l : List Call) (S : List Bool) (a : List Call) : Prop where
  len : S.length = l.length
  is : ∀ i (h : i < l.length), S[i]? = some (decide (l[i] ∈ a))
  sub : ∀ x ∈ a, x ∈ l
theorem MarkOf.nil (l : List Call) : MarkOf l (allFree l) [] := ⟨by simp [allFree], fun i h => by simp [allFree, h], fun x h => by simp at h⟩
theorem MarkOf.getD {l : List Call} {S : List Bool} {a : List Call} (h : MarkOf l S a) {i : Nat} (hi : i < l.length) : S.getD i false = decide (l[i] ∈ a) := by
  rw [List.getD_eq_getElem?_getD, h.is i hi]; rfl
theorem MarkOf.snoc {l : List Call} {S : List Bool} {a : List Call} (h : MarkOf l S a) (hg : GoodL l) {i : Nat} (hi : i < l.length) : MarkOf l (S.set i true) (a ++ [l[i]]) := by
  refine ⟨by rw [List.length_set]; exact h.len, fun j hj => ?_, fun x hx => ?_⟩
  · rw [List.getElem?_set]
    by_cases e : i = j
    · subst e
      rw [if_pos rfl, if_pos (by rw [h.len]; exact hi)]
      simp
    · rw [if_neg e, h.is j hj]
      have : l[j] ≠ l[i] := fun q => e (hg.inj hi hj (by rw [q]; exact sameKey_refl _))
      simp [this]
  · rcases List.mem_append.1 hx with hx | hx
    · exact h.sub x hx
    · simp only [List.mem_singleton] at hx; subst hx; exact List.getElem_mem hi
theorem MarkOf.missing {l : List Call} {S : List Bool} {a : List Call} (h : MarkOf l S a) : missingL l S = false ↔ ∀ y ∈ l, 0 ≤ y.fin → y ∈ a := by
  unfold missingL
  rw [List.any_eq_false]
  constructor
  · intro hn y hy hf
    obtain ⟨i, hi, rfl⟩ := List.mem_iff_getElem.1 hy
    have := hn i (List.mem_range.2 hi)
    unfold missAt at this
    rw [List.getElem?_eq_getElem hi, h.getD hi] at this
    simpa [hf] using this
  · intro hn i hi
    have hi := List.mem_range.1 hi
    unfold missAt
    rw [List.getElem?_eq_getElem hi, h.getD hi]
    by_cases hf : 0 ≤ l[i].fin
    · simp [hn _ (List.getElem_mem hi) hf]
    · simp [hf]
theorem MarkOf.breaks {l : List Call} {S : List Bool} {a : List Call} (h : MarkOf l S a) (hg : GoodL l) {i : Nat} (hi : i < l.length) (r : Res) : breaksL l S i r = false ↔ (∀ y ∈ l, precedes y l[i] = true → y ∈ a) ∧ (0 ≤ l[i].fin → r = l[i].res) := by
  unfold breaksL aheadOf
  rw [Bool.or_eq_false_iff, List.any_eq_false, List.getElem?_eq_getElem hi]
  refine and_congr ?_ ?_
  · constructor
    · intro hn y hy hp
      obtain ⟨k, hk, rfl⟩ := List.mem_iff_getElem.1 hy
      have := hn k (List.mem_range.2 hk)
      unfold aheadAt at this
      rw [List.getElem?_eq_getElem hk, List.getElem?_eq_getElem hi, h.getD hk] at this
      by_cases e : k = i
      · subst e
        rw [good_not_self (hg k hk).1] at hp; cases hp
      · simpa [e, hp] using this
    · intro hn k hk
      have hk := List.mem_range.1 hk
      unfold aheadAt
      rw [List.getElem?_eq_getElem hk, List.getElem?_eq_getElem hi, h.getD hk]
      by_cases hp : precedes l[k] l[i] = true
      · simp [hn _ (List.getElem_mem hk) hp]
      · simp [hp]
  · by_cases hf : 0 ≤ l[i].fin
    · simp [hf]
    · simp [hf]
theorem tryL_some {g : Nat → Option (List Nat)} {is ks : List Nat} (h : tryL g is = some ks) : ∃ i js, i ∈ is ∧ g i = some js ∧ ks = i :: js := by
  induction is with
  | nil => cases h
  | cons i is ih =>
    simp only [tryL] at h
    cases hi : g i with
    | some js => rw [hi] at h; cases h; exact ⟨i, js, by simp, hi, rfl⟩
    | none => rw [hi] at h; obtain ⟨j, js, h1, h2, h3⟩ := ih h; exact ⟨j, js, by simp [h1], h2, h3⟩
theorem tryL_none {g : Nat → Option (List Nat)} {is : List Nat} (h : tryL g is = none) : ∀ i ∈ is, g i = none := by
  induction is with
  | nil => intro i hi; simp at hi
  | cons j is ih =>
    simp only [tryL] at h
    cases hj : g j with
    | some js => rw [hj] at h; cases h
    | none =>
      rw [hj] at h
      intro i hi
      rcases List.mem_cons.1 hi with rfl | hi
      · exact hj
      · exact ih h i hi
theorem comp_runs {l : List Call} (hg : GoodL l) : ∀ (f : Nat) (S : List Bool) (a : List Call) (ks : List Nat), MarkOf l S a → comp f l S (cellsOf a) = some ks → ∃ b, Runs l a b := by
  intro f
  induction f with
  | zero => intro S a ks _ h; cases h
  | succ f ih =>
    intro S a ks hm h
    simp only [comp] at h
    split at h
    · obtain ⟨i, js, hi, h1, _⟩ := tryL_some h
      have hi := List.mem_range.1 hi
      rw [hm.is i hi, List.getElem?_eq_getElem hi] at h1
      by_cases ha : l[i] ∈ a
      · simp [ha] at h1
      · simp only [ha, decide_false] at h1
        split at h1
        · cases h1
        · rename_i hb
          have hb := Bool.eq_false_iff.2 hb
          rw [hm.breaks hg hi] at hb
          rw [← cellsOf_snoc] at h1
          obtain ⟨b, hr⟩ := ih _ _ _ (hm.snoc hg hi) h1
          exact ⟨l[i] :: b, List.getElem_mem hi, ha, hb.1, hb.2, hr⟩
    · rename_i hms
      exact ⟨[], hm.missing.1 (Bool.eq_false_iff.2 hms)⟩
theorem runs_comp {l : List Call} (hg : GoodL l) : ∀ (b : List Call) (f : Nat) (S : List Bool) (a : List Call), MarkOf l S a → falses S < f → Runs l a b → comp f l S (cellsOf a) ≠ none := by
  intro b
  induction b with
  | nil =>
    intro f S a hm hf hr
    cases f with
    | zero => omega
    | succ f =>
      simp only [comp]
      rw [if_neg (Bool.eq_false_iff.1 (hm.missing.2 hr))]
      simp
  | cons x b ih =>
    intro f S a hm hf hr
    obtain ⟨hx, hxa, hp, hq, hr⟩ := hr
    cases f with
    | zero => omega
    | succ f =>
      simp only [comp]
      split
      · intro hn
        obtain ⟨i, hi, rfl⟩ := List.mem_iff_getElem.1 hx
        have h1 := tryL_none hn i (List.mem_range.2 hi)
        have hsi := hm.is i hi
        simp only [hxa, decide_false] at hsi
        simp only [hsi, List.getElem?_eq_getElem hi] at h1
        rw [(hm.breaks hg hi _).2 ⟨hp, hq⟩, ← cellsOf_snoc] at h1
        have := falses_set hsi
        exact ih f _ _ (hm.snoc hg hi) (by omega) hr h1
      · simp
theorem best_expl {l : List Call} (hg : GoodL l) : best l ≠ none ↔ Expl l := by
  constructor
  · intro h
    cases hb : best l with
    | none => exact absurd hb h
    | some ks => exact comp_runs hg _ _ [] ks (MarkOf.nil l) hb
  · rintro ⟨b, hr⟩
    exact runs_comp hg b _ _ [] (MarkOf.nil l) (by rw [falses_free]; omega) hr

/-- A call as it was known ahead of a row. -/
def truncC (t : Int) (x : Call) : Call := if t ≤ x.fin then { x with fin := -1, res := zres } else x
def cutL (t : Int) (l : List Call) : List Call := (l.filter fun x => decide (x.beg < t)).map (truncC t)
theorem truncC_op (t : Int) (x : Call) : (truncC t x).op = x.op := by unfold truncC; split <;> rfl
theorem truncC_beg (t : Int) (x : Call) : (truncC t x).beg = x.beg := by unfold truncC; split <;> rfl
theorem truncC_key (t : Int) (x y : Call) : sameKey (truncC t x) (truncC t y) = sameKey x y := by unfold truncC; split <;> split <;> rfl
theorem truncC_fin {t : Int} {x : Call} (h : 0 ≤ (truncC t x).fin) : truncC t x = x ∧ x.fin < t ∧ 0 ≤ x.fin := by
  unfold truncC at h ⊢
  split
  · rename_i h1; rw [if_pos h1] at h; simp at h
  · rename_i h1; rw [if_neg h1] at h; exact ⟨rfl, by omega, h⟩
theorem truncC_good {t : Int} {x : Call} (h : goodC x = true) : goodC (truncC t x) = true := by
  unfold truncC
  split
  · unfold goodC at h ⊢
    simp only [Bool.and_eq_true] at h ⊢
    exact ⟨h.1, by simp⟩
  · exact h
theorem mem_cut {t : Int} {l : List Call} {y : Call} : y ∈ cutL t l ↔ ∃ x ∈ l, x.beg < t ∧ truncC t x = y := by
  simp [cutL, and_assoc]
theorem cellsOf_map {f : Call → Call} (hf : ∀ x, (f x).op = x.op) (a : List Call) : cellsOf (a.map f) = cellsOf a := by
  unfold cellsOf
  rw [List.foldl_map]
  simp only [hf]
theorem cellsOf_trunc (t : Int) (a : List Call) : cellsOf (a.map (truncC t)) = cellsOf a := cellsOf_map (truncC_op t) a
theorem GoodL.of_pair {l : List Call} (h1 : ∀ x ∈ l, goodC x = true) (h2 : l.Pairwise fun x y => sameKey x y = false) : GoodL l := fun i hi =>
  ⟨h1 _ (List.getElem_mem hi), fun j hj => List.pairwise_iff_getElem.1 h2 j i (by omega) hi hj⟩
theorem GoodL.pair {l : List Call} (h : GoodL l) : l.Pairwise fun x y => sameKey x y = false :=
  List.pairwise_iff_getElem.2 fun i j hi hj hij => (h j hj).2 i hij
theorem GoodL.filter {l : List Call} (h : GoodL l) (p : Call → Bool) : GoodL (l.filter p) :=
  GoodL.of_pair (fun x hx => h.good (List.mem_filter.1 hx).1) (h.pair.filter p)
theorem GoodL.cut {l : List Call} (h : GoodL l) (t : Int) : GoodL (cutL t l) := by
  refine GoodL.of_pair (fun x hx => ?_) ?_
  · obtain ⟨y, hy, _, rfl⟩ := mem_cut.1 hx
    exact truncC_good (h.good hy)
  · unfold cutL
    refine List.pairwise_map.2 (((h.filter _).pair).imp ?_)
    intro x y hxy
    rw [truncC_key]; exact hxy
/-- A beginning of what is explained is explained. -/
theorem runs_cut {l : List Call} (hg : GoodL l) (t : Int) : ∀ (b a : List Call), (∀ x ∈ a, x ∈ l) → Runs l a b → ∃ b', Runs (cutL t l) (a.map (truncC t)) b' := by
  intro b
  induction b with
  | nil =>
    intro a ha hr
    refine ⟨[], fun y hy hf => ?_⟩
    obtain ⟨x, hx, hb, rfl⟩ := mem_cut.1 hy
    exact List.mem_map_of_mem (hr x hx (truncC_fin hf).2.2)
  | cons x b ih =>
    intro a ha hr
    obtain ⟨hx, hxa, hp, hq, hr⟩ := hr
    by_cases hall : ∀ y ∈ cutL t l, 0 ≤ y.fin → y ∈ a.map (truncC t)
    · exact ⟨[], hall⟩
    · have hbt : x.beg < t := by
        by_cases h1 : x.beg < t
        · exact h1
        · exfalso
          refine hall fun y hy hf => ?_
          obtain ⟨z, hz, hb, rfl⟩ := mem_cut.1 hy
          obtain ⟨h3, h4, h5⟩ := truncC_fin hf
          exact List.mem_map_of_mem (hp z hz (by unfold precedes; simp only [Bool.and_eq_true, decide_eq_true_eq]; omega))
      have ha' : ∀ z ∈ a ++ [x], z ∈ l := fun z hz => by
        rcases List.mem_append.1 hz with hz | hz
        · exact ha z hz
        · simp only [List.mem_singleton] at hz; subst hz; exact hx
      obtain ⟨b', hb'⟩ := ih (a ++ [x]) ha' hr
      refine ⟨truncC t x :: b', mem_cut.2 ⟨x, hx, hbt, rfl⟩, fun hm => ?_, fun y hy hpy => ?_, fun hf => ?_, by simpa using hb'⟩
      · obtain ⟨z, hz, he⟩ := List.mem_map.1 hm
        have : z = x := hg.key (ha z hz) hx (by rw [← truncC_key t, he]; exact sameKey_refl _)
        subst this
        exact hxa hz
      · obtain ⟨z, hz, hb, rfl⟩ := mem_cut.1 hy
        unfold precedes at hpy
        simp only [Bool.and_eq_true, decide_eq_true_eq] at hpy
        obtain ⟨h3, h4, h5⟩ := truncC_fin hpy.1
        refine List.mem_map_of_mem (hp z hz ?_)
        unfold precedes
        simp only [Bool.and_eq_true, decide_eq_true_eq]
        rw [h3, truncC_beg] at hpy
        exact hpy
      · obtain ⟨h3, h4, h5⟩ := truncC_fin hf
        rw [cellsOf_trunc, truncC_op, h3]
        exact hq h5
theorem Expl.cut {l : List Call} (hg : GoodL l) (h : Expl l) (t : Int) : Expl (cutL t l) := by
  obtain ⟨b, hb⟩ := h
  exact runs_cut hg t b [] (fun x hx => by simp at hx) hb
theorem truncC_trunc {s t : Int} (h0 : 0 ≤ s) (h : s ≤ t) (x : Call) : truncC s (truncC t x) = truncC s x := by
  unfold truncC
  by_cases h1 : t ≤ x.fin
  · rw [if_pos h1, if_neg (by simp; omega), if_pos (by omega)]
  · rw [if_neg h1]
theorem cut_cut {s t : Int} (h0 : 0 ≤ s) (h : s ≤ t) (l : List Call) : cutL s (cutL t l) = cutL s l := by
  unfold cutL
  rw [List.filter_map, List.map_map, List.filter_filter]
  have e1 : (truncC s ∘ truncC t) = truncC s := funext fun x => truncC_trunc h0 h x
  rw [e1]
  congr 1
  refine List.filter_congr fun x _ => ?_
  simp only [Function.comp, truncC_beg]
  rw [Bool.eq_iff_iff]
  simp only [Bool.and_eq_true, decide_eq_true_eq]
  omega
/-- Where nothing was answered between two rows, the later history is explained as the earlier one. -/
theorem Expl.later {l : List Call} (hg : GoodL l) {s t : Int} (h : s ≤ t) (hn : ∀ x ∈ l, x.beg < t → s ≤ x.fin → t ≤ x.fin) (he : Expl (cutL s l)) : Expl (cutL t l) := by
  have htr : ∀ x ∈ l, x.beg < t → truncC s x = truncC t x := fun x hx hb => by
    unfold truncC
    by_cases h1 : s ≤ x.fin
    · rw [if_pos h1, if_pos (hn x hx hb h1)]
    · rw [if_neg h1, if_neg (by omega)]
  have hsub : ∀ y ∈ cutL s l, y ∈ cutL t l := fun y hy => by
    obtain ⟨x, hx, hb, rfl⟩ := mem_cut.1 hy
    exact mem_cut.2 ⟨x, hx, by omega, (htr x hx (by omega)).symm⟩
  have hback : ∀ y ∈ cutL t l, 0 ≤ y.fin → y ∈ cutL s l := fun y hy hf => by
    obtain ⟨x, hx, hb, rfl⟩ := mem_cut.1 hy
    obtain ⟨h3, h4, h5⟩ := truncC_fin hf
    have h6 : x.fin < s := by
      by_cases h7 : s ≤ x.fin
      · have := hn x hx hb h7; omega
      · omega
    have h8 := (good_fin (hg.good hx)).2
    exact mem_cut.2 ⟨x, hx, by omega, htr x hx hb⟩
  obtain ⟨b, hb⟩ := he
  refine ⟨b, ?_⟩
  have : ∀ (b a : List Call), Runs (cutL s l) a b → Runs (cutL t l) a b := by
    intro b
    induction b with
    | nil => intro a hr y hy hf; exact hr y (hback y hy hf) hf
    | cons x b ih =>
      rintro a ⟨hx, hxa, hp, hq, hr⟩
      refine ⟨hsub x hx, hxa, fun y hy hpy => ?_, hq, ih _ hr⟩
      have hf : 0 ≤ y.fin := by
        unfold precedes at hpy
        simp only [Bool.and_eq_true, decide_eq_true_eq] at hpy
        exact hpy.1
      exact hp y (hback y hy hf) hpy
  exact this b [] hb
theorem cut_all {l : List Call} {t : Int} (h : ∀ x ∈ l, x.beg < t ∧ x.fin < t) : cutL t l = l := by
  unfold cutL
  rw [List.filter_eq_self.2 (fun x hx => by simpa using (h x hx).1)]
  conv => rhs; rw [← List.map_id l]
  refine List.map_congr_left fun x hx => ?_
  unfold truncC
  rw [if_neg (by have := (h x hx).2; omega)]
  rfl
theorem above_all (l : List Call) : ∃ t : Int, 0 ≤ t ∧ ∀ x ∈ l, x.beg < t ∧ x.fin < t := by
  induction l with
  | nil => exact ⟨0, by omega, fun x hx => by simp at hx⟩
  | cons y l ih =>
    obtain ⟨t, h0, h⟩ := ih
    refine ⟨max t (max (y.beg + 1) (y.fin + 1)), by omega, fun x hx => ?_⟩
    rcases List.mem_cons.1 hx with rfl | hx
    · omega
    · have := h x hx; omega
/-- The rows of answers up to which no order explains. -/
def BadAt (l : List Call) (t : Int) : Prop := 0 ≤ t ∧ (∃ x ∈ l, x.fin = t) ∧ ¬ Expl (cutL (t + 1) l)
theorem bad_is {l : List Call} (hg : GoodL l) (h : ¬ Expl l) : ∃ t, BadAt l t := by
  refine Classical.byContradiction fun hn => h ?_
  have hn : ∀ x ∈ l, 0 ≤ x.fin → Expl (cutL (x.fin + 1) l) := fun x hx hf => Classical.byContradiction fun q => hn ⟨x.fin, hf, ⟨x, hx, rfl⟩, q⟩
  obtain ⟨t, ht0, ht⟩ := above_all l
  rw [← cut_all ht]
  by_cases hany : ∃ x ∈ l, 0 ≤ x.fin
  · -- the greatest answer
    have : ∀ (m : List Call), (∃ x ∈ m, 0 ≤ x.fin) → ∃ x ∈ m, 0 ≤ x.fin ∧ ∀ y ∈ m, y.fin ≤ x.fin := by
      intro m
      induction m with
      | nil => rintro ⟨x, hx, _⟩; simp at hx
      | cons z m ih =>
        intro hz
        by_cases hm : ∃ x ∈ m, 0 ≤ x.fin
        · obtain ⟨x, hx, hf, hy⟩ := ih hm
          by_cases hzx : z.fin ≤ x.fin
          · exact ⟨x, by simp [hx], hf, fun y hy' => by rcases List.mem_cons.1 hy' with rfl | h; exact hzx; exact hy y h⟩
          · exact ⟨z, by simp, by omega, fun y hy' => by rcases List.mem_cons.1 hy' with rfl | h; omega; have := hy y h; omega⟩
        · obtain ⟨x, hx, hf⟩ := hz
          rcases List.mem_cons.1 hx with rfl | hx
          · refine ⟨x, by simp, hf, fun y hy' => ?_⟩
            rcases List.mem_cons.1 hy' with rfl | h
            · omega
            · by_cases hq : 0 ≤ y.fin
              · exact absurd ⟨y, h, hq⟩ hm
              · omega
          · exact absurd ⟨x, hx, hf⟩ hm
    obtain ⟨x, hx, hf, hmax⟩ := this l hany
    have h1 := (ht x hx).2
    exact Expl.later hg (s := x.fin + 1) (by omega) (fun y hy _ h2 => by have := hmax y hy; omega) (hn x hx hf)
  · refine ⟨[], fun y hy hf => ?_⟩
    obtain ⟨x, hx, hb, rfl⟩ := mem_cut.1 hy
    exact absurd ⟨x, hx, (truncC_fin hf).2.2⟩ hany
/-- Ahead of the least of those rows there is an order that explains. -/
theorem least_bad {l : List Call} (hg : GoodL l) {k : Int} (hk : 0 ≤ k) (hmin : ∀ t, BadAt l t → k ≤ t) : Expl (cutL k l) := by
  refine Classical.byContradiction fun hn => ?_
  obtain ⟨t, h0, ⟨x, hx, hxf⟩, hb⟩ := bad_is (hg.cut k) hn
  obtain ⟨y, hy, hyb, rfl⟩ := mem_cut.1 hx
  obtain ⟨h3, h4, h5⟩ := truncC_fin (show 0 ≤ (truncC k y).fin by omega)
  rw [h3] at hxf
  rw [cut_cut (by omega) (by omega)] at hb
  have := hmin t ⟨h0, ⟨y, hy, hxf⟩, hb⟩
  omega
theorem Expl.mono {l : List Call} (hg : GoodL l) {s t : Int} (h0 : 0 ≤ s) (h : s ≤ t) (he : Expl (cutL t l)) : Expl (cutL s l) := by
  have := he.cut (hg.cut t) s
  rwa [cut_cut h0 h] at this
end Go.Proofs.Ytmfidhlhcochoaa
