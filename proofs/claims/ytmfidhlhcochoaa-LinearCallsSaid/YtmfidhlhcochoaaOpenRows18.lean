/- Rows that are seen, with their nested slices, as a law's argument, opened. Conditions: none.
A row that is seen, read out of an argument's data. Conditions: none.
LinearCalls, of an argument opened. Conditions: none. -/
import Derived.Test.YtmfidhlhcochoaaOpen18
import Derived.Test.YtmfidhlhcochoaaSeen18
import Derived.Test.YtmfidhlhcochoaaCallsLaw18
namespace Go.Proofs.Ytmfidhlhcochoaa
open Go.ChangeShapes Go.WideShapes Go.ChangeAt Go.RowKit Go.Deep
set_option linter.unusedVariables false
set_option linter.unusedSimpArgs false

/-- What a slice's data tells of its elements. -/
def Pay {H α : Type} (wf : α → DataW H → Prop) (d : DataW H) (xs : List α) : Prop :=
  (d = .nil ∧ xs = []) ∨ ∃ es sp, d = .slice es sp ∧ es.length = xs.length ∧ ∀ (i : Nat) (a : α), xs[i]? = some a → ∃ y, es[i]? = some y ∧ wf a y
set_option maxRecDepth 100000 in
theorem trod_list {H : Type} {en : TypeId × Value → H} {α : Type} {enc : α → List Value} {wf : α → DataW H → Prop} {t e k bytes fuel : Nat} {W : World} {cs : List Value} {x : DataW H × List MemPlace} (T : RowT Try.prog t e k bytes) (hC : Try.prog.cellsOf e = k)
    (hE : ∀ x, (enc x).length = k)
    (hel : ∀ {fuel : Nat} {cs : List Value} {x : DataW H × List MemPlace}, DataW.trod en Try.prog W 0 (fun _ => true) true fuel e cs = some x → ∃ a : α, cs = enc a ∧ wf a x.1)
    (h : DataW.trod en Try.prog W 0 (fun _ => true) true fuel t cs = some x) :
    ∃ A c n, ∃ xs : List α, cs = [.slice A n c] ∧ n = xs.length ∧ n ≤ c ∧ Rd enc k W W.heap.size A xs ∧ Pay wf x.1 xs := by
  rcases open_slice T.under h with ⟨rfl, hx⟩ | ⟨ad, len, cap, m, n, D, Pl, rfl, _, hl, hm, hmm, hx, hi⟩
  · exact ⟨none, 0, 0, [], rfl, rfl, Nat.le_refl _, Rd.nil, .inl ⟨by simpa using congrArg Prod.fst hx, rfl⟩⟩
  · simp at hmm
    subst hmm
    obtain ⟨xs, hxl, hxp⟩ := list_of (p := fun i (a : α) => W.cells? 0 (ad.add (i * k)) k = some (enc a) ∧ wf a (D i)) len (fun i hi' => by
      obtain ⟨cs', hc, ht⟩ := hi i (by omega)
      rw [hC] at hc
      obtain ⟨a, ha, hw⟩ := hel ht
      exact ⟨a, ha ▸ hc, hw⟩)
    refine ⟨some ad, _, _, xs, rfl, hxl.symm, hl, fun i x hix => ?_, .inr ⟨_, _, by simpa using congrArg Prod.fst hx, by simp [hxl], fun i a ha => ⟨D i, ?_, (hxp i a ha).2⟩⟩⟩
    · obtain ⟨hc, _⟩ := hxp i x hix
      obtain ⟨_, hcl, hat⟩ := World.cells?_some hc
      have hat' : At W (ad.add (i * k)) (enc x) := fun j u hu => by
        have hj : j < k := by rw [← hE x]; exact (List.getElem?_eq_some_iff.1 hu).1
        exact (hat j hj).trans hu
      refine ⟨ad, rfl, ?_, hat'⟩
      have h0 : ∃ u, (enc x)[0]? = some u := ⟨_, List.getElem?_eq_getElem (by rw [hE]; exact T.pos)⟩
      obtain ⟨u, hu⟩ := h0
      have := World.block_lt_of_cell? W _ (hat' 0 u hu)
      rwa [block_add, block_add] at this
    · have hi' : i < len := by rw [← hxl]; exact (List.getElem?_eq_some_iff.1 ha).1
      simp [List.getElem?_map, List.getElem?_range hi']
theorem weights_mem_all {H : Type} {P : Program} {e : TypeId} : ∀ {ds : List (DataW H)} {j : Nat} {d : DataW H}, ds[j]? = some d → ∀ n ∈ d.weights P e, n ∈ DataW.weightsAll P e ds
  | d0 :: ds, 0, d, hd, n, hn => by
    simp only [List.getElem?_cons_zero, Option.some.injEq] at hd
    subst hd
    simp only [DataW.weightsAll, List.mem_append]
    exact Or.inl hn
  | d0 :: ds, j + 1, d, hd, n, hn => by
    simp only [List.getElem?_cons_succ] at hd
    simp only [DataW.weightsAll, List.mem_append]
    exact Or.inr (weights_mem_all hd n hn)
  | [], _, _, hd, _, _ => by simp at hd
/-- A slice's weight, and its elements' weights. -/
theorem pay_weight {H α : Type} {P : Program} {t e : TypeId} {wf : α → DataW H → Prop} {d : DataW H} {xs : List α} (hu : P.underlying t = some (.slice e)) (h : Pay wf d xs) (hw : ∀ n ∈ d.weights P t, n ≤ reachBytes) :
    xs.length * P.bytesOf e ≤ reachBytes ∧ ∀ (i : Nat) (a : α), xs[i]? = some a → ∃ y, wf a y ∧ ∀ n ∈ y.weights P e, n ≤ reachBytes := by
  rcases h with ⟨rfl, rfl⟩ | ⟨es, sp, rfl, hl, he⟩
  · exact ⟨by simp, fun i a h => by simp at h⟩
  · simp only [DataW.weights, hu, List.mem_cons, List.mem_append] at hw
    refine ⟨?_, fun i a ha => ?_⟩
    · have := hw _ (.inl rfl)
      rw [hl, Nat.add_mul] at this
      omega
    · obtain ⟨y, hy, hwf⟩ := he i a ha
      exact ⟨y, hwf, fun n hn => hw n (.inr (.inl (weights_mem_all hy n hn)))⟩
end Go.Proofs.Ytmfidhlhcochoaa

namespace Go.Proofs.Ytmfidhlhcochoaa
open Go.ChangeShapes Go.WideShapes Go.ChangeAt Go.RowKit Go.Deep
set_option linter.unusedVariables false
set_option linter.unusedSimpArgs false

section
variable {H : Type} {enc : TypeId × Value → H} {W : World} {fuel : Nat} {cs : List Value} {x : DataW H × List MemPlace}
theorem trod_byte (h : DataW.trod enc Try.prog W 0 (fun _ => true) true fuel 5 cs = some x) : ∃ b : Int, cs = byteC b ∧ True := by
  obtain ⟨k, e0, _, _⟩ := DataW.trod_int Try.underlying5 h
  exact ⟨k, e0, trivial⟩
theorem trod_entryD (h : DataW.trod enc Try.prog W 0 (fun _ => true) true fuel 119 cs = some x) : ∃ b : Entry, cs = b.cells ∧ True := by
  obtain ⟨k, e0, _⟩ := trod_entry h
  exact ⟨k, e0, trivial⟩
set_option maxRecDepth 100000 in
theorem trod_draw (h : DataW.trod enc Try.prog W 0 (fun _ => true) true fuel 117 cs = some x) : ∃ a b : Int, cs = [.int .u64 a, .int .u64 b] := by
  obtain ⟨xs, n, _, _, hl, hxl, hf⟩ := DataW.trod_struct Try.underlying117 h
  have hl5 : cs.length = 2 := hl.trans (by kernel_rfl)
  match cs, hl5 with
  | [a, b], _ =>
    match xs, hxl with
    | [x0, x1], _ =>
      have c3 : Try.prog.cellsOf 115 = 1 := by kernel_rfl
      have h0 := hf 0 _ rfl
      have h1 := hf 1 _ rfl
      simp [c3] at h0 h1
      obtain ⟨k, e0, _, _⟩ := DataW.trod_int Try.underlying115 h0
      obtain ⟨v, e1, _, _⟩ := DataW.trod_int Try.underlying115 h1
      simp at e0 e1
      exact ⟨k, v, by rw [e0, e1]⟩
def bytesWf (_ : Int) (_ : DataW H) : Prop := True
def entryWf (_ : Entry) (_ : DataW H) : Prop := True
set_option maxRecDepth 100000 in
theorem trod_packet (h : DataW.trod enc Try.prog W 0 (fun _ => true) true fuel 122 cs = some x) : ∃ (a b : Int) (A : Option Addr) (c n : Nat) (ns : List Int), cs = [.int .i64 a, .int .i64 b, .slice A n c] ∧ n = ns.length ∧ Rd byteC 1 W W.heap.size A ns ∧ ((∀ m ∈ x.1.weights Try.prog 122, m ≤ reachBytes) → ns.length * Try.prog.bytesOf 5 ≤ reachBytes) := by
  obtain ⟨xs, n, _, hx, hl, hxl, hf⟩ := DataW.trod_struct Try.underlying122 h
  have hl5 : cs.length = 3 := hl.trans (by kernel_rfl)
  match cs, hl5 with
  | [a, b, c], _ =>
    match xs, hxl with
    | [x0, x1, x2], _ =>
      have c3 : Try.prog.cellsOf 3 = 1 := by kernel_rfl
      have c4 : Try.prog.cellsOf 120 = 1 := by kernel_rfl
      have h0 := hf 0 _ rfl
      have h1 := hf 1 _ rfl
      have h2 := hf 2 _ rfl
      simp [c3, c4] at h0 h1 h2
      obtain ⟨k, e0, _, _⟩ := DataW.trod_int Try.underlying3 h0
      obtain ⟨v, e1, _, _⟩ := DataW.trod_int Try.underlying3 h1
      obtain ⟨A, cc, m, ns, e2, hm, _, hr, hp⟩ := trod_list (wf := bytesWf (H := H)) rowByte (by kernel_rfl) encByte.len (fun h => trod_byte h) h2
      simp at e0 e1 e2
      refine ⟨k, v, A, cc, m, ns, by rw [e0, e1, e2], hm, hr, fun hw => ?_⟩
      refine (pay_weight Try.underlying120 hp fun q hq => hw q ?_).1
      rw [hx]
      simp only [DataW.weights, Try.underlying122]
      exact DataW.weights_mem_each (j := 2) (t := 120) (d := x2.1) rfl rfl q hq
/-- What a row's data tells. -/
structure SeenWf (W : World) (a : DSeen) (d : DataW H) : Prop where
  value : a.s.ent.op.value.size ≤ 9223372036854775807
  nest : NestD W W.heap.size a
  sized : (∀ m ∈ d.weights Try.prog 124, m ≤ reachBytes) → a.log.length * Try.prog.bytesOf 119 ≤ reachBytes ∧ a.bytes.length * Try.prog.bytesOf 5 ≤ reachBytes
set_option maxRecDepth 100000 in
set_option maxHeartbeats 4000000 in
theorem trod_seen (h : DataW.trod enc Try.prog W 0 (fun _ => true) true fuel 124 cs = some x) : ∃ a : DSeen, cs = a.cells ∧ SeenWf W a x.1 := by
  obtain ⟨xs, n, _, hx, hl, hxl, hf⟩ := DataW.trod_struct Try.underlying124 h
  have hl5 : cs.length = 19 := hl.trans (by kernel_rfl)
  match cs, hl5 with
  | [a0, a1, a2, a3, a4, a5, a6, a7, a8, a9, a10, a11, a12, a13, a14, a15, a16, a17, a18], _ =>
    match xs, hxl with
    | [x0, x1, x2, x3, x4, x5, x6, x7, x8, x9], _ =>
      have c0 : Try.prog.cellsOf 114 = 1 := by kernel_rfl
      have c3 : Try.prog.cellsOf 3 = 1 := by kernel_rfl
      have c5 : Try.prog.cellsOf 117 = 2 := by kernel_rfl
      have c6 : Try.prog.cellsOf 119 = 5 := by kernel_rfl
      have c7 : Try.prog.cellsOf 40 = 3 := by kernel_rfl
      have c8 : Try.prog.cellsOf 75 = 1 := by kernel_rfl
      have c9 : Try.prog.cellsOf 122 = 3 := by kernel_rfl
      have h0 := hf 0 _ rfl
      have h1 := hf 1 _ rfl
      have h2 := hf 2 _ rfl
      have h3 := hf 3 _ rfl
      have h4 := hf 4 _ rfl
      have h5 := hf 5 _ rfl
      have h6 := hf 6 _ rfl
      have h7 := hf 7 _ rfl
      have h8 := hf 8 _ rfl
      have h9 := hf 9 _ rfl
      clear hf h
      simp [c0, c3, c5, c6, c7, c8, c9] at h0 h1 h2 h3 h4 h5 h6 h7 h8 h9
      obtain ⟨v0, e0, _, _⟩ := DataW.trod_int Try.underlying114 h0
      obtain ⟨v1, e1, _, _⟩ := DataW.trod_int Try.underlying3 h1
      obtain ⟨v2, e2, _, _⟩ := DataW.trod_int Try.underlying3 h2
      obtain ⟨v3, e3, _, _⟩ := DataW.trod_int Try.underlying3 h3
      obtain ⟨v4, e4, _, _⟩ := DataW.trod_int Try.underlying3 h4
      obtain ⟨v5, v6, e5⟩ := trod_draw h5
      obtain ⟨en, e6, w6⟩ := trod_entry h6
      obtain ⟨re, e7, w7⟩ := trod_res h7
      obtain ⟨lA, lc, ln, lg, e8, hln, _, hlr, hlp⟩ := trod_list (wf := entryWf (H := H)) rowEntry (by kernel_rfl) encEntry.len (fun h => trod_entryD h) h8
      obtain ⟨fr, to, bA, bc, bn, bs, e9, hbn, hbr, hbw⟩ := trod_packet h9
      simp [Entry.cells] at e6
      simp [Res.cells] at e7
      simp at e0 e1 e2 e3 e4 e5 e8 e9
      obtain ⟨q0, q1, q2, q3, q4⟩ := e6
      obtain ⟨p0, p1, p2⟩ := e7
      obtain ⟨r0, r1⟩ := e5
      obtain ⟨s0, s1, s2⟩ := e9
      refine ⟨⟨⟨v0, v1, v2, v3, v4, v5, v6, en, re, lA, ln, lc, fr, to, bA, bn, bc⟩, lg, bs⟩, ?_, w6.op.value, ⟨hln, hbn, hlr, hbr⟩, fun hw => ?_⟩
      · rw [e0, e1, e2, e3, e4, r0, r1, q0, q1, q2, q3, q4, p0, p1, p2, e8, s0, s1, s2]; rfl
      · rw [hx] at hw
        simp only [DataW.weights, Try.underlying124] at hw
        exact ⟨(pay_weight Try.underlying75 hlp fun q hq => hw q (DataW.weights_mem_each (j := 8) (t := 75) (d := x8.1) rfl rfl q hq)).1,
          hbw fun q hq => hw q (DataW.weights_mem_each (j := 9) (t := 122) (d := x9.1) rfl rfl q hq)⟩
end
theorem rdN : Rdb 68 := ⟨by kernel_rfl, of_decide_eq_true (by kernel_rfl)⟩
end Go.Proofs.Ytmfidhlhcochoaa

namespace Go.Proofs.Ytmfidhlhcochoaa
open Go.ChangeShapes Go.WideShapes Go.ChangeAt Go.RowKit Go.Deep
set_option linter.unusedVariables false
set_option linter.unusedSimpArgs false

set_option maxRecDepth 100000 in
theorem open_seen {H : Type} {en : TypeId × Value → H} {W : World} {v : Value} {d : DataW H} {p : List MemPlace} {base : Nat} {r : Reach} (hv : Value.okWide Try.prog W r base 68 v) (h : DataW.Trod en Try.prog W 0 (fun _ => true) true 68 v d p) :
    ∃ A c n, ∃ xs : List DSeen, v = .slice A n c ∧ n = xs.length ∧ n ≤ c ∧ Rd DSeen.cells 19 W W.heap.size A xs ∧ Pay (SeenWf W) d xs := by
  obtain ⟨a0, len0, cap0, rfl⟩ := okWide_slice rowSeenD.under hv
  obtain ⟨fuel, hf⟩ := h
  obtain ⟨A, c, n, xs, hcs, hn, hc, hr, hp⟩ := trod_list rowSeenD (by kernel_rfl) encD.len (fun h => trod_seen h) hf
  simp [Value.cells] at hcs
  obtain ⟨rfl, rfl, rfl⟩ := hcs
  exact ⟨_, _, _, xs, rfl, hn, hc, hr, hp⟩
structure SeenFit (W : World) (x : DSeen) : Prop where
  value : x.s.ent.op.value.size ≤ 9223372036854775807
  nest : NestD W W.heap.size x
  log : x.log.length * 48 ≤ 140737488355328
  bytes : x.bytes.length ≤ 140737488355328
theorem sized_seen {H : Type} {W : World} {ts : List TypeId} {ds : List (DataW H)} {j : Nat} {d : DataW H} {xs : List DSeen} (h : (DataW.weightsEach Try.prog ts ds).all (· ≤ reachBytes) = true) (ht : ts[j]? = some 68) (hd : ds[j]? = some d) (hp : Pay (SeenWf W) d xs) :
    xs.length * 200 ≤ 140737488351232 ∧ ∀ x ∈ xs, SeenFit W x := by
  have hw : ∀ n ∈ d.weights Try.prog 68, n ≤ reachBytes := fun n hn => by
    have := List.all_eq_true.1 h _ (DataW.weights_mem_each ht hd n hn)
    simpa using this
  obtain ⟨h1, h2⟩ := pay_weight Try.underlying68 hp hw
  have b0 : Try.prog.bytesOf 124 = 200 := by kernel_rfl
  have b1 : Try.prog.bytesOf 119 = 48 := by kernel_rfl
  have b2 : Try.prog.bytesOf 5 = 1 := by kernel_rfl
  have hrb : reachBytes ≤ 140737488351232 := by unfold reachBytes; omega
  rw [b0] at h1
  refine ⟨by omega, fun x hx => ?_⟩
  obtain ⟨i, hi, rfl⟩ := List.mem_iff_getElem.1 hx
  obtain ⟨y, hy, hyw⟩ := h2 i _ (List.getElem?_eq_getElem hi)
  obtain ⟨h3, h4⟩ := hy.sized hyw
  rw [b1] at h3
  rw [b2] at h4
  exact ⟨hy.value, hy.nest, by omega, by omega⟩
theorem calls18_law (W : World) (A : Option Addr) (c n : Nat) (xs : List DSeen) (hn : n = xs.length) (_ : n ≤ c) (hrd : Rd DSeen.cells 19 W W.heap.size A xs) (hs : xs.length * 200 ≤ 140737488351232 ∧ ∀ x ∈ xs, SeenFit W x) :
    Calls Try.prog 7 #[.slice A n c] W fun e w' => e = .returned (.bool true) ∧ Below W.heap.size W w' :=
  calls18_calls A c n xs hn W (by have := hs.1; omega) (fun x hx => (hs.2 x hx).log) (fun x hx => (hs.2 x hx).bytes) (fun x hx => (hs.2 x hx).value) hrd (fun x hx => (hs.2 x hx).nest)
end Go.Proofs.Ytmfidhlhcochoaa
