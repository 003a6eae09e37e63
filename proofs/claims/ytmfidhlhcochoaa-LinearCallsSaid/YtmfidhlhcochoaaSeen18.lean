/- amnesiaplain: copies and comparisons of bytes; a packet's copy. Conditions: lengths within Go's own limits.
amnesiaplain: a packet's copy. Conditions: lengths within Go's own limits.
Rows that are seen, with the lists that their slices read; their copies. Conditions: none. -/
import Derived.Test.YtmfidhlhcochoaaPlain
import Derived.Test.YtmfidhlhcochoaaCallsPlain
import Derived.Laws.BytesString
import Derived.Test.YtmfidhlhcochoaaCalls18
namespace Go.Proofs.Ytmfidhlhcochoaa
open Go.RowKit
set_option linter.unusedVariables false
set_option linter.unusedSimpArgs false

def byteC (b : Int) : List Value := [.int .u8 b]
theorem encByte : Enc byteC 1 := ⟨fun _ => rfl, fun x u hu => by simp [byteC] at hu; subst hu; rfl⟩
theorem rowByte : RowT Try.prog 120 5 1 1 := RowT.of (z := .int .u8 0) Try.underlying120 (by kernel_rfl) rfl (by omega)
theorem flat_byte (ns : List Int) : flat byteC ns = ns.map (Value.int .u8) := by
  induction ns with
  | nil => rfl
  | cons n ns ih => simpa [flat, byteC] using ih

theorem copyBytes (A : Option Addr) (c n : Nat) (xs : List Int) (hn : n = xs.length) (w : World) (hb : xs.length ≤ 140737488355328) (ha : Rd byteC 1 w w.heap.size A xs) :
    Calls Try.prog 91 #[.slice A n c] w fun e w' => ∃ A' c', e = .returned (.slice A' n c') ∧ Made byteC 1 5 w.heap.size w' (.slice A' n c') xs ∧ Below w.heap.size w w' := by
  subst hn
  go_enter Try.func91, Try.ntmps91
  have hl : xs.length ≤ maxLen := by unfold maxLen; omega
  go_wp2_with (at_builtin; refine wpList_app (v := .slice none 0 0) (xs := []) rowByte encByte rfl (.const (.slice none 0 0)) (.tmp 3) rfl w.heap.size rfl (Made.nil _ _ _) rfl rfl ha (by simpa using hb) (by simpa using hl) (Nat.le_refl _) ?_; intro v1 w1 hm1 hg1 hat1)
  go_ret
  simp only [List.nil_append] at hm1
  obtain ⟨A', c', rfl, hc⟩ := hm1.form
  exact ⟨A', c', rfl, hm1, (Below.refl _ _).grown hg1 (Nat.le_refl _) (by simp [Value.ownBlock])⟩

def strOf (ns : List Int) : ByteArray := ns.foldl (fun r n => r.push (UInt8.ofNat n.toNat)) ByteArray.empty
theorem run_str (w : World) (A : Option Addr) (c : Nat) (ns : List Int) {B : Nat} (ha : Rd byteC 1 w B A ns) :
    (convert 120 9 (.slice A ns.length c)).run Try.prog w = .ok (.string (strOf ns)) w := by
  rw [run_convert_bytes_string w _ _ _ A ns.length c Try.underlying120 Try.underlying5 Try.underlying9]
  cases A with
  | none => rw [ha.none_]; rfl
  | some ad =>
    refine run_bytesToString w ad _ c ns ?_
    have hc : At w ad (flat byteC ns) := Rd.flatAt (enc := byteC) (k := 1) (fun _ => rfl) (by omega) ha
    have h := run_loadCells_list (P := Try.prog) w ad _ hc
    rw [flat_byte] at h
    simpa using h
theorem wpList_str {w : World} {ops : Array Oper} {rest : List Oper} {o : Oper} {a : Act} {Q : Exit → Act → World → Prop} (hgd : o.guard = none) (s : Operand)
    (ho : o.op = .convert 120 9 s) {A : Option Addr} {n c : Nat} {ns : List Int} (hn : n = ns.length) (hs : a.eval s = .slice A n c) {B : Nat} (ha : Rd byteC 1 w B A ns)
    (h : wpList Try.prog ops Q rest (a.put o.dst (.string (strOf ns))) w) : wpList Try.prog ops Q (o :: rest) a w :=
  wpList_plain hgd fun _ hK => by
    subst hn
    unfold Oper.wp execOp
    simp only [ho, hs, Sem.run_bind, Sem.run_pure, Result.andThen_ok, run_str w A c ns ha]
    exact hK _ _ h
/-- A guard for the walk's arms: the next operation is a conversion. -/
theorem at_convert {P : Program} {ops : Array Oper} {Q : Exit → Act → World → Prop} {dst : Option Tmp} {ty ty2 ty3 : TypeId} {x : Operand} {pos : String} {after : Array Edge} {rest : List Oper} {a : Act} {w : World}
    (h : wpList P ops Q ({ dst := dst, op := .convert ty ty3 x, type := ty2, pos := pos, after := after, guard := none } :: rest) a w) :
    wpList P ops Q ({ dst := dst, op := .convert ty ty3 x, type := ty2, pos := pos, after := after, guard := none } :: rest) a w := h
theorem sameBytes (A B : Option Addr) (c d n : Nat) (xs : List Int) (hn : n = xs.length) (w : World) (ha : Rd byteC 1 w w.heap.size A xs) (hb : Rd byteC 1 w w.heap.size B xs) :
    Calls Try.prog 67 #[.slice A n c, .slice B n d] w fun e w' => e = .returned (.bool true) ∧ w' = w := by
  subst hn
  go_enter Try.func67, Try.ntmps67
  go_wp2_with (with_reducible refine at_convert ?_; first | refine wpList_str rfl (.tmp 5) rfl rfl rfl ha ?_ | go_loud (refine wpList_str rfl (.tmp 7) rfl rfl rfl hb ?_))
  go_ret
  exact ⟨by simp, rfl⟩
end Go.Proofs.Ytmfidhlhcochoaa

namespace Go.Proofs.Ytmfidhlhcochoaa
open Go.RowKit
set_option linter.unusedVariables false
set_option linter.unusedSimpArgs false

theorem at_row18 {w : World} {b : Nat} {cs : Array Value} {t : TypeId} (h : w.heap[b]? = some (.cells cs t (0, 0))) : At w ⟨b, 0, none⟩ cs.toList := fun j u hu => by
  have hc : (⟨b, 0, none⟩ : Addr).add j = ⟨b, j, none⟩ := by
    unfold Addr.add
    split
    · next e => subst e; rfl
    · simp
  rw [hc, cell_of_row w b j _ _ _ h]
  simpa using hu
theorem sizePacket : (Try.prog.info? 122).map (·.size) = some 3 := by kernel_rfl
theorem packet_end {fn : Func} {p : Tmp} (hres : fn.results = #[.cell p 122]) {R : Ending → World → Prop} {a : Act} {w : World} {B : Nat} {x y z : Value} {T : TypeId} (hp : a.tmps.getD p undef = .pointer (some ⟨B, 0, none⟩)) (hd : a.defers = [])
    (h : w.heap[B]? = some (.cells #[x, y, z] T (0, 0))) (hR : R (.returned (.agg #[x, y, z])) w) : bodyPost Try.prog fn R .ret a w :=
  bodyPost_ret (results_cell_row hres a.tmps w B T _ (0, 0) _ hp h Try.underlying122 rfl sizePacket) hd hR
theorem copyPacket (frm to : Int) (A : Option Addr) (c n : Nat) (xs : List Int) (hn : n = xs.length) (w : World) (hb : xs.length ≤ 140737488355328) (ha : Rd byteC 1 w w.heap.size A xs) :
    Calls Try.prog 63 #[.agg #[.int .i64 frm, .int .i64 to, .slice A n c]] w fun e w' => ∃ A' c', e = .returned (.agg #[.int .i64 frm, .int .i64 to, .slice A' n c']) ∧ Made byteC 1 5 w.heap.size w' (.slice A' n c') xs ∧ Below w.heap.size w w' := by
  subst hn
  have HA := Lib.hid ha
  clear ha
  go_enter Try.func63, Try.ntmps63
  go_upto_region 1 with fail
  obtain ⟨W2, hW2⟩ : ∃ W2, W2 = (w.alloc (.cells #[.int .i64 frm, .int .i64 to, .slice A xs.length c] 122)).alloc (.cells #[.int .i64 0, .int .i64 0, .slice none 0 0] 122) := ⟨_, rfl⟩
  rw [← hW2]
  have hr1 : W2.heap[w.heap.size]? = some (.cells #[.int .i64 frm, .int .i64 to, .slice A xs.length c] 122 (0, 0)) := by rw [hW2, heap_alloc_old _ _ (by simp)]; exact heap_alloc_new _ _
  have hr2 : W2.heap[w.heap.size + 1]? = some (.cells #[.int .i64 0, .int .i64 0, .slice none 0 0] 122 (0, 0)) := by
    rw [hW2]
    have := heap_alloc_new (w.alloc (.cells #[.int .i64 frm, .int .i64 to, .slice A xs.length c] 122)) (.cells #[.int .i64 0, .int .i64 0, .slice none 0 0] 122)
    simpa using this
  have hz2 : W2.heap.size = w.heap.size + 2 := by rw [hW2]; simp
  have hb2 : Below w.heap.size w W2 := by rw [hW2]; exact ((Below.refl _ _).alloc (Nat.le_refl _) _).alloc (by simp) _
  have q2 : W2.cell? ⟨w.heap.size, 2, none⟩ = some (.slice A xs.length c) := cell_of_row _ _ 2 _ _ _ hr1
  have HA2 := Lib.hid (HA.out.below hb2)
  have HB2 := Lib.hid hb2
  have HR1 := Lib.hid hr1
  have HR2 := Lib.hid hr2
  have HZ2 := Lib.hid hz2
  clear hW2 hb2 hr1 hr2 hz2
  go_wp2_with fail
  refine (copyBytes A c xs.length xs rfl W2 hb (HA2.out.more (by have := HZ2.out; omega))).mono ?_
  rintro e w3 ⟨A', c', rfl, hm3, hb3⟩
  have hr3 : w3.heap[w.heap.size]? = some (.cells #[.int .i64 frm, .int .i64 to, .slice A xs.length c] 122 (0, 0)) := (hb3.block _ (by have := HZ2.out; omega)).trans HR1.out
  have hr4 : w3.heap[w.heap.size + 1]? = some (.cells #[.int .i64 0, .int .i64 0, .slice none 0 0] 122 (0, 0)) := (hb3.block _ (by have := HZ2.out; omega)).trans HR2.out
  have HB3 := Lib.hid (HB2.out.trans (hb3.mono HB2.out.size))
  have HM3 := Lib.hid hm3
  have f3 : w3.cell? ⟨w.heap.size, 2, none⟩ = some (.slice A xs.length c) := cell_of_row _ _ 2 _ _ _ hr3
  have f3' := frozen_of_row w3 w.heap.size 2 _ _ hr3
  have HR3 := Lib.hid hr3
  have HR4 := Lib.hid hr4
  have HZ3 : Hid (w.heap.size + 2 ≤ w3.heap.size) := by have := hb3.size; have := HZ2.out; exact Lib.hid (by omega)
  clear hm3 hb3 HB2 HR1 HR2 q2 hr3 hr4
  go_upto_region 2 with fail
  obtain ⟨W4, hW4⟩ : ∃ W4, W4 = w3.setCell ⟨w.heap.size, 2, none⟩ (.slice A' xs.length c') := ⟨_, rfl⟩
  rw [← hW4]
  have hr5 : W4.heap[w.heap.size]? = some (.cells #[.int .i64 frm, .int .i64 to, .slice A' xs.length c'] 122 (0, 0)) := by rw [hW4]; exact heap_setCell_same _ _ _ _ _ _ HR3.out
  have hr6 : W4.heap[w.heap.size + 1]? = some (.cells #[.int .i64 0, .int .i64 0, .slice none 0 0] 122 (0, 0)) := by rw [hW4, heap_setCell_other _ _ _ _ (by simp)]; exact HR4.out
  have hz4 : w.heap.size + 2 ≤ W4.heap.size := by rw [hW4]; simpa using HZ3.out
  have HB4 := Lib.hid (by rw [hW4]; exact HB3.out.setCell (Nat.le_refl _) _ : Below w.heap.size w W4)
  have hm4 : Made byteC 1 5 W2.heap.size W4 (.slice A' xs.length c') xs := HM3.out.same fun b hb => by
    rw [hW4]
    exact heap_setCell_other _ _ _ _ (by have := (HM3.out.lt b hb).1; have := HZ2.out; simp only; omega)
  have hat : At W4 ⟨w.heap.size, 0, none⟩ [.int .i64 frm, .int .i64 to, .slice A' xs.length c'] := at_row18 hr5
  have HAT := Lib.hid hat
  have HM4 := Lib.hid hm4
  have HR6 := Lib.hid hr6
  have HZ4 := Lib.hid hz4
  clear hW4 hr5 hr6 hz4 hm4 hat HB3 HM3 f3 f3' HR3 HR4 HZ3
  have c0 : W4.cell? ⟨w.heap.size + 1, 0, none⟩ = some (.int .i64 0) := cell_of_row _ _ 0 _ _ _ HR6.out
  have c1 : W4.cell? ⟨w.heap.size + 1, 1, none⟩ = some (.int .i64 0) := cell_of_row _ _ 1 _ _ _ HR6.out
  have c2 : W4.cell? ⟨w.heap.size + 1, 2, none⟩ = some (.slice none 0 0) := cell_of_row _ _ 2 _ _ _ HR6.out
  have f0 := frozen_of_row W4 (w.heap.size + 1) 0 _ _ HR6.out
  have f1 := frozen_of_row W4 (w.heap.size + 1) 1 _ _ HR6.out
  have f2 := frozen_of_row W4 (w.heap.size + 1) 2 _ _ HR6.out
  go_wp2_with (with_reducible refine at_load ?_; go_loud (refine wpList_load_at rfl 122 (.tmp 1) rfl rfl _ _ HAT.out Try.underlying122 rfl (by kernel_rfl) ?_))
  obtain ⟨W5, hW5⟩ : ∃ W5, W5 = ((W4.setCell ⟨w.heap.size + 1, 0, none⟩ (.int .i64 frm)).setCell ⟨w.heap.size + 1, 1, none⟩ (.int .i64 to)).setCell ⟨w.heap.size + 1, 2, none⟩ (.slice A' xs.length c') := ⟨_, rfl⟩
  rw [← hW5]
  have hr7 : W5.heap[w.heap.size + 1]? = some (.cells #[.int .i64 frm, .int .i64 to, .slice A' xs.length c'] 122 (0, 0)) := by rw [hW5]; exact heap_setCell_same _ _ _ _ _ _ (heap_setCell_same _ _ _ _ _ _ (heap_setCell_same _ _ _ _ _ _ HR6.out))
  have HM5 : Hid (Made byteC 1 5 w.heap.size W5 (.slice A' xs.length c') xs) := Lib.hid ((HM4.out.same fun b hb => by
    have h1 : b ≠ w.heap.size + 1 := by have := (HM4.out.lt b hb).1; have := HZ2.out; omega
    rw [hW5, heap_setCell_other _ _ _ _ h1, heap_setCell_other _ _ _ _ h1, heap_setCell_other _ _ _ _ h1]).base' (by have := HZ2.out; omega))
  have HB5 : Hid (Below w.heap.size w W5) := Lib.hid (by rw [hW5]; exact ((HB4.out.setCell (Nat.le_succ _) _).setCell (Nat.le_succ _) _).setCell (Nat.le_succ _) _)
  have HR7 := Lib.hid hr7
  clear hW5 hr7 HM4 HB4 HR6 HZ4 HAT c0 c1 c2 f0 f1 f2
  refine packet_end rfl (B := w.heap.size + 1) rfl rfl HR7.out ?_
  exact ⟨A', c', by first | rfl | simp, HM5.out, HB5.out⟩
end Go.Proofs.Ytmfidhlhcochoaa

namespace Go.Proofs.Ytmfidhlhcochoaa
open Go.RowKit
set_option linter.unusedVariables false
set_option linter.unusedSimpArgs false

/-- A row, its log, and its packet's bytes. -/
structure DSeen where
  s : Seen
  log : List Entry
  bytes : List Int
def DSeen.cells (x : DSeen) : List Value := x.s.cells
theorem encD : Enc DSeen.cells 19 := ⟨fun _ => rfl, fun x u hu => encSeen.one x.s u hu⟩
/-- The row's slices read its lists. -/
structure NestD (w : World) (B : Nat) (x : DSeen) : Prop where
  ln : x.s.ln = x.log.length
  bn : x.s.bn = x.bytes.length
  log : Rd Entry.cells 5 w B x.s.lA x.log
  bytes : Rd byteC 1 w B x.s.bA x.bytes
theorem NestD.below {w w' : World} {B : Nat} {x : DSeen} (h : NestD w B x) (hb : Below B w w') : NestD w' B x := ⟨h.ln, h.bn, h.log.below hb, h.bytes.below hb⟩
theorem NestD.more {w : World} {B B' : Nat} {x : DSeen} (h : NestD w B x) (hb : B ≤ B') : NestD w B' x := ⟨h.ln, h.bn, h.log.more hb, h.bytes.more hb⟩
/-- The row's slices are in blocks of their own. -/
structure MineD (base : Nat) (w : World) (x : DSeen) : Prop where
  log : Made Entry.cells 5 119 base w (.slice x.s.lA x.s.ln x.s.lc) x.log
  bytes : Made byteC 1 5 base w (.slice x.s.bA x.s.bn x.s.bc) x.bytes
theorem MineD.nest {base : Nat} {w : World} {x : DSeen} (h : MineD base w x) : NestD w w.heap.size x := by
  obtain ⟨A1, c1, h1, _⟩ := h.log.form
  obtain ⟨A2, c2, h2, _⟩ := h.bytes.form
  injection h1 with _ h1 _
  injection h2 with _ h2 _
  exact ⟨h1, h2, h.log.rd' encEntry.len, h.bytes.rd' encByte.len⟩
theorem MineD.below {base : Nat} {w w' : World} {x : DSeen} (h : MineD base w x) (hb : Below w.heap.size w w') : MineD base w' x := ⟨h.log.below hb fun b e => (h.log.lt b e).2, h.bytes.below hb fun b e => (h.bytes.lt b e).2⟩
theorem MineD.alloc {base : Nat} {w : World} {x : DSeen} (h : MineD base w x) (o : Obj) : MineD base (w.alloc o) x := ⟨h.log.alloc o, h.bytes.alloc o⟩
theorem MineD.base {base base' : Nat} {w : World} {x : DSeen} (h : MineD base w x) (hb : base' ≤ base) : MineD base' w x := ⟨h.log.base' hb, h.bytes.base' hb⟩
theorem MineD.grown {base base' : Nat} {w w' : World} {x : DSeen} {v : Value} {xs : List DSeen} (h : MineD base w x) (hm : Made DSeen.cells 19 124 base' w v xs) (hg : w.grownBy w' v.ownBlock) : MineD base w' x := by
  have key : ∀ (b : Nat) (t : TypeId) (cs : Array Value), w.heap[b]? = some (Obj.cells cs t (0, 0)) → t ≠ 124 → w'.heap[b]? = w.heap[b]? := fun b t cs hb ht => hg.block b (Array.getElem?_eq_some_iff.1 hb).1 fun e => by
    obtain ⟨cs', hc⟩ := hm.cell_block (b := b) (by first | exact e | exact e.symm)
    rw [hb] at hc
    injection hc with hc
    injection hc with _ hc
    exact ht hc
  exact ⟨h.log.same fun b e => by obtain ⟨cs, hc⟩ := h.log.cell_block e; exact key b _ cs hc (by decide), h.bytes.same fun b e => by obtain ⟨cs, hc⟩ := h.bytes.cell_block e; exact key b _ cs hc (by decide)⟩
/-- A row without the places of its slices. -/
def DSeen.plain (x : DSeen) : DSeen := { x with s := { x.s with lA := none, lc := 0, bA := none, bc := 0 } }
/-- A row with other places of its slices. -/
def DSeen.moved (x : DSeen) (A1 : Option Addr) (c1 : Nat) (A2 : Option Addr) (c2 : Nat) : DSeen := { x with s := { x.s with lA := A1, lc := c1, bA := A2, bc := c2 } }
theorem plain_moved (x : DSeen) (A1 : Option Addr) (c1 : Nat) (A2 : Option Addr) (c2 : Nat) : (x.moved A1 c1 A2 c2).plain = x.plain := rfl
theorem rowSeenD : RowT Try.prog 68 124 19 200 := rowSeen
end Go.Proofs.Ytmfidhlhcochoaa
