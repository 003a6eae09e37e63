/- The book: what is put into it, and that Apart answers true. Conditions: lists in memory of their own, no two in one block; lengths within Go's own limits. -/
import Derived.Test.YtdkdddkhfonjmaaBookPlain
import Derived.Test.YtdkdddkhfonjmaaOpen3
namespace Go.Proofs.Ytdkdddkhfonjmaa
open Go.RowKit
set_option linter.unusedVariables false
set_option linter.unusedSimpArgs false

theorem rowsEntryB : RowT Try.prog 42 88 1 24 := RowT.of (z := .slice none 0 0) Try.underlying42 (by kernel_rfl) rfl (by omega)
theorem rowsCellB : RowT Try.prog 43 22 1 24 := RowT.of (z := .slice none 0 0) Try.underlying43 (by kernel_rfl) rfl (by omega)
theorem rowsRowB : RowT Try.prog 44 93 1 24 := RowT.of (z := .slice none 0 0) Try.underlying44 (by kernel_rfl) rfl (by omega)
theorem rowsResB : RowT Try.prog 45 52 1 24 := RowT.of (z := .slice none 0 0) Try.underlying45 (by kernel_rfl) rfl (by omega)

/-- The book at block b: its lists of entries, cells, rows, results; its other lists are nil. -/
structure BookC (w : World) (b base : Nat) (vE vC vR vS : Value) (LE LC LR LS : List Bk) : Prop where
  at_ : w.heap[b]? = some (.cells #[.slice none 0 0, .slice none 0 0, .slice none 0 0, vE, vC, vR, vS, .slice none 0 0, .slice none 0 0, .slice none 0 0] 50 (0, 0))
  e : Made slc 1 88 base w vE (LE.map Bk.x)
  c : Made slc 1 22 base w vC (LC.map Bk.x)
  r : Made slc 1 93 base w vR (LR.map Bk.x)
  s : Made slc 1 52 base w vS (LS.map Bk.x)
/-- The blocks of the book's own: its struct, and its rows of slices. -/
def BookS (w : World) (b base : Nat) (j : Nat) : Prop := j = b ∨ base ≤ j ∧ ∃ cs t, w.heap[j]? = some (.cells cs t (0, 0)) ∧ (t = 88 ∨ t = 22 ∨ t = 93 ∨ t = 52)
section
variable {w w' : World} {b base : Nat} {vE vC vR vS : Value} {LE LC LR LS : List Bk}
theorem BookC.new (w : World) (base : Nat) : BookC (w.alloc (.cells #[.slice none 0 0, .slice none 0 0, .slice none 0 0, .slice none 0 0, .slice none 0 0, .slice none 0 0, .slice none 0 0, .slice none 0 0, .slice none 0 0, .slice none 0 0] 50)) w.heap.size base (.slice none 0 0) (.slice none 0 0) (.slice none 0 0) (.slice none 0 0) [] [] [] [] :=
  ⟨heap_alloc_new w _, Made.nil _ _ _, Made.nil _ _ _, Made.nil _ _ _, Made.nil _ _ _⟩
theorem BookC.lt (h : BookC w b base vE vC vR vS LE LC LR LS) : b < w.heap.size := (Array.getElem?_eq_some_iff.1 h.at_).1
/-- Whatever keeps the book's own blocks keeps the book. -/
theorem BookC.keep (h : BookC w b base vE vC vR vS LE LC LR LS) (hk : ∀ j, BookS w b base j → w'.heap[j]? = w.heap[j]?) : BookC w' b base vE vC vR vS LE LC LR LS := by
  refine ⟨(hk b (.inl rfl)).trans h.at_, h.e.same fun j hj => ?_, h.c.same fun j hj => ?_, h.r.same fun j hj => ?_, h.s.same fun j hj => ?_⟩
  · obtain ⟨cs, q⟩ := h.e.cell_block hj; exact hk j (.inr ⟨(h.e.lt j hj).1, cs, _, q, .inl rfl⟩)
  · obtain ⟨cs, q⟩ := h.c.cell_block hj; exact hk j (.inr ⟨(h.c.lt j hj).1, cs, _, q, .inr (.inl rfl)⟩)
  · obtain ⟨cs, q⟩ := h.r.cell_block hj; exact hk j (.inr ⟨(h.r.lt j hj).1, cs, _, q, .inr (.inr (.inl rfl))⟩)
  · obtain ⟨cs, q⟩ := h.s.cell_block hj; exact hk j (.inr ⟨(h.s.lt j hj).1, cs, _, q, .inr (.inr (.inr rfl))⟩)
theorem BookS.lt (h : BookC w b base vE vC vR vS LE LC LR LS) {j : Nat} (q : BookS w b base j) : j < w.heap.size := by
  rcases q with rfl | ⟨_, cs, t, q, _⟩
  · exact h.lt
  · exact (Array.getElem?_eq_some_iff.1 q).1
theorem BookC.below (h : BookC w b base vE vC vR vS LE LC LR LS) (hb : Below w.heap.size w w') : BookC w' b base vE vC vR vS LE LC LR LS := h.keep fun j q => hb.block j (BookS.lt h q)
/-- A block of another type is none of the book's. -/
theorem BookS.ne {j : Nat} (q : BookS w b base j) (hb : j ≠ b) {cs : Array Value} {t : TypeId} (h : w.heap[j]? = some (.cells cs t (0, 0))) (ht : t ≠ 88 ∧ t ≠ 22 ∧ t ≠ 93 ∧ t ≠ 52) : False := by
  rcases q with q | ⟨_, cs', t', q, q'⟩
  · exact hb q
  · rw [h] at q
    cases q
    rcases q' with q' | q' | q' | q'
    · exact ht.1 q'
    · exact ht.2.1 q'
    · exact ht.2.2.1 q'
    · exact ht.2.2.2 q'
end

/-- The lists that a value adds to the book: none, if it is empty. -/
def bkOf : Value → List Bk
  | .slice (some ad) n c => if n = 0 then [] else [⟨ad.block, n, c⟩]
  | _ => []


set_option maxRecDepth 100000 in
set_option maxHeartbeats 1600000 in
theorem bookCellP (b base : Nat) (vE vC vR vS : Value) (LE LC LR LS : List Bk) (A : Option Addr) (n c : Nat) (hA : ∀ ad, A = some ad → ∃ g, ad = ⟨g, 0, none⟩) (hA0 : A = none → n = 0) (w : World) (h : BookC w b base vE vC vR vS LE LC LR LS) (hl : LC.length ≤ 900) (hbase : base ≤ w.heap.size) :
    Calls Try.prog 14 #[.pointer (some ⟨b, 0, none⟩), .slice A n c] w fun e w' => e = .returned (.tuple #[]) ∧ (∃ v', BookC w' b base vE v' vR vS LE (LC ++ bkOf (.slice A n c)) LR LS ∧ ∀ j, v'.ownBlock = some j → vC.ownBlock = some j ∨ w.heap.size ≤ j) ∧ Kept (fun j => j = b ∨ vC.ownBlock = some j) w w' := by
  cases n with
  | zero =>
    have e0 : bkOf (.slice A 0 c) = [] := by cases A <;> simp [bkOf]
    rw [e0]
    have H := Lib.hid h
    clear h e0
    go_enter Try.func14, Try.ntmps14
    go_wp2_with fail
    go_end0
    exact ⟨rfl, ⟨vC, by first | exact H.out | (rw [List.append_nil]; exact H.out), fun j e => .inl e⟩, Kept.refl _ _⟩
  | succ n =>
    cases A with
    | none => exact absurd (hA0 rfl) (by omega)
    | some ad =>
      obtain ⟨g, rfl⟩ := hA ad rfl
      have e0 : bkOf (.slice (some ⟨g, 0, none⟩) (n + 1) c) = [⟨g, n + 1, c⟩] := by simp [bkOf]
      rw [e0]
      have H := Lib.hid h
      have hm := h.c
      obtain ⟨Av, cv, hv, hcv⟩ := hm.form
      have hlen : (LC.map Bk.x).length = LC.length := List.length_map _
      rw [hlen] at hv hcv
      subst hv
      have g4 : w.cell? ⟨b, 4, none⟩ = some (.slice Av LC.length cv) := cell_of_row w b 4 _ _ _ h.at_
      have HM1 := Lib.hid (hm.alloc (.cells #[.slice (some ⟨g, 0, none⟩) (n + 1) c] 22))
      have HR1 := Lib.hid (rd_one encSlc w (Bk.x ⟨g, n + 1, c⟩) #[.slice (some ⟨g, 0, none⟩) (n + 1) c] rfl 22)
      have HLN := Lib.hid hlen
      obtain ⟨N, hN⟩ : ∃ N, N = n + 1 := ⟨_, rfl⟩
      have hN0 : 0 < N := by omega
      have hN1 : decide ((0:Int) < (N:Int)) = true := decide_eq_true (by omega)
      rw [← hN] at HM1 HR1 ⊢
      have HLT : Hid (b < w.heap.size) := h.lt
      clear h hm hlen e0 hA hA0 hN
      go_enter Try.func14, Try.ntmps14
      go_wp2_with (at_builtin; refine wpList_app (v := .slice Av LC.length cv) (xs := LC.map Bk.x) (ys := [Bk.x ⟨g, N, c⟩]) rowsCellB encSlc rfl (.tmp 11) (.tmp 13) rfl base rfl HM1.out rfl rfl HR1.out (by rw [HLN.out]; simp only [List.length_singleton]; omega) (by rw [HLN.out]; unfold maxLen; simp only [List.length_singleton]; omega) (by simp; omega) ?_; intro v3 w3 hm3 hg3 hat3; obtain ⟨A3, c3, hv3, hc3⟩ := hm3.form; rw [List.length_append, List.length_singleton, HLN.out] at hv3; subst hv3; have HM3 := Lib.hid hm3; have HG3 := Lib.hid hg3; have HAT := Lib.hid hat3; have hgb3 := (hg3.block b (by simp; have := HLT.out; omega) (fun e => by obtain ⟨cs, q⟩ := HM1.out.cell_block e.symm; rw [heap_alloc_old _ _ HLT.out, H.out.at_] at q; cases q)).trans ((heap_alloc_old _ _ HLT.out).trans H.out.at_); have f3 : w3.frozen? ⟨b, 4, none⟩ = false := frozen_of_row w3 b 4 _ _ hgb3; have g3 := cell_of_row w3 b 4 _ _ _ hgb3; have HGB3 := Lib.hid hgb3; clear hm3 hg3 hat3 hgb3)
      go_end0
      refine ⟨rfl, ⟨.slice A3 (LC.length + 1) c3, ?_, fun j e => ?_⟩, ?_⟩
      · have hk : ∀ j, BookS w b base j → j ≠ b → (Value.slice Av LC.length cv).ownBlock ≠ some j → (w3.setCell ⟨b, 4, none⟩ (.slice A3 (LC.length + 1) c3)).heap[j]? = w.heap[j]? := fun j q hb hne =>
          (Below.heap_setCell _ _ _ _ hb).trans ((HG3.out.block j (by simp; have := BookS.lt H.out q; omega) (fun e => hne e.symm)).trans (heap_alloc_old _ _ (BookS.lt H.out q)))
        have hneB : ∀ (j : Nat) (cs : Array Value) (t : TypeId), t ≠ 50 → w.heap[j]? = some (.cells cs t (0, 0)) → j ≠ b := fun j cs t ht q e => by
          subst e
          rw [H.out.at_] at q
          cases q
          exact ht rfl
        refine ⟨?_, ?_, ?_, ?_, ?_⟩
        · rw [heap_setCell_same _ _ _ _ _ _ HGB3.out]; rfl
        · refine H.out.e.same fun j hj => ?_
          obtain ⟨cs, q⟩ := H.out.e.cell_block hj
          refine hk j (.inr ⟨(H.out.e.lt j hj).1, cs, _, q, .inl rfl⟩) (hneB j _ _ (by decide) q) fun e => ?_
          obtain ⟨cs', q'⟩ := H.out.c.cell_block e
          rw [q] at q'; cases q'
        · rw [List.map_append]
          exact HM3.out.same fun j hj => Below.heap_setCell _ _ _ _ fun e => by
            obtain ⟨cs, q⟩ := HM3.out.cell_block hj
            rw [show j = b from e, HGB3.out] at q; cases q
        · refine H.out.r.same fun j hj => ?_
          obtain ⟨cs, q⟩ := H.out.r.cell_block hj
          refine hk j (.inr ⟨(H.out.r.lt j hj).1, cs, _, q, .inr (.inr (.inl rfl))⟩) (hneB j _ _ (by decide) q) fun e => ?_
          obtain ⟨cs', q'⟩ := H.out.c.cell_block e
          rw [q] at q'; cases q'
        · refine H.out.s.same fun j hj => ?_
          obtain ⟨cs, q⟩ := H.out.s.cell_block hj
          refine hk j (.inr ⟨(H.out.s.lt j hj).1, cs, _, q, .inr (.inr (.inr rfl))⟩) (hneB j _ _ (by decide) q) fun e => ?_
          obtain ⟨cs', q'⟩ := H.out.c.cell_block e
          rw [q] at q'; cases q'
      · rcases HAT.out with q | q
        · exact .inl (q ▸ e)
        · rw [q] at e
          cases e
          exact .inr (by simp)
      · refine ⟨HG3.out.os, HG3.out.tape, HG3.out.output, ?_, fun j hj hn => ?_⟩
        · have h9 := HG3.out.size
          simp [World.setCell] at h9 ⊢
          omega
        · refine (Below.heap_setCell _ _ _ _ (fun e => hn (.inl e))).trans ((HG3.out.block j (by simp; omega) (fun e => ?_)).trans (heap_alloc_old _ _ hj))
          exact hn (.inr e.symm)
theorem bookCell (b base : Nat) (vE vC vR vS : Value) (LE LC LR LS : List Bk) (A : Option Addr) (n c : Nat) (hA : ∀ ad, A = some ad → ∃ g, ad = ⟨g, 0, none⟩) (hA0 : A = none → n = 0) (w : World) (h : BookC w b base vE vC vR vS LE LC LR LS) (hl : LC.length ≤ 900) (hbase : base ≤ w.heap.size) :
    Calls Try.prog 14 #[.pointer (some ⟨b, 0, none⟩), .slice A n c] w fun e w' => e = .returned (.tuple #[]) ∧ (∃ v', BookC w' b base vE v' vR vS LE (LC ++ bkOf (.slice A n c)) LR LS) ∧ Kept (BookS w b base) w w' :=
  (bookCellP b base vE vC vR vS LE LC LR LS A n c hA hA0 w h hl hbase).mono fun e w' ⟨h1, ⟨v', h2, _⟩, h3⟩ => ⟨h1, ⟨v', h2⟩, h3.mono fun j _ q => by
    rcases q with q | q
    · exact .inl q
    · obtain ⟨cs, q'⟩ := h.c.cell_block q
      exact .inr ⟨(h.c.lt j q).1, cs, _, q', .inr (.inl rfl)⟩⟩


set_option maxRecDepth 100000 in
set_option maxHeartbeats 1600000 in
theorem bookResP (b base : Nat) (vE vC vR vS : Value) (LE LC LR LS : List Bk) (A : Option Addr) (n c : Nat) (hA : ∀ ad, A = some ad → ∃ g, ad = ⟨g, 0, none⟩) (hA0 : A = none → n = 0) (w : World) (h : BookC w b base vE vC vR vS LE LC LR LS) (hl : LS.length ≤ 900) (hbase : base ≤ w.heap.size) :
    Calls Try.prog 15 #[.pointer (some ⟨b, 0, none⟩), .slice A n c] w fun e w' => e = .returned (.tuple #[]) ∧ (∃ v', BookC w' b base vE vC vR v' LE LC LR (LS ++ bkOf (.slice A n c)) ∧ ∀ j, v'.ownBlock = some j → vS.ownBlock = some j ∨ w.heap.size ≤ j) ∧ Kept (fun j => j = b ∨ vS.ownBlock = some j) w w' := by
  cases n with
  | zero =>
    have e0 : bkOf (.slice A 0 c) = [] := by cases A <;> simp [bkOf]
    rw [e0]
    have H := Lib.hid h
    clear h e0
    go_enter Try.func15, Try.ntmps15
    go_wp2_with fail
    go_end0
    exact ⟨rfl, ⟨vS, by first | exact H.out | (rw [List.append_nil]; exact H.out), fun j e => .inl e⟩, Kept.refl _ _⟩
  | succ n =>
    cases A with
    | none => exact absurd (hA0 rfl) (by omega)
    | some ad =>
      obtain ⟨g, rfl⟩ := hA ad rfl
      have e0 : bkOf (.slice (some ⟨g, 0, none⟩) (n + 1) c) = [⟨g, n + 1, c⟩] := by simp [bkOf]
      rw [e0]
      have H := Lib.hid h
      have hm := h.s
      obtain ⟨Av, cv, hv, hcv⟩ := hm.form
      have hlen : (LS.map Bk.x).length = LS.length := List.length_map _
      rw [hlen] at hv hcv
      subst hv
      have g4 : w.cell? ⟨b, 6, none⟩ = some (.slice Av LS.length cv) := cell_of_row w b 6 _ _ _ h.at_
      have HM1 := Lib.hid (hm.alloc (.cells #[.slice (some ⟨g, 0, none⟩) (n + 1) c] 52))
      have HR1 := Lib.hid (rd_one encSlc w (Bk.x ⟨g, n + 1, c⟩) #[.slice (some ⟨g, 0, none⟩) (n + 1) c] rfl 52)
      have HLN := Lib.hid hlen
      obtain ⟨N, hN⟩ : ∃ N, N = n + 1 := ⟨_, rfl⟩
      have hN0 : 0 < N := by omega
      have hN1 : decide ((0:Int) < (N:Int)) = true := decide_eq_true (by omega)
      rw [← hN] at HM1 HR1 ⊢
      have HLT : Hid (b < w.heap.size) := h.lt
      clear h hm hlen e0 hA hA0 hN
      go_enter Try.func15, Try.ntmps15
      go_wp2_with (at_builtin; refine wpList_app (v := .slice Av LS.length cv) (xs := LS.map Bk.x) (ys := [Bk.x ⟨g, N, c⟩]) rowsResB encSlc rfl (.tmp 11) (.tmp 13) rfl base rfl HM1.out rfl rfl HR1.out (by rw [HLN.out]; simp only [List.length_singleton]; omega) (by rw [HLN.out]; unfold maxLen; simp only [List.length_singleton]; omega) (by simp; omega) ?_; intro v3 w3 hm3 hg3 hat3; obtain ⟨A3, c3, hv3, hc3⟩ := hm3.form; rw [List.length_append, List.length_singleton, HLN.out] at hv3; subst hv3; have HM3 := Lib.hid hm3; have HG3 := Lib.hid hg3; have HAT := Lib.hid hat3; have hgb3 := (hg3.block b (by simp; have := HLT.out; omega) (fun e => by obtain ⟨cs, q⟩ := HM1.out.cell_block e.symm; rw [heap_alloc_old _ _ HLT.out, H.out.at_] at q; cases q)).trans ((heap_alloc_old _ _ HLT.out).trans H.out.at_); have f3 : w3.frozen? ⟨b, 6, none⟩ = false := frozen_of_row w3 b 6 _ _ hgb3; have g3 := cell_of_row w3 b 6 _ _ _ hgb3; have HGB3 := Lib.hid hgb3; clear hm3 hg3 hat3 hgb3)
      go_end0
      refine ⟨rfl, ⟨.slice A3 (LS.length + 1) c3, ?_, fun j e => ?_⟩, ?_⟩
      · have hk : ∀ j, BookS w b base j → j ≠ b → (Value.slice Av LS.length cv).ownBlock ≠ some j → (w3.setCell ⟨b, 6, none⟩ (.slice A3 (LS.length + 1) c3)).heap[j]? = w.heap[j]? := fun j q hb hne =>
          (Below.heap_setCell _ _ _ _ hb).trans ((HG3.out.block j (by simp; have := BookS.lt H.out q; omega) (fun e => hne e.symm)).trans (heap_alloc_old _ _ (BookS.lt H.out q)))
        have hneB : ∀ (j : Nat) (cs : Array Value) (t : TypeId), t ≠ 50 → w.heap[j]? = some (.cells cs t (0, 0)) → j ≠ b := fun j cs t ht q e => by
          subst e
          rw [H.out.at_] at q
          cases q
          exact ht rfl
        refine ⟨?_, ?_, ?_, ?_, ?_⟩
        · rw [heap_setCell_same _ _ _ _ _ _ HGB3.out]; rfl
        · refine H.out.e.same fun j hj => ?_
          obtain ⟨cs, q⟩ := H.out.e.cell_block hj
          refine hk j (.inr ⟨(H.out.e.lt j hj).1, cs, _, q, .inl rfl⟩) (hneB j _ _ (by decide) q) fun e => ?_
          obtain ⟨cs', q'⟩ := H.out.s.cell_block e
          rw [q] at q'; cases q'
        · refine H.out.c.same fun j hj => ?_
          obtain ⟨cs, q⟩ := H.out.c.cell_block hj
          refine hk j (.inr ⟨(H.out.c.lt j hj).1, cs, _, q, .inr (.inl rfl)⟩) (hneB j _ _ (by decide) q) fun e => ?_
          obtain ⟨cs', q'⟩ := H.out.s.cell_block e
          rw [q] at q'; cases q'
        · refine H.out.r.same fun j hj => ?_
          obtain ⟨cs, q⟩ := H.out.r.cell_block hj
          refine hk j (.inr ⟨(H.out.r.lt j hj).1, cs, _, q, .inr (.inr (.inl rfl))⟩) (hneB j _ _ (by decide) q) fun e => ?_
          obtain ⟨cs', q'⟩ := H.out.s.cell_block e
          rw [q] at q'; cases q'
        · rw [List.map_append]
          exact HM3.out.same fun j hj => Below.heap_setCell _ _ _ _ fun e => by
            obtain ⟨cs, q⟩ := HM3.out.cell_block hj
            rw [show j = b from e, HGB3.out] at q; cases q
      · rcases HAT.out with q | q
        · exact .inl (q ▸ e)
        · rw [q] at e
          cases e
          exact .inr (by simp)
      · refine ⟨HG3.out.os, HG3.out.tape, HG3.out.output, ?_, fun j hj hn => ?_⟩
        · have h9 := HG3.out.size
          simp [World.setCell] at h9 ⊢
          omega
        · refine (Below.heap_setCell _ _ _ _ (fun e => hn (.inl e))).trans ((HG3.out.block j (by simp; omega) (fun e => ?_)).trans (heap_alloc_old _ _ hj))
          exact hn (.inr e.symm)
theorem bookRes (b base : Nat) (vE vC vR vS : Value) (LE LC LR LS : List Bk) (A : Option Addr) (n c : Nat) (hA : ∀ ad, A = some ad → ∃ g, ad = ⟨g, 0, none⟩) (hA0 : A = none → n = 0) (w : World) (h : BookC w b base vE vC vR vS LE LC LR LS) (hl : LS.length ≤ 900) (hbase : base ≤ w.heap.size) :
    Calls Try.prog 15 #[.pointer (some ⟨b, 0, none⟩), .slice A n c] w fun e w' => e = .returned (.tuple #[]) ∧ (∃ v', BookC w' b base vE vC vR v' LE LC LR (LS ++ bkOf (.slice A n c))) ∧ Kept (BookS w b base) w w' :=
  (bookResP b base vE vC vR vS LE LC LR LS A n c hA hA0 w h hl hbase).mono fun e w' ⟨h1, ⟨v', h2, _⟩, h3⟩ => ⟨h1, ⟨v', h2⟩, h3.mono fun j _ q => by
    rcases q with q | q
    · exact .inl q
    · obtain ⟨cs, q'⟩ := h.s.cell_block q
      exact .inr ⟨(h.s.lt j q).1, cs, _, q', .inr (.inr (.inr rfl))⟩⟩
end Go.Proofs.Ytdkdddkhfonjmaa
