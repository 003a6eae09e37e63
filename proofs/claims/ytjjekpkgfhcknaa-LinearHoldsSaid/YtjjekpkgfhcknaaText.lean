/- The text of a ledger's cells: it tells the cells. Plain bytes. Conditions: slots below 1024, values of at most 64 bytes. -/
import Derived.Test.YtjjekpkgfhcknaaCells2
namespace Go.Proofs.Ytjjekpkgfhcknaa
set_option linter.unusedVariables false
set_option linter.unusedSimpArgs false

def bytesL (s : ByteArray) : List UInt8 := s.data.toList
theorem bytesL_append (a b : ByteArray) : bytesL (a ++ b) = bytesL a ++ bytesL b := by simp [bytesL]
theorem bytesL_size (a : ByteArray) : (bytesL a).length = a.size := by
  show a.data.toList.length = a.data.size
  exact Array.length_toList
theorem bytesL_inj {a b : ByteArray} (h : bytesL a = bytesL b) : a = b := by
  obtain ⟨⟨x⟩⟩ := a
  obtain ⟨⟨y⟩⟩ := b
  simp [bytesL] at h
  rw [h]
/-- One cell's text. -/
def textOf (c : Cell) : ByteArray := Utf8.encode c.slot ++ Utf8.encode (c.value.size : Int) ++ c.value
def textC (cs : List Cell) : ByteArray := cs.foldl (fun s c => s ++ textOf c) ⟨#[]⟩
theorem foldl_text (cs : List Cell) (s : ByteArray) : bytesL (cs.foldl (fun s c => s ++ textOf c) s) = bytesL s ++ cs.flatMap fun c => bytesL (textOf c) := by
  induction cs generalizing s with
  | nil => simp
  | cons c cs ih => rw [List.foldl_cons, ih, bytesL_append, List.flatMap_cons, List.append_assoc]
theorem bytesL_text (cs : List Cell) : bytesL (textC cs) = cs.flatMap fun c => bytesL (textOf c) := by
  unfold textC
  rw [foldl_text]
  simp [bytesL]
theorem textC_snoc (cs : List Cell) (c : Cell) : textC (cs ++ [c]) = textC cs ++ textOf c := by simp [textC]
theorem enc_low {n : Int} (h0 : 0 ≤ n) (h1 : n < 128) : bytesL (Utf8.encode n) = [UInt8.ofNat n.toNat] := by
  have hv : Utf8.valid n = true := by simp [Utf8.valid]; omega
  have hlt : n.toNat < 128 := by omega
  simp [Utf8.encode, hv, hlt, bytesL]
theorem enc_mid {n : Int} (h0 : 128 ≤ n) (h1 : n < 2048) : bytesL (Utf8.encode n) = [UInt8.ofNat (192 + n.toNat / 64), UInt8.ofNat (128 + n.toNat % 64)] := by
  have hv : Utf8.valid n = true := by simp [Utf8.valid]; omega
  have hlt : ¬ n.toNat < 128 := by omega
  have hlt2 : n.toNat < 2048 := by omega
  simp [Utf8.encode, hv, hlt, hlt2, bytesL]
theorem byte_inj {a b : Nat} (ha : a < 256) (hb : b < 256) (h : UInt8.ofNat a = UInt8.ofNat b) : a = b := by
  have := congrArg UInt8.toNat h
  simp only [UInt8.toNat_ofNat'] at this
  omega
/-- Numbers below 2048 are told by what begins with their text. -/
theorem enc_inj {m n : Int} {x y : List UInt8} (hm : 0 ≤ m) (hm2 : m < 2048) (hn : 0 ≤ n) (hn2 : n < 2048) (h : bytesL (Utf8.encode m) ++ x = bytesL (Utf8.encode n) ++ y) : m = n ∧ x = y := by
  by_cases h1 : m < 128 <;> by_cases h2 : n < 128
  · rw [enc_low hm h1, enc_low hn h2] at h
    simp only [List.cons_append, List.nil_append, List.cons.injEq] at h
    have := byte_inj (by omega) (by omega) h.1
    exact ⟨by omega, h.2⟩
  · rw [enc_low hm h1, enc_mid (by omega) hn2] at h
    simp only [List.cons_append, List.nil_append, List.cons.injEq] at h
    have := byte_inj (by omega) (by omega) h.1
    omega
  · rw [enc_mid (by omega) hm2, enc_low hn h2] at h
    simp only [List.cons_append, List.nil_append, List.cons.injEq] at h
    have := byte_inj (by omega) (by omega) h.1
    omega
  · rw [enc_mid (by omega) hm2, enc_mid (by omega) hn2] at h
    simp only [List.cons_append, List.nil_append, List.cons.injEq] at h
    have h3 := byte_inj (by omega) (by omega) h.1
    have h4 := byte_inj (by omega) (by omega) h.2.1
    exact ⟨by omega, h.2.2⟩
theorem enc_size {n : Int} (h0 : 0 ≤ n) (h1 : n < 2048) : (Utf8.encode n).size ≤ 2 ∧ 0 < (Utf8.encode n).size := by
  rw [← bytesL_size]
  by_cases h : n < 128
  · rw [enc_low h0 h]; simp
  · rw [enc_mid (by omega) h1]; simp
theorem text_cons (c : Cell) (cs : List Cell) : bytesL (textC (c :: cs)) = bytesL (Utf8.encode c.slot) ++ (bytesL (Utf8.encode (c.value.size : Int)) ++ (bytesL c.value ++ bytesL (textC cs))) := by
  rw [bytesL_text, bytesL_text, List.flatMap_cons, textOf, bytesL_append, bytesL_append]
  simp only [List.append_assoc]
theorem textC_inj : ∀ {cs ds : List Cell}, (∀ c ∈ cs, Good c) → (∀ c ∈ ds, Good c) → textC cs = textC ds → cs = ds
  | [], [], _, _, _ => rfl
  | [], d :: ds, _, hd, h => by
    have h' := congrArg (fun s => (bytesL s).length) h
    simp only [text_cons, List.length_append] at h'
    rw [show bytesL (textC []) = [] from rfl] at h'
    obtain ⟨h0, h1, _⟩ := hd d (by simp)
    have h2 := (enc_size h0 (by omega)).2
    rw [← bytesL_size] at h2
    simp only [List.length_nil] at h'
    omega
  | c :: cs, [], hc, _, h => by
    have h' := congrArg (fun s => (bytesL s).length) h
    simp only [text_cons, List.length_append] at h'
    rw [show bytesL (textC []) = [] from rfl] at h'
    obtain ⟨h0, h1, _⟩ := hc c (by simp)
    have h2 := (enc_size h0 (by omega)).2
    rw [← bytesL_size] at h2
    simp only [List.length_nil] at h'
    omega
  | c :: cs, d :: ds, hc, hd, h => by
    have h' := congrArg bytesL h
    rw [text_cons, text_cons] at h'
    obtain ⟨c0, c1, c2⟩ := hc c (by simp)
    obtain ⟨d0, d1, d2⟩ := hd d (by simp)
    obtain ⟨e1, h'⟩ := enc_inj c0 (by omega) d0 (by omega) h'
    obtain ⟨e2, h'⟩ := enc_inj (by omega) (by omega) (by omega) (by omega) h'
    obtain ⟨e3, h'⟩ := List.append_inj h' (by rw [bytesL_size, bytesL_size]; omega)
    have e4 := textC_inj (fun x hx => hc x (by simp [hx])) (fun x hx => hd x (by simp [hx])) (bytesL_inj h')
    obtain ⟨cs1, cv⟩ := c
    obtain ⟨ds1, dv⟩ := d
    simp only at e1 e3
    rw [e1, bytesL_inj e3, e4]
theorem textOf_size {c : Cell} (h : Good c) : (textOf c).size ≤ 68 := by
  obtain ⟨h0, h1, h2⟩ := h
  have a := (enc_size h0 (by omega)).1
  have b := (enc_size (n := (c.value.size : Int)) (by omega) (by omega)).1
  rw [← bytesL_size, textOf, bytesL_append, bytesL_append, List.length_append, List.length_append, bytesL_size, bytesL_size, bytesL_size]
  omega
theorem textC_size : ∀ {cs : List Cell}, (∀ c ∈ cs, Good c) → (textC cs).size ≤ 68 * cs.length
  | [], _ => Nat.le_refl _
  | c :: cs, h => by
    have a := textOf_size (h c (by simp))
    have b := textC_size (cs := cs) fun x hx => h x (by simp [hx])
    rw [← bytesL_size, bytesL_text, List.flatMap_cons, List.length_append, ← bytesL_text, bytesL_size, bytesL_size]
    simp only [List.length_cons]
    omega
end Go.Proofs.Ytjjekpkgfhcknaa
