/- ClientStays in plain lists: what each entry's client is told. Conditions: a good list.
ClientStays where the list or a number is not good. Conditions: sizes within the form's own reach.
ClientStays at a good list and good numbers. Conditions: sizes within the form's own reach.
ClientStays answers true, whatever the arguments. Conditions: sizes within the form's own reach. -/
import Derived.Test.YtnfilklgogaheaaClientM4
namespace Go.Proofs.Ytnfilklgogaheaa
open Go.RowKit
set_option linter.unusedVariables false
set_option linter.unusedSimpArgs false

theorem good_rise {xs : List Entry} (h : GoodE xs) {i j : Nat} (hij : i < j) (hj : j < xs.length) (hc : xs[i].client = xs[j].client) : xs[i].number < xs[j].number := by
  have h1 := (fitE_zero.1 (h j hj)).2
  by_cases hn : xs[j].number ≤ xs[i].number
  · rw [twice_take_true (by omega) hij ⟨hc, hn⟩] at h1
    cases h1
  · omega
theorem lastP_at (c : Int) (xs : List Entry) : ∀ i (h : i < xs.length), xs[i].client = c → (∀ k (hk : k < xs.length), i < k → xs[k].client ≠ c) → lastP xs c = i + 1 := by
  refine snoc_ind (p := fun xs => ∀ i (h : i < xs.length), xs[i].client = c → (∀ k (hk : k < xs.length), i < k → xs[k].client ≠ c) → lastP xs c = i + 1) ?_ ?_ xs
  · intro i h; simp at h
  · intro xs x ih i h hc hk
    rw [lastP_snoc]
    by_cases hi : i = xs.length
    · subst hi
      have : x.client = c := by simpa using hc
      rw [if_pos this]
    · have hl : i < xs.length := by simp at h; omega
      have hx : x.client ≠ c := by have := hk xs.length (by simp) hl; simpa using this
      rw [if_neg hx]
      refine ih i hl (by rw [List.getElem_append_left hl] at hc; exact hc) fun k h' hik => ?_
      have := hk k (by simp; omega) hik
      rwa [List.getElem_append_left h'] at this
theorem lastP_after (c : Int) (xs : List Entry) : ∀ k (h : k < xs.length), xs[k].client = c → ∃ p, lastP xs c = p + 1 ∧ k ≤ p ∧ ∃ hp : p < xs.length, xs[p].client = c := by
  refine snoc_ind (p := fun xs => ∀ k (h : k < xs.length), xs[k].client = c → ∃ p, lastP xs c = p + 1 ∧ k ≤ p ∧ ∃ hp : p < xs.length, xs[p].client = c) ?_ ?_ xs
  · intro i h; simp at h
  · intro xs x ih k h hc
    rw [lastP_snoc]
    by_cases hx : x.client = c
    · rw [if_pos hx]
      exact ⟨xs.length, rfl, by simp at h; omega, by simp, by simpa using hx⟩
    · rw [if_neg hx]
      have hl : k < xs.length := by
        by_cases hk : k = xs.length
        · subst hk; exact absurd (by simpa using hc) hx
        · simp at h; omega
      obtain ⟨p, h1, h2, h3, h4⟩ := ih k hl (by rw [List.getElem_append_left hl] at hc; exact hc)
      exact ⟨p, h1, h2, by simp; omega, by rw [List.getElem_append_left h3]; exact h4⟩
theorem askE_at {xs : List Entry} {m p : Nat} {c n : Int} (h : lastP xs c = p + 1) (hp : p < xs.length) : askE xs m c n = ansR (rowOf xs m p hp) n := by
  unfold askE
  rw [dif_neg (by omega)]
  congr 2
  omega
/-- An entry that its client's later entry has passed: Old. -/
theorem stay_old {xs : List Entry} (hg : GoodE xs) (m : Nat) {i k : Nat} (hik : i < k) (hk : k < xs.length) (hc : xs[k].client = xs[i].client) : askE xs m xs[i].client xs[i].number = (4, zeroR) := by
  obtain ⟨p, h1, h2, h3, h4⟩ := lastP_after xs[i].client xs k hk hc
  rw [askE_at h1 h3]
  have := good_rise hg (i := i) (j := p) (by omega) h3 h4.symm
  unfold ansR rowOf
  simp only
  rw [if_neg (by omega), if_pos this]
/-- A client's last entry: what is asked of it, of a list that begins alike. -/
theorem stay_last {xs : List Entry} (m : Nat) {i : Nat} (hi : i < xs.length) (hl : ∀ k (hk : k < xs.length), i < k → xs[k].client ≠ xs[i].client) : askE xs m xs[i].client xs[i].number = if i < m then (3, would (playC [] (opsOf (xs.take i))) xs[i].op) else (2, zeroR) := by
  rw [askE_at (lastP_at _ xs i hi rfl hl) hi]
  unfold ansR rowOf
  simp only
  rw [if_neg (by omega), if_neg (by omega)]
  by_cases h : i < m <;> simp [h]
theorem stay_next {xs : List Entry} (m : Nat) {i : Nat} (hi : i < xs.length) (hl : ∀ k (hk : k < xs.length), i < k → xs[k].client ≠ xs[i].client) {n : Int} (hn : xs[i].number < n) : askE xs m xs[i].client n = (1, zeroR) := by
  rw [askE_at (lastP_at _ xs i hi rfl hl) hi]
  unfold ansR rowOf
  simp only
  rw [if_pos hn]
theorem stay_early {xs : List Entry} (m : Nat) {i u : Nat} (hi : i < u) (hu : u ≤ xs.length) (hl : ∀ k (hk : k < xs.length), i < k → xs[k].client ≠ (xs[i]'(by omega)).client) : askE (xs.take u) m (xs[i]'(by omega)).client (xs[i]'(by omega)).number = if i < m then (3, would (playC [] (opsOf (xs.take i))) (xs[i]'(by omega)).op) else (2, zeroR) := by
  have hlt : i < (xs.take u).length := by simp; omega
  have he : (xs.take u)[i] = xs[i]'(by omega) := by simp
  have h := stay_last (xs := xs.take u) m hlt (fun k hk hik => by
    have hk' : k < xs.length := by simp at hk; omega
    have := hl k hk' hik
    simpa using this)
  rw [he, List.take_take, Nat.min_eq_left (Nat.le_of_lt hi)] at h
  exact h
theorem within_ok {xs : List Entry} {m : Nat} (h : logE xs 256 = 0) (hm : m ≤ xs.length) : withinE xs (m : Int) = 0 := by
  unfold withinE; rw [if_neg (by omega)]; exact h
theorem logE_take {xs : List Entry} (h : logE xs 256 = 0) (u : Nat) : logE (xs.take u) 256 = 0 := by
  obtain ⟨h1, h2⟩ := good_logE h
  exact logE_good (h1.take u) (by simp; omega)
theorem entry_of {x : Entry} (h : baseE x = 0) {n : Int} (hn : x.number ≤ n) : entryE x.client n = 0 := by
  unfold baseE at h
  by_cases hc : x.client < 0 ∨ 16 ≤ x.client
  · rw [if_pos hc] at h; omega
  · rw [if_neg hc] at h
    by_cases h1 : x.number < 1
    · rw [if_pos h1] at h; omega
    · unfold entryE; rw [if_neg hc, if_neg (by omega)]
/-- Ask at a good list and a good commit. -/
theorem askA_good {xs : List Entry} {m : Nat} (h : logE xs 256 = 0) (hm : m ≤ xs.length) {c n : Int} (he : entryE c n = 0) : askA xs (m : Int) c n = askE xs m c n ∧ askQ xs (m : Int) c n = 0 := by
  have hw := within_ok h hm
  constructor
  · unfold askA; rw [if_pos ⟨hw, he⟩]; rfl
  · unfold askQ; rw [if_pos hw]; exact he
end Go.Proofs.Ytnfilklgogaheaa

namespace Go.Proofs.Ytnfilklgogaheaa
open Go.RowKit
set_option linter.unusedVariables false
set_option linter.unusedSimpArgs false

def StaysGood (xs : List Entry) (m l u : Int) : Prop := logE xs 256 = 0 ∧ 0 ≤ u ∧ u ≤ xs.length ∧ 0 ≤ m ∧ m ≤ u ∧ m ≤ l ∧ l ≤ xs.length
theorem stays_cases {xs : List Entry} {m l u : Int} (h : ¬ StaysGood xs m l u) : logE xs 256 ≠ 0 ∨ (logE xs 256 = 0 ∧ u < 0) ∨ (logE xs 256 = 0 ∧ ¬ u < 0 ∧ (xs.length : Int) < u) ∨ (logE xs 256 = 0 ∧ ¬ u < 0 ∧ ¬ (xs.length : Int) < u ∧ m < 0) ∨ (logE xs 256 = 0 ∧ ¬ u < 0 ∧ ¬ (xs.length : Int) < u ∧ ¬ m < 0 ∧ u < m) ∨ (logE xs 256 = 0 ∧ ¬ u < 0 ∧ ¬ (xs.length : Int) < u ∧ ¬ m < 0 ∧ ¬ u < m ∧ l < m) ∨ (logE xs 256 = 0 ∧ ¬ u < 0 ∧ ¬ (xs.length : Int) < u ∧ ¬ m < 0 ∧ ¬ u < m ∧ ¬ l < m ∧ (xs.length : Int) < l) := by
  unfold StaysGood at h
  omega
theorem stays_q (xs : List Entry) (m : Int) : askQ xs m 0 1 = 0 ∨ askQ xs m 0 1 = 50 ∨ (logE xs 256 ≠ 0 ∧ askQ xs m 0 1 ≠ 0 ∧ askQ xs m 0 1 ≠ 50) := by
  have e0 : entryE 0 1 = 0 := by decide
  have hq : askQ xs m 0 1 = withinE xs m := by
    unfold askQ
    by_cases h : withinE xs m = 0
    · rw [if_pos h, e0, h]
    · rw [if_neg h]
  rw [hq]
  unfold withinE
  by_cases h2 : logE xs 256 = 0 ∧ (m < 0 ∨ (xs.length : Int) < m)
  · rw [if_pos h2]; exact .inr (.inl rfl)
  · rw [if_neg h2]
    by_cases h1 : logE xs 256 = 0
    · exact .inl h1
    · by_cases h3 : logE xs 256 = 50
      · exact .inr (.inl h3)
      · exact .inr (.inr ⟨h1, h1, h3⟩)



set_option maxRecDepth 100000 in
set_option maxHeartbeats 2000000 in
theorem stays_bad (A : Option Addr) (cc n : Nat) (xs : List Entry) (m l u : Int) (hn : n = xs.length) (hc : n ≤ cc) (w : World) (hb : (xs.length + 1) * 48 ≤ 140737488355328) (hv : ∀ x ∈ xs, x.op.value.size ≤ 9223372036854775807) (ha : Rd Entry.cells 5 w w.heap.size A xs) (hg : ¬ StaysGood xs m l u) :
    Calls Try.prog 11 #[.slice A n cc, .int .i64 m, .int .i64 l, .int .i64 u] w fun e w' => e = .returned (.bool true) ∧ Below w.heap.size w w' := by
  subst hn
  have HLOG := Lib.hid (fun W (hW : Below w.heap.size w W) => log_ref5 A cc xs.length xs rfl W (by omega) hv ((ha.below hW).more hW.size))
  have HASK := Lib.hid (fun W (hW : Below w.heap.size w W) => ask_all A cc xs.length xs m 0 1 rfl hc W (by omega) hv ((ha.below hW).more hW.size))
  have HQ := Lib.hid (stays_q xs m)
  have hcs := stays_cases hg
  clear hg ha hv
  obtain ⟨v, hv⟩ : ∃ v, v = (askA xs m 0 1).1 := ⟨_, rfl⟩
  obtain ⟨r, hr⟩ : ∃ r, r = (askA xs m 0 1).2 := ⟨_, rfl⟩
  rw [← hv, ← hr] at HASK
  clear hv hr
  generalize askQ xs m 0 1 = q at *
  generalize logE xs 256 = g at *
  rcases hcs with h | ⟨h, h1⟩ | ⟨h, h2, h1⟩ | ⟨h, h2, h3, h1⟩ | ⟨h, h2, h3, h4, h1⟩ | ⟨h, h2, h3, h4, h5, h1⟩ | ⟨h, h2, h3, h4, h5, h6, h1⟩
  · have h0 : (g != 0) = true := by simpa using h
    clear h
    (
      go_enter Try.func11, Try.ntmps11
      go_wp2_with fail
      with_reducible refine (alive05 _).mono ?_
      rintro e w0 ⟨rfl, hb0⟩
      have HB0 := Lib.hid hb0
      clear hb0
      dsimp only
      go_wp2_with fail
      with_reducible refine (HLOG.out w0 HB0.out).mono ?_
      rintro e w1 ⟨rfl, hb1⟩
      have HB1 := Lib.hid (HB0.out.trans (hb1.mono HB0.out.size))
      clear hb1 HB0
      dsimp only
      go_wp2_with fail
      with_reducible refine (HASK.out w1 HB1.out).mono ?_
      rintro e w2 ⟨rfl, hb2⟩
      have hb3 := hb2.alloc (Nat.le_trans (Nat.le_refl _) hb2.size) (.cells #[.int .i64 r.code, .int .i64 r.slot, .string r.value] 58)
      have HB2 := Lib.hid (HB1.out.trans (hb3.mono HB1.out.size))
      clear hb2 hb3 HB1
      dsimp only
      go_wp2_with fail)
    (
      (
        with_reducible refine (num05 _ _).mono ?_
        rintro e w' ⟨rfl, hw4⟩
        rw [← hw4]
        clear hw4 w'
        dsimp only)
      rcases HQ.out with hq | hq | ⟨hg1, hq, hq2⟩
      · subst hq
        go_wp2_with fail
        go_ret
        exact ⟨rfl, HB2.out⟩
      · subst hq
        go_wp2_with fail
        (
          with_reducible refine (num05 _ _).mono ?_
          rintro e w' ⟨rfl, hw4⟩
          rw [← hw4]
          clear hw4 w'
          dsimp only)
        go_wp2_with fail
        go_ret
        exact ⟨rfl, HB2.out⟩
      · first
        | exact absurd rfl hg1
        | (have q1 : (q == 0) = false := by simpa using hq
           have q2 : (q == 50) = false := by simpa using hq2
           clear hq hq2 hg1
           go_wp2_with fail
           (
             with_reducible refine (num05 _ _).mono ?_
             rintro e w' ⟨rfl, hw4⟩
             rw [← hw4]
             clear hw4 w'
             dsimp only)
           go_wp2_with fail
           with_reducible refine (HLOG.out _ HB2.out).mono ?_
           rintro e w5 ⟨rfl, hb5⟩
           have HB5 := Lib.hid (HB2.out.trans (hb5.mono HB2.out.size))
           clear hb5
           dsimp only
           go_wp2_with fail
           go_ret
           exact ⟨rfl, HB5.out⟩))
  all_goals
    subst h
    try have k1 := decide_eq_true h1
    try have k2 := decide_eq_false h2
    try have k3 := decide_eq_false h3
    try have k4 := decide_eq_false h4
    try have k5 := decide_eq_false h5
    try have k6 := decide_eq_false h6
    try clear h2
    try clear h3
    try clear h4
    try clear h5
    try clear h6
    clear h1
    (
      go_enter Try.func11, Try.ntmps11
      go_wp2_with fail
      with_reducible refine (alive05 _).mono ?_
      rintro e w0 ⟨rfl, hb0⟩
      have HB0 := Lib.hid hb0
      clear hb0
      dsimp only
      go_wp2_with fail
      with_reducible refine (HLOG.out w0 HB0.out).mono ?_
      rintro e w1 ⟨rfl, hb1⟩
      have HB1 := Lib.hid (HB0.out.trans (hb1.mono HB0.out.size))
      clear hb1 HB0
      dsimp only
      go_wp2_with fail
      with_reducible refine (HASK.out w1 HB1.out).mono ?_
      rintro e w2 ⟨rfl, hb2⟩
      have hb3 := hb2.alloc (Nat.le_trans (Nat.le_refl _) hb2.size) (.cells #[.int .i64 r.code, .int .i64 r.slot, .string r.value] 58)
      have HB2 := Lib.hid (HB1.out.trans (hb3.mono HB1.out.size))
      clear hb2 hb3 HB1
      dsimp only
      go_wp2_with fail)
    (
      (
        with_reducible refine (num05 _ _).mono ?_
        rintro e w' ⟨rfl, hw4⟩
        rw [← hw4]
        clear hw4 w'
        dsimp only)
      rcases HQ.out with hq | hq | ⟨hg1, hq, hq2⟩
      · subst hq
        go_wp2_with fail
        go_ret
        exact ⟨rfl, HB2.out⟩
      · subst hq
        go_wp2_with fail
        (
          with_reducible refine (num05 _ _).mono ?_
          rintro e w' ⟨rfl, hw4⟩
          rw [← hw4]
          clear hw4 w'
          dsimp only)
        go_wp2_with fail
        go_ret
        exact ⟨rfl, HB2.out⟩
      · first
        | exact absurd rfl hg1
        | (have q1 : (q == 0) = false := by simpa using hq
           have q2 : (q == 50) = false := by simpa using hq2
           clear hq hq2 hg1
           go_wp2_with fail
           (
             with_reducible refine (num05 _ _).mono ?_
             rintro e w' ⟨rfl, hw4⟩
             rw [← hw4]
             clear hw4 w'
             dsimp only)
           go_wp2_with fail
           with_reducible refine (HLOG.out _ HB2.out).mono ?_
           rintro e w5 ⟨rfl, hb5⟩
           have HB5 := Lib.hid (HB2.out.trans (hb5.mono HB2.out.size))
           clear hb5
           dsimp only
           go_wp2_with fail
           go_ret
           exact ⟨rfl, HB5.out⟩))
end Go.Proofs.Ytnfilklgogaheaa

namespace Go.Proofs.Ytnfilklgogaheaa
open Go.RowKit
set_option linter.unusedVariables false
set_option linter.unusedSimpArgs false

def LaterB (xs : List Entry) (i j : Nat) (b : Bool) : Prop := b = true ↔ ∃ k, i < k ∧ k < j ∧ ∃ (h : k < xs.length) (h' : i < xs.length), xs[k].client = xs[i].client
theorem LaterB.start (xs : List Entry) (i : Nat) : LaterB xs i (i + 1) false := by
  unfold LaterB
  constructor
  · intro h; cases h
  · rintro ⟨k, h1, h2, _⟩; omega
theorem LaterB.keep {xs : List Entry} {i j : Nat} (h : LaterB xs i j true) : LaterB xs i (j + 1) true := by
  unfold LaterB at *
  obtain ⟨k, h1, h2, h3⟩ := h.1 rfl
  exact ⟨fun _ => ⟨k, h1, by omega, h3⟩, fun _ => rfl⟩
theorem LaterB.step {xs : List Entry} {i j : Nat} (h : LaterB xs i j false) (hij : i < j) (hj : j < xs.length) : LaterB xs i (j + 1) (xs[j].client == xs[i].client) := by
  unfold LaterB at *
  constructor
  · intro q
    exact ⟨j, hij, by omega, hj, by omega, by simpa using q⟩
  · rintro ⟨k, h1, h2, h3, h4, h5⟩
    by_cases hk : k = j
    · subst hk; simpa using h5
    · have := h.2 ⟨k, h1, by omega, h3, h4, h5⟩
      cases this


set_option maxRecDepth 100000 in
set_option maxHeartbeats 4000000 in
theorem stays_good (A : Option Addr) (cc n : Nat) (xs : List Entry) (m l u : Nat) (hn : n = xs.length) (hc : n ≤ cc) (w : World) (hb : (xs.length + 1) * 48 ≤ 140737488355328) (hv : ∀ x ∈ xs, x.op.value.size ≤ 9223372036854775807) (ha : Rd Entry.cells 5 w w.heap.size A xs) (h0 : logE xs 256 = 0) (hu : u ≤ xs.length) (hmu : m ≤ u) (hml : m ≤ l) (hll : l ≤ xs.length) :
    Calls Try.prog 11 #[.slice A n cc, .int .i64 m, .int .i64 l, .int .i64 u] w fun e w' => e = .returned (.bool true) ∧ Below w.heap.size w w' := by
  subst hn
  have HLOG := Lib.hid (fun W (hW : Below w.heap.size w W) => log_ref5 A cc xs.length xs rfl W (by omega) hv ((ha.below hW).more hW.size))
  rw [h0] at HLOG
  have HASK : Hid (∀ W, Below w.heap.size w W → ∀ c n, entryE c n = 0 → Calls Try.prog 43 #[.slice A xs.length cc, .int .i64 l, .int .i64 c, .int .i64 n] W (AskPost W (askE xs l c n).1 (askE xs l c n).2 0)) := fun W hW c n he => by
    have h := ask_all A cc xs.length xs l c n rfl hc W (by omega) hv ((ha.below hW).more hW.size)
    obtain ⟨e1, e2⟩ := askA_good h0 hll he
    rw [e1, e2] at h
    exact h
  have HASKE : Hid (∀ W, Below w.heap.size w W → ∀ c n, entryE c n = 0 → Calls Try.prog 43 #[.slice A u cc, .int .i64 m, .int .i64 c, .int .i64 n] W (AskPost W (askE (xs.take u) m c n).1 (askE (xs.take u) m c n).2 0)) := fun W hW c n he => by
    have hlt : (xs.take u).length = u := by simp; omega
    have h := ask_all A cc u (xs.take u) m c n hlt.symm (by omega) W (by omega) (fun x hx => hv x (List.mem_of_mem_take hx)) (((ha.below hW).more hW.size).take u)
    obtain ⟨e1, e2⟩ := askA_good (m := m) (logE_take h0 u) (by omega) he
    rw [e1, e2] at h
    exact h
  obtain ⟨hgd, hlen⟩ := good_logE h0
  have HGD := Lib.hid hgd
  have HA := Lib.hid ha
  have hsl : ∀ W : World, (Instr.slice 22 (.slice A xs.length cc) none (some (.int .i64 u)) none).run Try.prog W = .ok (.slice A u cc) W := by
    have hu2 := Try.underlying22
    have huc : u ≤ cc := by omega
    intro W
    cases A with
    | none => go_simp
    | some ad => go_simp
  have k1 : decide ((u:Int) < 0) = false := decide_eq_false (by omega)
  have k2 : decide ((xs.length:Int) < (u:Int)) = false := decide_eq_false (by omega)
  have k3 : decide ((m:Int) < 0) = false := decide_eq_false (by omega)
  have k4 : decide ((u:Int) < (m:Int)) = false := decide_eq_false (by omega)
  have k5 : decide ((l:Int) < (m:Int)) = false := decide_eq_false (by omega)
  have k6 : decide ((xs.length:Int) < (l:Int)) = false := decide_eq_false (by omega)
  have k7 : decide (xs.length < u) = false := decide_eq_false (by omega)
  have k8 : decide (u < m) = false := decide_eq_false (by omega)
  have k9 : decide (l < m) = false := decide_eq_false (by omega)
  have k10 : decide (xs.length < l) = false := decide_eq_false (by omega)
  clear ha hv hgd h0
  go_enter Try.func11, Try.ntmps11
  go_wp2_with fail
  with_reducible refine (alive05 _).mono ?_
  rintro e w0 ⟨rfl, hb0⟩
  have HB0 := Lib.hid hb0
  clear hb0
  dsimp only
  go_wp2_with fail
  with_reducible refine (HLOG.out w0 HB0.out).mono ?_
  rintro e w1 ⟨rfl, hb1⟩
  have HB1 := Lib.hid (HB0.out.trans (hb1.mono HB0.out.size))
  clear hb1 HB0
  dsimp only
  go_wp2_with (first | (rw [hsl]) | fail)
  clear hsl k1 k2 k3 k4 k5 k6 k7 k8 k9 k10
  go_loopw [13, 14, 15, 16, 17, 18, 19, 20, 21, 22, 23, 24, 25, 26, 27, 28, 29] (fun i _ _ _ _ _ _ _ _ _ _ _ _ _ _ _ _ wr => ∃ k : Nat, k ≤ u ∧ i = .int .i64 k ∧ Hid (Below w.heap.size w wr)) (fun i _ _ _ _ _ _ _ _ _ _ _ _ _ _ _ _ _ => u - (intOf i).toNat)
  case atStart => exact ⟨0, by omega, rfl, HB1.out⟩
  case round =>
    obtain ⟨i, hi, rfl, hbr⟩ := hrel
    by_cases h1 : i < u
    · have hix : i < xs.length := by omega
      obtain ⟨ad, hAd, hq0, hca⟩ := ((HA.out.below hbr.out).more hbr.out.size).at_ hix
      subst hAd
      have g1 : decide ((i:Int) < (u:Int)) = true := decide_eq_true (by omega)
      have g1b : decide (i < u) = true := decide_eq_true h1
      have k1 : IntKind.i64.wrap ((i:Int) + 1) = (i:Int) + 1 := IntWalk.i64_in _ (by omega)
      have HBASE := Lib.hid (fitE_zero.1 (HGD.out i hix)).1
      obtain ⟨c0, c1, c2, c3, c4⟩ := hca.five
      obtain ⟨y, hy⟩ : ∃ y, y = xs[i] := ⟨_, rfl⟩
      rw [← hy] at c0 c1 c2 c3 c4
      have HY : Hid (y = xs[i]) := hy
      rw [← hy] at HBASE
      clear hca hq0 hy
      obtain ⟨W1, hW1⟩ : ∃ W, W = wr.alloc (.cells #[.int .i64 y.client, .int .i64 y.number, .int .i64 y.op.kind, .int .i64 y.op.slot, .string y.op.value] 32) := ⟨_, rfl⟩
      have hba : Below wr.heap.size wr W1 := by rw [hW1]; exact (Below.refl _ _).alloc (Nat.le_refl _) _
      have HBW := Lib.hid (hbr.out.trans (hba.mono hbr.out.size))
      have HK : Hid (W1.heap[wr.heap.size]? = some (.cells #[.int .i64 y.client, .int .i64 y.number, .int .i64 y.op.kind, .int .i64 y.op.slot, .string y.op.value] 32 (0, 0))) := by show _ = _; rw [hW1]; exact heap_alloc_new _ _
      have HW1 := Lib.hid hW1
      clear hba hW1
      go_wp2_with fail
      rw [← HW1.out]
      clear HW1 c0 c1 c2 c3 c4
      generalize wr.heap.size = B1 at *
      go_loopw [15, 16] (fun b j wq => ∃ (k : Nat) (bb : Bool), i < k ∧ k ≤ xs.length ∧ j = .int .i64 k ∧ b = .bool bb ∧ Hid (LaterB xs i k bb) ∧ Hid (Below W1.heap.size W1 wq)) (fun _ j _ => xs.length - (intOf j).toNat)
      case atStart => exact ⟨i + 1, false, by omega, by omega, by go_num, rfl, LaterB.start xs i, Below.refl _ _⟩
      case round =>
        obtain ⟨j, bb, hij, hjl, rfl, rfl, hla, hbq⟩ := hrel
        have HK2 := Lib.hid ((hbq.out.block _ (Array.getElem?_eq_some_iff.1 HK.out).1).trans HK.out)
        by_cases h2 : j < xs.length
        · have g2 : decide ((j:Int) < (xs.length:Int)) = true := decide_eq_true (by omega)
          have g2b : decide (j < xs.length) = true := decide_eq_true h2
          have k2 : IntKind.i64.wrap ((j:Int) + 1) = (j:Int) + 1 := IntWalk.i64_in _ (by omega)
          cases bb with
          | true =>
            go_wp2_with fail
            go_region
            all_goals
              go_wp2_with fail
              go_roundw
              case rel => exact ⟨j + 1, true, by omega, by omega, by go_num, rfl, hla.out.keep, by first | exact hbq.out | exact hbq.out.drew⟩
              case measure => simp [intOf]; omega
          | false =>
            obtain ⟨ae, hAe, hq0, hca⟩ := (((HA.out.below HBW.out).more HBW.out.size).below hbq.out |>.more hbq.out.size).at_ h2
            cases hAe
            obtain ⟨c0, c1, c2, c3, c4⟩ := hca.five
            have hst := hla.out.step hij h2
            rw [← HY.out] at hst
            have HST := Lib.hid hst
            have d0 := cell_of_row wr B1 0 _ _ _ HK2.out
            clear hca hq0 hst
            generalize xs[j] = z at *
            go_wp2_with fail
            go_region
            all_goals
              go_wp2_with fail
              go_roundw
              case rel => exact ⟨j + 1, _, by omega, by omega, by go_num, rfl, HST.out, by first | exact hbq.out | exact hbq.out.drew⟩
              case measure => simp [intOf]; omega
        · have g2 : decide ((j:Int) < (xs.length:Int)) = false := decide_eq_false (by omega)
          have g2b : decide (j < xs.length) = false := decide_eq_false h2
          have HBR := Lib.hid (HBW.out.trans (hbq.out.mono HBW.out.size))
          have d0 := cell_of_row wr B1 0 _ _ _ HK2.out
          have d1 := cell_of_row wr B1 1 _ _ _ HK2.out
          obtain rfl : j = xs.length := by omega
          have hn1 : 1 ≤ y.number := by
            have hb := HBASE.out
            unfold baseE at hb
            by_cases hc : y.client < 0 ∨ 16 ≤ y.client
            · rw [if_pos hc] at hb; omega
            · rw [if_neg hc] at hb
              by_cases hn : y.number < 1
              · rw [if_pos hn] at hb; omega
              · omega
          have HE0 : Hid (entryE y.client y.number = 0) := entry_of HBASE.out (Int.le_refl _)
          cases bb with
          | true =>
            obtain ⟨k, q1, q2, q3, q4, q5⟩ := hla.out.1 rfl
            have HN : Hid (Calls Try.prog 43 #[.slice (some ad) xs.length cc, .int .i64 l, .int .i64 y.client, .int .i64 y.number] wr (AskPost wr 4 zeroR 0)) := by
              have h := HASK.out wr HBR.out y.client y.number HE0.out
              have e := stay_old HGD.out l q1 q3 q5
              rw [← HY.out] at e
              rw [e] at h
              exact h
            clear q1 q2 q3 q4 q5
            go_wp2_with fail
            with_reducible refine HN.out.mono ?_
            rintro e w4 ⟨rfl, hb4⟩
            have HB4 := Lib.hid (HBR.out.trans ((hb4.alloc hb4.size (.cells #[.int .i64 zeroR.code, .int .i64 zeroR.slot, .string zeroR.value] 58)).mono HBR.out.size))
            clear hb4 HN
            dsimp only
            go_wp2_with fail
            (
              with_reducible refine (num05 _ _).mono ?_
              rintro e w' ⟨rfl, hw4⟩
              rw [← hw4]
              clear hw4 w'
              dsimp only)
            go_wp2_with fail
            (
              go_roundw
              case rel => first
                | exact ⟨i + 1, by omega, by go_num, HB4.out⟩
                | exact ⟨.int .i64 ((i : Int) + 1), _, _, _, _, _, _, _, _, _, _, _, _, _, _, _, _, ⟨i + 1, by omega, by go_num, HB4.out⟩, rfl, rfl, rfl, rfl, rfl, rfl, rfl, rfl, rfl, rfl, rfl, rfl, rfl, rfl, rfl, rfl, rfl⟩
              case measure => simp [intOf]; omega)
          | false =>
            have hno : ∀ k (hk : k < xs.length), i < k → xs[k].client ≠ xs[i].client := fun k hk hik e => by
              have := hla.out.2 ⟨k, hik, hk, hk, hix, e⟩
              cases this
            have HE3 : Hid (∀ n, y.number < n → askE xs l y.client n = (1, zeroR)) := fun n hn => by
              have h := stay_next l hix hno (n := n) (by rw [← HY.out]; exact hn)
              rw [← HY.out] at h
              exact h
            have e1 := stay_early m h1 hu hno
            have e2 := stay_last l hix hno
            rw [← HY.out] at e1 e2
            obtain ⟨v1, r1, v2, r2, f1, f2, HC⟩ : ∃ (v1 : Int) (r1 : Res) (v2 : Int) (r2 : Res), askE (xs.take u) m y.client y.number = (v1, r1) ∧ askE xs l y.client y.number = (v2, r2) ∧ ((i < m ∧ v1 = 3 ∧ v2 = 3 ∧ r1 = r2) ∨ (¬ i < m ∧ i < l ∧ v1 = 2 ∧ v2 = 3) ∨ (¬ i < m ∧ ¬ i < l ∧ v1 = 2 ∧ v2 = 2)) := by
              rw [e1, e2]
              by_cases q1 : i < m
              · rw [if_pos q1, if_pos (by omega)]; exact ⟨_, _, _, _, rfl, rfl, .inl ⟨q1, rfl, rfl, rfl⟩⟩
              · rw [if_neg q1]
                by_cases q2 : i < l
                · rw [if_pos q2]; exact ⟨_, _, _, _, rfl, rfl, .inr (.inl ⟨q1, q2, rfl, rfl⟩)⟩
                · rw [if_neg q2]; exact ⟨_, _, _, _, rfl, rfl, .inr (.inr ⟨q1, q2, rfl, rfl⟩)⟩
            have HCC := Lib.hid HC
            have HN1 : Hid (Calls Try.prog 43 #[.slice (some ad) u cc, .int .i64 m, .int .i64 y.client, .int .i64 y.number] wr (AskPost wr v1 r1 0)) := by
              have h := HASKE.out wr HBR.out y.client y.number HE0.out
              rw [f1] at h
              exact h
            have HN2 : Hid (∀ W, Below w.heap.size w W → Calls Try.prog 43 #[.slice (some ad) xs.length cc, .int .i64 l, .int .i64 y.client, .int .i64 y.number] W (AskPost W v2 r2 0)) := fun W hW => by
              have h := HASK.out W hW y.client y.number HE0.out
              rw [f2] at h
              exact h
            have geq : ∀ W, (binOp .neq 58 (.agg #[.int .i64 r2.code, .int .i64 r2.slot, .string r2.value]) (.agg #[.int .i64 r2.code, .int .i64 r2.slot, .string r2.value])).run Try.prog W = .ok (.bool false) W := fun W => by have h := neq_res r2 r2 W; simpa using h
            have hgr := guard_res
            clear e1 e2 f1 f2 HC hla hno
            go_wp2_with fail
            with_reducible refine HN1.out.mono ?_
            rintro e w2 ⟨rfl, hb2⟩
            obtain ⟨V2, hV2⟩ : ∃ V, V = w2.alloc (.cells #[.int .i64 r1.code, .int .i64 r1.slot, .string r1.value] 58) := ⟨_, rfl⟩
            have ba2 : Below w2.heap.size w2 V2 := by rw [hV2]; exact (Below.refl _ _).alloc (Nat.le_refl _) _
            have bw2 := hb2.trans (ba2.mono hb2.size)
            have HB2 := Lib.hid (HBR.out.trans (bw2.mono HBR.out.size))
            have HX2 := Lib.hid ((bw2.block _ (Array.getElem?_eq_some_iff.1 HK2.out).1).trans HK2.out)
            have HK21 : Hid (V2.heap[w2.heap.size]? = some (.cells #[.int .i64 r1.code, .int .i64 r1.slot, .string r1.value] 58 (0, 0))) := by show _ = _; rw [hV2]; exact heap_alloc_new _ _
            have HV2 := Lib.hid hV2
            clear hb2 ba2 bw2 hV2 HN1 d0 d1
            have d0 := cell_of_row V2 B1 0 _ _ _ HX2.out
            have d1 := cell_of_row V2 B1 1 _ _ _ HX2.out
            rw [HV2.out] at d0 d1
            dsimp only
            go_wp2_with fail
            rw [← HV2.out]
            with_reducible refine (HN2.out V2 HB2.out).mono ?_
            rintro e w3 ⟨rfl, hb3⟩
            obtain ⟨V3, hV3⟩ : ∃ V, V = w3.alloc (.cells #[.int .i64 r2.code, .int .i64 r2.slot, .string r2.value] 58) := ⟨_, rfl⟩
            have ba3 : Below w3.heap.size w3 V3 := by rw [hV3]; exact (Below.refl _ _).alloc (Nat.le_refl _) _
            have bw3 := hb3.trans (ba3.mono hb3.size)
            have HB3 := Lib.hid (HB2.out.trans (bw3.mono HB2.out.size))
            have hx3 := (bw3.block _ (Array.getElem?_eq_some_iff.1 HX2.out).1).trans HX2.out
            have hk21 := (bw3.block _ (Array.getElem?_eq_some_iff.1 HK21.out).1).trans HK21.out
            have hk22 : V3.heap[w3.heap.size]? = some (.cells #[.int .i64 r2.code, .int .i64 r2.slot, .string r2.value] 58 (0, 0)) := by rw [hV3]; exact heap_alloc_new _ _
            have HV3 := Lib.hid hV3
            clear hb3 ba3 bw3 hV3 HN2 HX2 HK21 HV2 d0 d1
            dsimp only
            go_wp2_with fail
            rw [← HV3.out]
            clear HV3
            (
              with_reducible refine (num05 _ _).mono ?_
              rintro e w' ⟨rfl, hw4⟩
              rw [← hw4]
              clear hw4 w'
              dsimp only)
            have x0 := cell_of_row V3 w2.heap.size 0 _ _ _ hk21
            have x1 := cell_of_row V3 w2.heap.size 1 _ _ _ hk21
            have x2 := cell_of_row V3 w2.heap.size 2 _ _ _ hk21
            have y0 := cell_of_row V3 w3.heap.size 0 _ _ _ hk22
            have y1 := cell_of_row V3 w3.heap.size 1 _ _ _ hk22
            have y2 := cell_of_row V3 w3.heap.size 2 _ _ _ hk22
            have d0 := cell_of_row V3 B1 0 _ _ _ hx3
            have d1 := cell_of_row V3 B1 1 _ _ _ hx3
            clear hk21 hk22 hx3
            go_wp2_with fail
            (
              with_reducible refine (num05 _ _).mono ?_
              rintro e w' ⟨rfl, hw4⟩
              rw [← hw4]
              clear hw4 w'
              dsimp only)
            rcases HCC.out with ⟨q1, p1, p2, p3⟩ | ⟨q1, q2, p1, p2⟩ | ⟨q1, q2, p1, p2⟩
            · subst p1 p2 p3
              have z1 : decide ((i:Int) < (m:Int)) = true := decide_eq_true (by omega)
              have z2 : decide (i < m) = true := decide_eq_true q1
              have z3 : decide ((l:Int) ≤ (i:Int)) = false := decide_eq_false (by omega)
              have z4 : decide (l ≤ i) = false := decide_eq_false (by omega)
              clear q1 HCC
              (
                by_cases hmx : y.number < 9223372036854775807
                · have k7 : decide (y.number < 9223372036854775807) = true := decide_eq_true hmx
                  have k8 : IntKind.i64.wrap (y.number + 1) = y.number + 1 := IntWalk.i64_in _ (by omega)
                  have HN : Hid (Calls Try.prog 43 #[.slice (some ad) xs.length cc, .int .i64 l, .int .i64 y.client, .int .i64 (y.number + 1)] V3 (AskPost V3 1 zeroR 0)) := by
                    have h := HASK.out V3 HB3.out y.client (y.number + 1) (entry_of HBASE.out (by omega))
                    rw [HE3.out (y.number + 1) (by omega)] at h
                    exact h
                  clear hmx
                  go_wp2_with fail
                  with_reducible refine HN.out.mono ?_
                  rintro e w4 ⟨rfl, hb4⟩
                  have HB4 := Lib.hid (HB3.out.trans ((hb4.alloc hb4.size (.cells #[.int .i64 zeroR.code, .int .i64 zeroR.slot, .string zeroR.value] 58)).mono HB3.out.size))
                  clear hb4 HN
                  dsimp only
                  go_wp2_with fail
                  (
                    with_reducible refine (num05 _ _).mono ?_
                    rintro e w' ⟨rfl, hw4⟩
                    rw [← hw4]
                    clear hw4 w'
                    dsimp only)
                  go_wp2_with fail
                  (
                    go_roundw
                    case rel => first
                      | exact ⟨i + 1, by omega, by go_num, HB4.out⟩
                      | exact ⟨.int .i64 ((i : Int) + 1), _, _, _, _, _, _, _, _, _, _, _, _, _, _, _, _, ⟨i + 1, by omega, by go_num, HB4.out⟩, rfl, rfl, rfl, rfl, rfl, rfl, rfl, rfl, rfl, rfl, rfl, rfl, rfl, rfl, rfl, rfl, rfl⟩
                    case measure => simp [intOf]; omega)
                · have k7 : decide (y.number < 9223372036854775807) = false := decide_eq_false hmx
                  clear hmx
                  go_wp2_with fail
                  (
                    go_roundw
                    case rel => first
                      | exact ⟨i + 1, by omega, by go_num, HB3.out⟩
                      | exact ⟨.int .i64 ((i : Int) + 1), _, _, _, _, _, _, _, _, _, _, _, _, _, _, _, _, ⟨i + 1, by omega, by go_num, HB3.out⟩, rfl, rfl, rfl, rfl, rfl, rfl, rfl, rfl, rfl, rfl, rfl, rfl, rfl, rfl, rfl, rfl, rfl⟩
                    case measure => simp [intOf]; omega))
            · subst p1 p2
              have z1 : decide ((i:Int) < (m:Int)) = false := decide_eq_false (by omega)
              have z2 : decide (i < m) = false := decide_eq_false q1
              have z3 : decide ((l:Int) ≤ (i:Int)) = false := decide_eq_false (by omega)
              have z4 : decide (l ≤ i) = false := decide_eq_false (by omega)
              clear q1 q2 HCC
              (
                by_cases hmx : y.number < 9223372036854775807
                · have k7 : decide (y.number < 9223372036854775807) = true := decide_eq_true hmx
                  have k8 : IntKind.i64.wrap (y.number + 1) = y.number + 1 := IntWalk.i64_in _ (by omega)
                  have HN : Hid (Calls Try.prog 43 #[.slice (some ad) xs.length cc, .int .i64 l, .int .i64 y.client, .int .i64 (y.number + 1)] V3 (AskPost V3 1 zeroR 0)) := by
                    have h := HASK.out V3 HB3.out y.client (y.number + 1) (entry_of HBASE.out (by omega))
                    rw [HE3.out (y.number + 1) (by omega)] at h
                    exact h
                  clear hmx
                  go_wp2_with fail
                  with_reducible refine HN.out.mono ?_
                  rintro e w4 ⟨rfl, hb4⟩
                  have HB4 := Lib.hid (HB3.out.trans ((hb4.alloc hb4.size (.cells #[.int .i64 zeroR.code, .int .i64 zeroR.slot, .string zeroR.value] 58)).mono HB3.out.size))
                  clear hb4 HN
                  dsimp only
                  go_wp2_with fail
                  (
                    with_reducible refine (num05 _ _).mono ?_
                    rintro e w' ⟨rfl, hw4⟩
                    rw [← hw4]
                    clear hw4 w'
                    dsimp only)
                  go_wp2_with fail
                  (
                    go_roundw
                    case rel => first
                      | exact ⟨i + 1, by omega, by go_num, HB4.out⟩
                      | exact ⟨.int .i64 ((i : Int) + 1), _, _, _, _, _, _, _, _, _, _, _, _, _, _, _, _, ⟨i + 1, by omega, by go_num, HB4.out⟩, rfl, rfl, rfl, rfl, rfl, rfl, rfl, rfl, rfl, rfl, rfl, rfl, rfl, rfl, rfl, rfl, rfl⟩
                    case measure => simp [intOf]; omega)
                · have k7 : decide (y.number < 9223372036854775807) = false := decide_eq_false hmx
                  clear hmx
                  go_wp2_with fail
                  (
                    go_roundw
                    case rel => first
                      | exact ⟨i + 1, by omega, by go_num, HB3.out⟩
                      | exact ⟨.int .i64 ((i : Int) + 1), _, _, _, _, _, _, _, _, _, _, _, _, _, _, _, _, ⟨i + 1, by omega, by go_num, HB3.out⟩, rfl, rfl, rfl, rfl, rfl, rfl, rfl, rfl, rfl, rfl, rfl, rfl, rfl, rfl, rfl, rfl, rfl⟩
                    case measure => simp [intOf]; omega))
            · subst p1 p2
              have z1 : decide ((i:Int) < (m:Int)) = false := decide_eq_false (by omega)
              have z2 : decide (i < m) = false := decide_eq_false q1
              have z3 : decide ((l:Int) ≤ (i:Int)) = true := decide_eq_true (by omega)
              have z4 : decide (l ≤ i) = true := decide_eq_true (by omega)
              clear q1 q2 HCC
              (
                by_cases hmx : y.number < 9223372036854775807
                · have k7 : decide (y.number < 9223372036854775807) = true := decide_eq_true hmx
                  have k8 : IntKind.i64.wrap (y.number + 1) = y.number + 1 := IntWalk.i64_in _ (by omega)
                  have HN : Hid (Calls Try.prog 43 #[.slice (some ad) xs.length cc, .int .i64 l, .int .i64 y.client, .int .i64 (y.number + 1)] V3 (AskPost V3 1 zeroR 0)) := by
                    have h := HASK.out V3 HB3.out y.client (y.number + 1) (entry_of HBASE.out (by omega))
                    rw [HE3.out (y.number + 1) (by omega)] at h
                    exact h
                  clear hmx
                  go_wp2_with fail
                  with_reducible refine HN.out.mono ?_
                  rintro e w4 ⟨rfl, hb4⟩
                  have HB4 := Lib.hid (HB3.out.trans ((hb4.alloc hb4.size (.cells #[.int .i64 zeroR.code, .int .i64 zeroR.slot, .string zeroR.value] 58)).mono HB3.out.size))
                  clear hb4 HN
                  dsimp only
                  go_wp2_with fail
                  (
                    with_reducible refine (num05 _ _).mono ?_
                    rintro e w' ⟨rfl, hw4⟩
                    rw [← hw4]
                    clear hw4 w'
                    dsimp only)
                  go_wp2_with fail
                  (
                    go_roundw
                    case rel => first
                      | exact ⟨i + 1, by omega, by go_num, HB4.out⟩
                      | exact ⟨.int .i64 ((i : Int) + 1), _, _, _, _, _, _, _, _, _, _, _, _, _, _, _, _, ⟨i + 1, by omega, by go_num, HB4.out⟩, rfl, rfl, rfl, rfl, rfl, rfl, rfl, rfl, rfl, rfl, rfl, rfl, rfl, rfl, rfl, rfl, rfl⟩
                    case measure => simp [intOf]; omega)
                · have k7 : decide (y.number < 9223372036854775807) = false := decide_eq_false hmx
                  clear hmx
                  go_wp2_with fail
                  (
                    go_roundw
                    case rel => first
                      | exact ⟨i + 1, by omega, by go_num, HB3.out⟩
                      | exact ⟨.int .i64 ((i : Int) + 1), _, _, _, _, _, _, _, _, _, _, _, _, _, _, _, _, ⟨i + 1, by omega, by go_num, HB3.out⟩, rfl, rfl, rfl, rfl, rfl, rfl, rfl, rfl, rfl, rfl, rfl, rfl, rfl, rfl, rfl, rfl, rfl⟩
                    case measure => simp [intOf]; omega))
    · have g1 : decide ((i:Int) < (u:Int)) = false := decide_eq_false (by omega)
      have g1b : decide (i < u) = false := decide_eq_false h1
      go_wp2_with fail
      go_ret
      exact ⟨rfl, hbr.out⟩
end Go.Proofs.Ytnfilklgogaheaa

namespace Go.Proofs.Ytnfilklgogaheaa
open Go.RowKit
set_option linter.unusedVariables false
set_option linter.unusedSimpArgs false

theorem stays5_calls (A : Option Addr) (c n : Nat) (xs : List Entry) (m l u : Int) (hn : n = xs.length) (hc : n ≤ c) (w : World) (hb : (xs.length + 1) * 48 ≤ 140737488355328) (hv : ∀ x ∈ xs, x.op.value.size ≤ 9223372036854775807) (ha : Rd Entry.cells 5 w w.heap.size A xs) :
    Calls Try.prog 11 #[.slice A n c, .int .i64 m, .int .i64 l, .int .i64 u] w fun e w' => e = .returned (.bool true) ∧ Below w.heap.size w w' := by
  by_cases hg : StaysGood xs m l u
  · obtain ⟨h0, h1, h2, h3, h4, h5, h6⟩ := hg
    obtain ⟨m', rfl⟩ : ∃ k : Nat, m = (k : Int) := ⟨m.toNat, by omega⟩
    obtain ⟨l', rfl⟩ : ∃ k : Nat, l = (k : Int) := ⟨l.toNat, by omega⟩
    obtain ⟨u', rfl⟩ : ∃ k : Nat, u = (k : Int) := ⟨u.toNat, by omega⟩
    exact stays_good A c n xs m' l' u' hn hc w hb hv ha h0 (by omega) (by omega) (by omega) (by omega)
  · exact stays_bad A c n xs m l u hn hc w hb hv ha hg
theorem stays5_law (W : World) (A : Option Addr) (c n : Nat) (xs : List Entry) (hn : n = xs.length) (hc : n ≤ c) (hrd : Rd Entry.cells 5 W W.heap.size A xs) (hwf : ∀ o ∈ xs, o.wf) (hsz : xs.length * 48 ≤ 140737488351232) (m : Int) (_ : I64 m) (l : Int) (_ : I64 l) (u : Int) (_ : I64 u) :
    Calls Try.prog 11 #[.slice A n c, .int .i64 m, .int .i64 l, .int .i64 u] W fun e w' => e = .returned (.bool true) ∧ Below W.heap.size W w' :=
  stays5_calls A c n xs m l u hn hc W (by omega) (fun o ho => (hwf o ho).op.value) hrd
end Go.Proofs.Ytnfilklgogaheaa
