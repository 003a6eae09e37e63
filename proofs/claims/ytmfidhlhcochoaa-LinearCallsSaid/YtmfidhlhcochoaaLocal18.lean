/- Locality in plain lists: a history of writes and reads is explained just if each slot's own history is. Conditions: a history that may be. -/
import Derived.Test.YtmfidhlhcochoaaLinM1
namespace Go.Proofs.Ytmfidhlhcochoaa
set_option linter.unusedVariables false
set_option linter.unusedSimpArgs false

/-- One element, laid where the world ends. -/
theorem rd_at {α : Type} {enc : α → List Value} {k : Nat} (E : Enc enc k) (w : World) (x : α) (cs : Array Value) (hcs : cs.toList = enc x) (t' : TypeId) {g B : Nat} (hg : g = w.heap.size) (hB : g < B) : Rd enc k (w.alloc (.cells cs t')) B (some ⟨g, 0, none⟩) [x] := by
  subst hg
  exact (rd_one E w x cs hcs t').more hB
/-- Is it a write or a read? -/
def isPlain (x : Call) : Bool := decide (x.op.kind = 1) || decide (x.op.kind = 3)
def slotL (l : List Call) (s : Int) : List Call := l.filter fun x => isPlain x && decide (x.op.slot = s)
theorem goodC_op {x : Call} (h : goodC x = true) : checkOp x.op = 0 := by
  unfold goodC mayC at h
  simp only [Bool.and_eq_true, decide_eq_true_eq] at h
  exact h.1.1.2
theorem getC_putP (cs : List Cell) (c : Cell) (hr : Rising cs) (hc : Good c) (hn : getC cs c.slot = none) (k : Int) : getC (putC cs c) k = if c.slot = k then some c.value else getC cs k := by
  have hr2 := putC_rising hr hc (fun d hd => getC_none.1 hn d hd)
  by_cases e : c.slot = k
  · subst e
    rw [if_pos rfl]
    exact getC_of_mem hr2 (mem_putC.2 (.inl rfl))
  · rw [if_neg e]
    cases hg : getC cs k with
    | some v => exact getC_of_mem hr2 (mem_putC.2 (.inr (getC_some hg)))
    | none =>
      rw [getC_none] at hg ⊢
      intro d hd
      rcases mem_putC.1 hd with rfl | hd
      · exact e
      · exact hg d hd
theorem would_plain {cs : List Cell} {x : Call} (hg : goodC x = true) (hp : isPlain x = true) : would cs x.op = if x.op.kind = 1 then (match getC cs x.op.slot with | some v => ⟨2, x.op.slot, v⟩ | none => ⟨1, x.op.slot, x.op.value⟩) else (match getC cs x.op.slot with | some v => ⟨4, x.op.slot, v⟩ | none => ⟨5, x.op.slot, emp⟩) := by
  have hc := goodC_op hg
  unfold would
  rw [if_neg (by simp [hc])]
  unfold isPlain at hp
  simp only [Bool.or_eq_true, decide_eq_true_eq] at hp
  rcases hp with h | h
  · rw [if_pos h, if_pos h]
    rfl
  · rw [if_neg (by omega), if_neg (by omega), if_pos h, if_neg (by omega)]
    rfl
theorem good_slot {x : Call} (hg : goodC x = true) (hp : isPlain x = true) : 0 ≤ x.op.slot ∧ x.op.slot < 1024 ∧ (x.op.kind = 1 → x.op.value.size ≤ 64) := by
  have hc := goodC_op hg
  unfold isPlain at hp
  simp only [Bool.or_eq_true, decide_eq_true_eq] at hp
  unfold checkOp at hc
  rw [if_pos (by omega)] at hc
  have h1 : ¬ (x.op.slot < 0 ∨ 1024 ≤ x.op.slot) := fun h => by rw [if_pos h] at hc; exact absurd hc (by decide)
  rw [if_neg h1] at hc
  refine ⟨by omega, by omega, fun h => ?_⟩
  rw [if_pos h] at hc
  refine Nat.le_of_not_lt fun h2 => ?_
  rw [if_pos h2] at hc
  exact absurd hc (by decide)
theorem after_plain {cs : List Cell} {x : Call} (hr : Rising cs) (hg : goodC x = true) (hp : isPlain x = true) : Rising (after cs x.op) ∧ ∀ k, getC (after cs x.op) k = if k = x.op.slot ∧ x.op.kind = 1 ∧ getC cs k = none then some x.op.value else getC cs k := by
  have hw := would_plain (cs := cs) hg hp
  have hs := good_slot hg hp
  unfold after
  by_cases h1 : x.op.kind = 1
  · rw [if_pos h1] at hw
    cases hq : getC cs x.op.slot with
    | some v =>
      rw [hq] at hw
      rw [hw]
      refine ⟨by rw [if_neg (by simp)]; exact hr, fun k => ?_⟩
      rw [if_neg (by simp)]
      by_cases e : k = x.op.slot
      · subst e; simp [hq]
      · simp [e]
    | none =>
      rw [hq] at hw
      rw [hw]
      have hgd : Good ⟨x.op.slot, x.op.value⟩ := ⟨hs.1, hs.2.1, hs.2.2 h1⟩
      rw [if_pos rfl]
      refine ⟨putC_rising hr hgd (fun d hd => getC_none.1 hq d hd), fun k => ?_⟩
      rw [getC_putP cs _ hr hgd hq]
      by_cases e : x.op.slot = k
      · subst e; simp [hq, h1]
      · have e2 : ¬ k = x.op.slot := fun q => e q.symm
        simp [e, e2]
  · rw [if_neg h1] at hw
    have hcode : ¬ (would cs x.op).code = 1 := by
      rw [hw]
      cases getC cs x.op.slot <;> simp
    rw [if_neg hcode]
    exact ⟨hr, fun k => by simp [h1]⟩
theorem cells_rising {a : List Call} (hg : ∀ x ∈ a, goodC x = true) (hp : ∀ x ∈ a, isPlain x = true) : Rising (cellsOf a) := by
  have : ∀ (a : List Call) (cs : List Cell), Rising cs → (∀ x ∈ a, goodC x = true) → (∀ x ∈ a, isPlain x = true) → Rising (a.foldl (fun cs x => after cs x.op) cs) := by
    intro a
    induction a with
    | nil => intro cs h _ _; exact h
    | cons x a ih => intro cs h h1 h2; exact ih _ (after_plain h (h1 x (by simp)) (h2 x (by simp))).1 (fun y hy => h1 y (by simp [hy])) (fun y hy => h2 y (by simp [hy]))
  exact this a [] Rising.nil hg hp
/-- What a slot holds is told by its own calls. -/
theorem getC_slot {a : List Call} (hg : ∀ x ∈ a, goodC x = true) (hp : ∀ x ∈ a, isPlain x = true) (s : Int) : getC (cellsOf a) s = getC (cellsOf (slotL a s)) s := by
  have : ∀ (a : List Call) (cs ds : List Cell), Rising cs → Rising ds → getC cs s = getC ds s → (∀ x ∈ a, goodC x = true) → (∀ x ∈ a, isPlain x = true) → getC (a.foldl (fun cs x => after cs x.op) cs) s = getC ((slotL a s).foldl (fun cs x => after cs x.op) ds) s := by
    intro a
    induction a with
    | nil => intro cs ds _ _ h _ _; exact h
    | cons x a ih =>
      intro cs ds hc hd h h1 h2
      have g := h1 x (by simp)
      have p := h2 x (by simp)
      have ac := after_plain hc g p
      by_cases e : x.op.slot = s
      · have ad := after_plain hd g p
        have : slotL (x :: a) s = x :: slotL a s := by simp [slotL, p, e]
        rw [this]
        refine ih _ _ ac.1 ad.1 ?_ (fun y hy => h1 y (by simp [hy])) (fun y hy => h2 y (by simp [hy]))
        rw [ac.2, ad.2, h]
      · have : slotL (x :: a) s = slotL a s := by simp [slotL, p, e]
        rw [this]
        refine ih _ _ ac.1 hd ?_ (fun y hy => h1 y (by simp [hy])) (fun y hy => h2 y (by simp [hy]))
        rw [ac.2, if_neg (by rintro ⟨q, _⟩; exact e q.symm)]
        exact h
  exact this a [] [] Rising.nil Rising.nil rfl hg hp
theorem would_slot {a : List Call} (hg : ∀ x ∈ a, goodC x = true) (hp : ∀ x ∈ a, isPlain x = true) {x : Call} (hx : goodC x = true) (px : isPlain x = true) : would (cellsOf a) x.op = would (cellsOf (slotL a x.op.slot)) x.op := by
  rw [would_plain hx px, would_plain hx px, getC_slot hg hp]
theorem mem_slot {l : List Call} {s : Int} {x : Call} : x ∈ slotL l s ↔ x ∈ l ∧ isPlain x = true ∧ x.op.slot = s := by simp [slotL, and_assoc]
theorem slot_snoc_self {a : List Call} {x : Call} (p : isPlain x = true) : slotL (a ++ [x]) x.op.slot = slotL a x.op.slot ++ [x] := by simp [slotL, p]
theorem slot_snoc_other {a : List Call} {x : Call} {s : Int} (e : x.op.slot ≠ s) : slotL (a ++ [x]) s = slotL a s := by simp [slotL, e]
theorem runs_slot {l : List Call} (hg : GoodL l) (hp : ∀ x ∈ l, isPlain x = true) (s : Int) : ∀ (b a : List Call), (∀ x ∈ a, x ∈ l) → Runs l a b → Runs (slotL l s) (slotL a s) (slotL b s) := by
  intro b
  induction b with
  | nil =>
    intro a ha hr y hy hf
    obtain ⟨h1, h2, h3⟩ := mem_slot.1 hy
    exact mem_slot.2 ⟨hr y h1 hf, h2, h3⟩
  | cons x b ih =>
    intro a ha hr
    obtain ⟨hx, hxa, hpr, hq, hr⟩ := hr
    have ha' : ∀ z ∈ a ++ [x], z ∈ l := fun z hz => by
      rcases List.mem_append.1 hz with hz | hz
      · exact ha z hz
      · simp only [List.mem_singleton] at hz; subst hz; exact hx
    have h := ih (a ++ [x]) ha' hr
    have px := hp x hx
    by_cases e : x.op.slot = s
    · subst e
      rw [slot_snoc_self px] at h
      have : slotL (x :: b) x.op.slot = x :: slotL b x.op.slot := by simp [slotL, px]
      rw [this]
      refine ⟨mem_slot.2 ⟨hx, px, rfl⟩, fun hm => hxa (mem_slot.1 hm).1, fun y hy hy2 => ?_, fun hf => ?_, h⟩
      · obtain ⟨h1, h2, h3⟩ := mem_slot.1 hy
        exact mem_slot.2 ⟨hpr y h1 hy2, h2, h3⟩
      · rw [← would_slot (fun z hz => hg.good (ha z hz)) (fun z hz => hp z (ha z hz)) (hg.good hx) px]
        exact hq hf
    · rw [slot_snoc_other e] at h
      have : slotL (x :: b) s = slotL b s := by simp [slotL, px, e]
      rw [this]
      exact h
theorem Expl.slot {l : List Call} (hg : GoodL l) (hp : ∀ x ∈ l, isPlain x = true) (h : Expl l) (s : Int) : Expl (slotL l s) := by
  obtain ⟨b, hb⟩ := h
  exact ⟨_, runs_slot hg hp s b [] (fun x hx => by simp at hx) hb⟩
theorem least_fin (m : List Call) (h : m ≠ []) : ∃ y ∈ m, ∀ z ∈ m, y.fin ≤ z.fin := by
  induction m with
  | nil => exact absurd rfl h
  | cons x m ih =>
    by_cases e : m = []
    · subst e; exact ⟨x, by simp, fun z hz => by simp at hz; subst hz; omega⟩
    · obtain ⟨y, hy, hm⟩ := ih e
      by_cases c : x.fin ≤ y.fin
      · exact ⟨x, by simp, fun z hz => by rcases List.mem_cons.1 hz with rfl | hz; omega; have := hm z hz; omega⟩
      · exact ⟨y, by simp [hy], fun z hz => by rcases List.mem_cons.1 hz with rfl | hz; omega; exact hm z hz⟩
/-- The slots' orders, laid together: next stands the call that its slot has next, of the slot whose answer comes first. -/
theorem runs_join {l : List Call} (hg : GoodL l) (hp : ∀ x ∈ l, isPlain x = true) : ∀ (n : Nat) (a : List Call) (R : Int → List Call), (l.filter fun x => !decide (x ∈ a)).length ≤ n → (∀ x ∈ a, x ∈ l) → (∀ s, Runs (slotL l s) (slotL a s) (R s)) → ∃ b, Runs l a b := by
  intro n
  induction n with
  | zero =>
    intro a R hn ha hR
    refine ⟨[], fun y hy _ => ?_⟩
    have := List.length_eq_zero_iff.1 (Nat.le_zero.1 hn)
    rw [List.filter_eq_nil_iff] at this
    simpa using this y hy
  | succ n ih =>
    intro a R hn ha hR
    by_cases hall : ∀ y ∈ l, 0 ≤ y.fin → y ∈ a
    · exact ⟨[], hall⟩
    · have hne : (l.filter fun x => decide (0 ≤ x.fin) && !decide (x ∈ a)) ≠ [] := fun hc => hall fun y hy hf => by
        rw [List.filter_eq_nil_iff] at hc
        simpa [hf] using hc y hy
      obtain ⟨y, hy, hmin⟩ := least_fin _ hne
      rw [List.mem_filter] at hy
      obtain ⟨hyl, hy2⟩ := hy
      simp only [Bool.and_eq_true, decide_eq_true_eq, Bool.not_eq_true', decide_eq_false_iff_not] at hy2
      obtain ⟨hyf, hya⟩ := hy2
      have py := hp y hyl
      have hys : y ∈ slotL l y.op.slot := mem_slot.2 ⟨hyl, py, rfl⟩
      cases hRs : R y.op.slot with
      | nil =>
        have h := hR y.op.slot
        rw [hRs] at h
        exact absurd (mem_slot.1 (h y hys hyf)).1 hya
      | cons x b0 =>
        have h := hR y.op.slot
        rw [hRs] at h
        obtain ⟨hx, hxa, hpr, hq, hr⟩ := h
        obtain ⟨hxl, px, hxs⟩ := mem_slot.1 hx
        have hxa' : x ∉ a := fun hm => hxa (mem_slot.2 ⟨hm, px, hxs⟩)
        have ha' : ∀ z ∈ a ++ [x], z ∈ l := fun z hz => by
          rcases List.mem_append.1 hz with hz | hz
          · exact ha z hz
          · simp only [List.mem_singleton] at hz; subst hz; exact hxl
        have hlen : (l.filter fun z => !decide (z ∈ a ++ [x])).length ≤ n := by
          have h1 : (l.filter fun z => !decide (z ∈ a ++ [x])) = (l.filter fun z => !decide (z ∈ a)).filter fun z => !decide (z = x) := by
            rw [List.filter_filter]
            refine List.filter_congr fun z _ => ?_
            rw [Bool.eq_iff_iff]
            simp only [List.mem_append, List.mem_singleton, Bool.and_eq_true, Bool.not_eq_true', decide_eq_false_iff_not, not_or]
            exact And.comm
          rw [h1]
          have hm : x ∈ l.filter fun z => !decide (z ∈ a) := List.mem_filter.2 ⟨hxl, by simpa using hxa'⟩
          have h2 : ((l.filter fun z => !decide (z ∈ a)).filter fun z => !decide (z = x)).length < (l.filter fun z => !decide (z ∈ a)).length := by
            have := List.length_filter_lt_length_iff_exists (l := l.filter fun z => !decide (z ∈ a)) (p := fun z => !decide (z = x))
            exact this.2 ⟨x, hm, by simp⟩
          omega
        obtain ⟨b, hb⟩ := ih (a ++ [x]) (fun s => if s = y.op.slot then b0 else R s) hlen ha' (fun s => by
          by_cases e : s = y.op.slot
          · subst e
            rw [if_pos rfl]
            have := slot_snoc_self (a := a) px
            rw [hxs] at this
            rw [this]
            exact hr
          · rw [if_neg e, slot_snoc_other (by rw [hxs]; exact fun q => e q.symm)]
            exact hR s)
        refine ⟨x :: b, hxl, hxa', fun z hz hzx => ?_, fun hf => ?_, hb⟩
        · refine Classical.byContradiction fun hza => ?_
          unfold precedes at hzx
          simp only [Bool.and_eq_true, decide_eq_true_eq] at hzx
          have h1 := hmin z (List.mem_filter.2 ⟨hz, by simp [hzx.1, hza]⟩)
          exact hya (mem_slot.1 (hpr y hys (by unfold precedes; simp only [Bool.and_eq_true, decide_eq_true_eq]; omega))).1
        · rw [would_slot (fun z hz => hg.good (ha z hz)) (fun z hz => hp z (ha z hz)) (hg.good hxl) px, hxs]
          exact hq hf
/-- Locality: a slot that no call names needs no word. -/
theorem Expl.join {l : List Call} (hg : GoodL l) (hp : ∀ x ∈ l, isPlain x = true) (h : ∀ x ∈ l, Expl (slotL l x.op.slot)) : Expl l := by
  have hall : ∀ s, Expl (slotL l s) := fun s => by
    by_cases e : ∃ x ∈ l, x.op.slot = s
    · obtain ⟨x, hx, rfl⟩ := e; exact h x hx
    · refine ⟨[], fun y hy _ => ?_⟩
      obtain ⟨h1, h2, h3⟩ := mem_slot.1 hy
      exact absurd ⟨y, h1, h3⟩ e
  obtain ⟨b, hb⟩ := runs_join hg hp l.length [] (fun s => Classical.choose (hall s)) (List.length_filter_le _ _) (fun x hx => by simp at hx) (fun s => by
    show Runs (slotL l s) [] _
    exact Classical.choose_spec (hall s))
  exact ⟨b, hb⟩
end Go.Proofs.Ytmfidhlhcochoaa
