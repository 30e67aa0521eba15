/- Graphs: what leads to what, by ways whose inner places are below a bound, and by steps; masks of bits; the order of nodes. Plain facts, no program in sight. -/
namespace Go.Proofs.YtafhepilcmimlaaDoor

/-- A way from i to j whose inner places are below k. -/
inductive Via (E : Nat → Nat → Bool) (k : Nat) : Nat → Nat → Prop
  | one {i j : Nat} : E i j = true → Via E k i j
  | cat {i m j : Nat} : Via E k i m → m < k → Via E k m j → Via E k i j

section
variable {E : Nat → Nat → Bool}
theorem Via.mono {k k' i j : Nat} (h : Via E k i j) (hk : k ≤ k') : Via E k' i j := by
  induction h with
  | one h => exact .one h
  | cat _ hm _ ih1 ih2 => exact .cat ih1 (by omega) ih2
theorem Via.succ {k i j : Nat} : Via E (k + 1) i j ↔ Via E k i j ∨ (Via E k i k ∧ Via E k k j) := by
  constructor
  · intro h
    induction h with
    | one h => exact .inl (.one h)
    | @cat i m j _ hm _ ih1 ih2 =>
      by_cases hmk : m = k
      · subst hmk
        exact .inr ⟨ih1.elim id (·.1), ih2.elim id (·.2)⟩
      · have hm' : m < k := by omega
        rcases ih1 with a | ⟨a, b⟩ <;> rcases ih2 with c | ⟨c, d⟩
        · exact .inl (.cat a hm' c)
        · exact .inr ⟨.cat a hm' c, d⟩
        · exact .inr ⟨a, .cat b hm' c⟩
        · exact .inr ⟨a, d⟩
  · rintro (h | ⟨h1, h2⟩)
    · exact h.mono (by omega)
    · exact .cat (h1.mono (by omega)) (by omega) (h2.mono (by omega))
theorem Via.zero {i j : Nat} : Via E 0 i j ↔ E i j = true := by
  constructor
  · intro h
    cases h with
    | one h => exact h
    | cat _ hm _ => omega
  · exact .one

/-- What one leads to in so many steps and one more. -/
def stepTo (E : Nat → Nat → Bool) (n i : Nat) : Nat → Nat → Bool
  | 0, j => E i j
  | s + 1, j => stepTo E n i s j || (List.range n).any fun m => stepTo E n i s m && E m j
theorem stepTo_succ (n i s j : Nat) : stepTo E n i (s + 1) j = (stepTo E n i s j || (List.range n).any fun m => stepTo E n i s m && E m j) := rfl
theorem stepTo_up {n i s j : Nat} (h : stepTo E n i s j = true) : stepTo E n i (s + 1) j = true := by rw [stepTo_succ, h]; rfl
theorem stepTo_edge {n i s m j : Nat} (h : stepTo E n i s m = true) (hm : m < n) (he : E m j = true) : stepTo E n i (s + 1) j = true := by
  rw [stepTo_succ, Bool.or_eq_true]
  exact .inr (List.any_eq_true.2 ⟨m, List.mem_range.2 hm, by rw [h, he]; rfl⟩)
theorem via_of_step {n i : Nat} : ∀ {s j : Nat}, stepTo E n i s j = true → Via E n i j
  | 0, _, h => .one h
  | s + 1, j, h => by
    rw [stepTo_succ, Bool.or_eq_true] at h
    rcases h with h | h
    · exact via_of_step h
    · obtain ⟨m, hm, hx⟩ := List.any_eq_true.1 h
      rw [Bool.and_eq_true] at hx
      exact .cat (via_of_step hx.1) (List.mem_range.1 hm) (.one hx.2)
theorem step_of_via {n i a j : Nat} (h : Via E n a j) : (a = i ∨ (a < n ∧ ∃ s, stepTo E n i s a = true)) → ∃ s, stepTo E n i s j = true := by
  induction h with
  | one h =>
    rintro (rfl | ⟨ha, s, hs⟩)
    · exact ⟨0, h⟩
    · exact ⟨s + 1, stepTo_edge hs ha h⟩
  | cat _ hm _ ih1 ih2 => exact fun hq => ih2 (.inr ⟨hm, ih1 hq⟩)

theorem countP_le {α : Type} {p q : α → Bool} : ∀ {l : List α}, (∀ x ∈ l, p x = true → q x = true) → l.countP p ≤ l.countP q
  | [], _ => Nat.le_refl _
  | x :: l, h => by
    have := countP_le (l := l) fun y hy => h y (by simp [hy])
    have hx := h x (by simp)
    rw [List.countP_cons, List.countP_cons]
    cases hp : p x
    · cases q x <;> simp <;> omega
    · rw [hx hp]; simp; omega
theorem countP_lt {α : Type} {p q : α → Bool} : ∀ {l : List α}, (∀ x ∈ l, p x = true → q x = true) → (∃ x ∈ l, p x = false ∧ q x = true) → l.countP p < l.countP q
  | [], _, ⟨_, h, _⟩ => by simp at h
  | x :: l, h, ⟨y, hy, hp, hq⟩ => by
    have hle := countP_le (l := l) (p := p) (q := q) fun z hz => h z (by simp [hz])
    have hx := h x (by simp)
    rw [List.countP_cons, List.countP_cons]
    rcases List.mem_cons.1 hy with rfl | hy
    · rw [hp, hq]; simp; omega
    · have := countP_lt (l := l) (p := p) (q := q) (fun z hz => h z (by simp [hz])) ⟨y, hy, hp, hq⟩
      cases hp' : p x
      · cases q x <;> simp <;> omega
      · rw [hx hp']; simp; omega

theorem step_stable {n i s : Nat} (h : ∀ j, j < n → stepTo E n i (s + 1) j = stepTo E n i s j) : ∀ t, s ≤ t → ∀ j, j < n → stepTo E n i t j = stepTo E n i s j := by
  intro t
  induction t with
  | zero => intro ht j _; obtain rfl : s = 0 := by omega
            rfl
  | succ t ih =>
    intro ht j hj
    by_cases e : s = t + 1
    · rw [e]
    · have hst : s ≤ t := by omega
      have hs := h j hj
      rw [stepTo_succ] at hs
      rw [stepTo_succ, ih hst j hj]
      refine Eq.trans ?_ hs
      congr 1
      apply Bool.eq_iff_iff.2
      rw [List.any_eq_true, List.any_eq_true]
      constructor
      · rintro ⟨m, hm, hx⟩; exact ⟨m, hm, by rw [← ih hst m (List.mem_range.1 hm)]; exact hx⟩
      · rintro ⟨m, hm, hx⟩; exact ⟨m, hm, by rw [ih hst m (List.mem_range.1 hm)]; exact hx⟩
theorem step_fix (n i : Nat) : ∃ s, s ≤ n ∧ ∀ j, j < n → stepTo E n i (s + 1) j = stepTo E n i s j := by
  refine Classical.byContradiction fun hno => ?_
  have hgrow : ∀ s, s ≤ n → (List.range n).countP (stepTo E n i s) < (List.range n).countP (stepTo E n i (s + 1)) := fun s hs => by
    refine countP_lt (fun x _ h => stepTo_up h) ?_
    refine Classical.byContradiction fun hc => hno ⟨s, hs, fun j hj => ?_⟩
    cases h0 : stepTo E n i s j
    · cases h1 : stepTo E n i (s + 1) j
      · rfl
      · exact (hc ⟨j, List.mem_range.2 hj, h0, h1⟩).elim
    · exact stepTo_up h0
  have hcount : ∀ s, s ≤ n + 1 → s ≤ (List.range n).countP (stepTo E n i s) := by
    intro s
    induction s with
    | zero => intro _; omega
    | succ s ih => intro hs; have h1 := ih (by omega); have h2 := hgrow s (by omega); omega
  have h1 := hcount (n + 1) (Nat.le_refl _)
  have h2 : (List.range n).countP (stepTo E n i (n + 1)) ≤ (List.range n).length := List.countP_le_length
  rw [List.length_range] at h2
  omega
/-- So many steps as there are nodes are enough. -/
theorem step_via {n i j s : Nat} (hj : j < n) (hs : n ≤ s) : stepTo E n i s j = true ↔ Via E n i j := by
  refine ⟨via_of_step, fun h => ?_⟩
  obtain ⟨t, ht⟩ := step_of_via (i := i) h (.inl rfl)
  obtain ⟨f, hf, hfix⟩ := step_fix (E := E) n i
  have hst := step_stable hfix
  rw [hst s (by omega) j hj]
  by_cases htf : f ≤ t
  · rw [← hst t htf j hj]; exact ht
  · have hup : ∀ d, stepTo E n i (t + d) j = true := by
      intro d
      induction d with
      | zero => exact ht
      | succ d ih => exact stepTo_up ih
    have := hup (f - t)
    rw [show t + (f - t) = f by omega] at this
    exact this

/-- The masks of all nodes: those ahead of c know the ways by way of k too. -/
def Masks (E : Nat → Nat → Bool) (n k c : Nat) (ms : List Nat) : Prop :=
  ms.length = n ∧ ∀ i m, ms[i]? = some m → m < 1024 ∧ ∀ j, m.testBit j = true ↔ (if i < c then Via E (k + 1) i j else Via E k i j)
theorem Masks.row {n k : Nat} {ms : List Nat} (h : Masks E n k n ms) : Masks E n (k + 1) 0 ms := by
  refine ⟨h.1, fun i m hi => ⟨(h.2 i m hi).1, fun j => ?_⟩⟩
  have hlt : i < n := by have := (List.getElem?_eq_some_iff.1 hi).1; have := h.1; omega
  rw [(h.2 i m hi).2 j, if_pos hlt, if_neg (Nat.not_lt_zero _)]
theorem Masks.skip {n k c : Nat} {ms : List Nat} {m : Nat} (h : Masks E n k c ms) (hc : ms[c]? = some m) (hb : m.testBit k = false) : Masks E n k (c + 1) ms := by
  refine ⟨h.1, fun i m' hi => ⟨(h.2 i m' hi).1, fun j => ?_⟩⟩
  rw [(h.2 i m' hi).2 j]
  by_cases e : i = c
  · subst e
    rw [hc] at hi; injection hi with hi; subst hi
    have hk := (h.2 i m hc).2 k
    rw [if_neg (Nat.lt_irrefl _), hb] at hk
    rw [if_neg (Nat.lt_irrefl _), if_pos (Nat.lt_succ_self _), Via.succ (i := i)]
    exact ⟨.inl, fun h => h.elim id fun h => absurd (hk.2 h.1) (by simp)⟩
  · by_cases hic : i < c
    · rw [if_pos hic, if_pos (by omega)]
    · rw [if_neg hic, if_neg (by omega)]
theorem or_small {a b : Nat} (ha : a < 1024) (hb : b < 1024) : a ||| b < 1024 := Nat.or_lt_two_pow (n := 10) ha hb
theorem pow_small {k : Nat} (h : k < 10) : 2 ^ k < 1024 := by
  have := Nat.pow_lt_pow_right (a := 2) (by decide) h
  exact this
theorem Masks.join {n k c : Nat} {ms : List Nat} {m r : Nat} (h : Masks E n k c ms) (hc : ms[c]? = some m) (hr : ms[k]? = some r) (hb : m.testBit k = true) : Masks E n k (c + 1) (ms.set c (m ||| r)) := by
  have hcl := (List.getElem?_eq_some_iff.1 hc).1
  refine ⟨by rw [List.length_set]; exact h.1, fun i m' hi => ?_⟩
  by_cases e : i = c
  · subst e
    rw [List.getElem?_set_self hcl] at hi
    injection hi with hi; subst hi
    refine ⟨or_small (h.2 i m hc).1 (h.2 k r hr).1, fun j => ?_⟩
    rw [Nat.testBit_or, Bool.or_eq_true, (h.2 i m hc).2 j, (h.2 k r hr).2 j, if_neg (Nat.lt_irrefl _), if_pos (Nat.lt_succ_self _), Via.succ (i := i)]
    have hik := (h.2 i m hc).2 k
    rw [if_neg (Nat.lt_irrefl _), hb] at hik
    have hik := hik.1 rfl
    constructor
    · rintro (h1 | h1)
      · exact .inl h1
      · by_cases hki : k < i
        · rw [if_pos hki] at h1
          exact .inr ⟨hik, (Via.succ.1 h1).elim id (·.2)⟩
        · rw [if_neg hki] at h1
          exact .inr ⟨hik, h1⟩
    · rintro (h1 | h1)
      · exact .inl h1
      · right
        by_cases hki : k < i
        · rw [if_pos hki]; exact Via.succ.2 (.inl h1.2)
        · rw [if_neg hki]; exact h1.2
  · rw [List.getElem?_set_ne (by omega)] at hi
    refine ⟨(h.2 i m' hi).1, fun j => ?_⟩
    rw [(h.2 i m' hi).2 j]
    by_cases hic : i < c
    · rw [if_pos hic, if_pos (by omega)]
    · rw [if_neg hic, if_neg (by omega)]
theorem Masks.start {n : Nat} {ms : List Nat} (hl : ms.length = n) (h : ∀ i m, ms[i]? = some m → m < 1024 ∧ ∀ j, m.testBit j = true ↔ E i j = true) : Masks E n 0 0 ms :=
  ⟨hl, fun i m hi => ⟨(h i m hi).1, fun j => by rw [(h i m hi).2 j, if_neg (Nat.not_lt_zero _), Via.zero]⟩⟩
end

/-- The mask of what a list leads to. -/
def maskOf {α : Type} (fd : α → Option Nat) (l : List α) : Nat := l.foldl (fun a s => match fd s with | some k => a ||| 2 ^ k | none => a) 0
theorem maskOf_snoc {α : Type} (fd : α → Option Nat) (l : List α) (s : α) : maskOf fd (l ++ [s]) = match fd s with | some k => maskOf fd l ||| 2 ^ k | none => maskOf fd l := by
  unfold maskOf; rw [List.foldl_append]; rfl
theorem list_snoc {α : Type} {P : List α → Prop} (h0 : P []) (h1 : ∀ l x, P l → P (l ++ [x])) (l : List α) : P l := by
  have h : ∀ n (l : List α), l.length = n → P l := by
    intro n
    induction n with
    | zero => intro l hl; rw [List.length_eq_zero_iff.1 hl]; exact h0
    | succ n ih =>
      intro l hl
      have hne : l ≠ [] := by intro e; subst e; simp at hl
      rw [← List.dropLast_concat_getLast hne]
      exact h1 _ _ (ih _ (by rw [List.length_dropLast]; omega))
  exact h _ l rfl
theorem maskOf_bit {α : Type} (fd : α → Option Nat) (l : List α) (j : Nat) : (maskOf fd l).testBit j = l.any fun s => decide (fd s = some j) := by
  induction l using list_snoc with
  | h0 => simp [maskOf]
  | h1 l s ih =>
    rw [maskOf_snoc, List.any_append]
    cases hs : fd s with
    | none => simp [ih, hs]
    | some k => simp [ih, hs, Nat.testBit_or, Nat.testBit_two_pow]
theorem maskOf_small {α : Type} (fd : α → Option Nat) (hfd : ∀ s k, fd s = some k → k < 10) (l : List α) : maskOf fd l < 1024 := by
  induction l using list_snoc with
  | h0 => simp [maskOf]
  | h1 l s ih =>
    rw [maskOf_snoc]
    cases hs : fd s with
    | none => exact ih
    | some k => exact or_small ih (pow_small (hfd s k hs))

/-- Which node is next: the first one that is not told yet, is not in a round, and uses nothing else that is to come. -/
def readyN (E : Nat → Nat → Bool) (R : Nat → Bool) (n : Nat) (ds : List Nat) (i : Nat) : Bool :=
  !(R i || ds.contains i) && (List.range n).all fun k => !(E i k) || (R k || ds.contains k)
def nextN (E : Nat → Nat → Bool) (R : Nat → Bool) (n : Nat) (ds : List Nat) : List Nat :=
  match (List.range n).find? (readyN E R n ds) with
  | some i => ds ++ [i]
  | none => ds
def orderN (E : Nat → Nat → Bool) (R : Nat → Bool) (n : Nat) : Nat → List Nat
  | 0 => []
  | s + 1 => nextN E R n (orderN E R n s)
theorem range_find {p : Nat → Bool} {n i : Nat} (hi : i < n) (h : p i = true) (hb : ∀ j, j < i → p j = false) : (List.range n).find? p = some i := by
  rw [List.find?_eq_some_iff_getElem]
  refine ⟨h, i, by simpa using hi, by simp, fun j hj => ?_⟩
  simp [hb j hj]
theorem range_none {p : Nat → Bool} {n : Nat} (hb : ∀ j, j < n → p j = false) : (List.range n).find? p = none := by
  rw [List.find?_eq_none]
  intro x hx
  simp [hb x (List.mem_range.1 hx)]
theorem nextN_hit {E : Nat → Nat → Bool} {R : Nat → Bool} {n i : Nat} {ds : List Nat} (hi : i < n) (h : readyN E R n ds i = true) (hb : ∀ j, j < i → readyN E R n ds j = false) : nextN E R n ds = ds ++ [i] := by
  unfold nextN; rw [range_find hi h hb]
theorem nextN_none {E : Nat → Nat → Bool} {R : Nat → Bool} {n : Nat} {ds : List Nat} (hb : ∀ j, j < n → readyN E R n ds j = false) : nextN E R n ds = ds := by
  unfold nextN; rw [range_none hb]
theorem orderN_lt {E : Nat → Nat → Bool} {R : Nat → Bool} {n : Nat} : ∀ s, (∀ i ∈ orderN E R n s, i < n) ∧ (orderN E R n s).length ≤ s
  | 0 => ⟨fun _ h => by simp [orderN] at h, Nat.le_refl _⟩
  | s + 1 => by
    obtain ⟨h1, h2⟩ := orderN_lt (E := E) (R := R) (n := n) s
    unfold orderN nextN
    split
    · next i hi =>
      have hin : i < n := List.mem_range.1 (List.mem_of_find?_eq_some hi)
      refine ⟨fun k hk => ?_, by rw [List.length_append]; simp; omega⟩
      rcases List.mem_append.1 hk with hk | hk
      · exact h1 k hk
      · simp at hk; omega
    · exact ⟨h1, by omega⟩

/-- The mask of those that are done. -/
def Done (R : Nat → Bool) (n : Nat) (ds : List Nat) (d : Nat) : Prop := d < 1024 ∧ ∀ i, d.testBit i = (decide (i < n) && (R i || ds.contains i))
theorem Done.add {R : Nat → Bool} {n i d : Nat} {ds : List Nat} (h : Done R n ds d) (hi : i < n) (h10 : n ≤ 10) : Done R n (ds ++ [i]) (d ||| 2 ^ i) := by
  refine ⟨or_small h.1 (pow_small (by omega)), fun j => ?_⟩
  rw [Nat.testBit_or, Nat.testBit_two_pow, h.2 j]
  by_cases e : i = j
  · subst e; simp [hi]
  · have e' : ¬ j = i := fun h => e h.symm
    simp [e, e', List.contains_eq_mem]
/-- The program's test at a node: is it done, or does it use what is not? -/
theorem ready_bits {E : Nat → Nat → Bool} {R : Nat → Bool} {n i d a : Nat} {ds : List Nat} (h : Done R n ds d) (hi : i < n) (ha : ∀ j, a.testBit j = (decide (j < n) && E i j)) :
    readyN E R n ds i = (!(d.testBit i) && (List.range n).all fun k => !(a.testBit k && !(d.testBit k))) := by
  unfold readyN
  rw [h.2 i]
  simp only [hi, decide_true, Bool.true_and]
  congr 1
  apply Bool.eq_iff_iff.2
  rw [List.all_eq_true, List.all_eq_true]
  constructor
  · intro hk k hm
    have := hk k hm
    have hkn := List.mem_range.1 hm
    rw [ha k, h.2 k]
    simp only [hkn, decide_true, Bool.true_and]
    revert this
    cases E i k <;> cases (R k || ds.contains k) <;> simp
  · intro hk k hm
    have := hk k hm
    have hkn := List.mem_range.1 hm
    rw [ha k, h.2 k] at this
    simp only [hkn, decide_true, Bool.true_and] at this
    revert this
    cases E i k <;> cases (R k || ds.contains k) <;> simp

end Go.Proofs.YtafhepilcmimlaaDoor
