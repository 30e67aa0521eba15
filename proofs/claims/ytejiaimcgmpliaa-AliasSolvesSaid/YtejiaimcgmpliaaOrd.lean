/- The order of texts; lists that are sorted by it; the first fault of a list. No program is named here. -/
import Derived.Test.YtejiaimcgmpliaaPlain
import Derived.Sort.Walk0
import Derived.Lib.Bytealg
namespace Go.Proofs.Ytejiaimcgmpliaa

/-- Does a text stand ahead of another? -/
def ltS (a b : ByteArray) : Bool := Op.bytesLess a.toList b.toList
theorem ltS_iff (a b : ByteArray) : ltS a b = true ↔ a.data.toList < b.data.toList := by
  unfold ltS
  rw [bytesLess_eq, decide_eq_true_eq, ByteArray.toList_eq, ByteArray.toList_eq]
theorem data_inj {a b : ByteArray} (h : a.data.toList = b.data.toList) : a = b := by
  cases a with | mk x => cases b with | mk y => cases x; cases y; simp at h; subst h; rfl
theorem ltS_irrefl (a : ByteArray) : ltS a a = false := by
  rw [Bool.eq_false_iff]
  intro h
  exact List.lt_irrefl _ ((ltS_iff a a).1 h)
theorem ltS_trans {a b c : ByteArray} (h : ltS a b = true) (k : ltS b c = true) : ltS a c = true :=
  (ltS_iff a c).2 (List.lt_trans ((ltS_iff a b).1 h) ((ltS_iff b c).1 k))
theorem ltS_asymm {a b : ByteArray} (h : ltS a b = true) : ltS b a = false := by
  rw [Bool.eq_false_iff]
  intro k
  have := ltS_trans h k
  rw [ltS_irrefl] at this
  cases this
theorem ltS_total {a b : ByteArray} (h : ltS a b = false) (k : ltS b a = false) : a = b := by
  have h1 : ¬ a.data.toList < b.data.toList := fun e => by rw [(ltS_iff a b).2 e] at h; cases h
  have h2 : ¬ b.data.toList < a.data.toList := fun e => by rw [(ltS_iff b a).2 e] at k; cases k
  exact data_inj (List.le_antisymm (List.not_lt.1 h2) (List.not_lt.1 h1))
theorem ltS_ne {a b : ByteArray} (h : ltS a b = true) : a ≠ b := by
  rintro rfl
  rw [ltS_irrefl] at h; cases h

theorem cmp_neg : ∀ (x y : List UInt8), decide (Lib.compareBytes x y < 0) = Op.bytesLess x y
  | [], [] => by simp [Lib.compareBytes, Op.bytesLess]
  | [], _ :: _ => by simp [Lib.compareBytes, Op.bytesLess]
  | _ :: _, [] => by simp [Lib.compareBytes, Op.bytesLess]
  | a :: x, b :: y => by
    have ih := cmp_neg x y
    rw [bytesLess_eq] at ih ⊢
    unfold Lib.compareBytes
    by_cases h : a < b
    · simp [h, List.cons_lt_cons_iff]
    · by_cases k : b < a
      · have : a ≠ b := by rintro rfl; exact h k
        simp only [h, k, if_false, if_true, List.cons_lt_cons_iff, this, false_and, or_false]
        decide
      · have : a = b := UInt8.le_antisymm (UInt8.not_lt.1 k) (UInt8.not_lt.1 h)
        subst this
        simp only [h, if_false, List.cons_lt_cons_iff, true_and, false_or]
        rw [ih]
theorem cmp_zero : ∀ (x y : List UInt8), Lib.compareBytes x y = 0 ↔ x = y
  | [], [] => by simp [Lib.compareBytes]
  | [], _ :: _ => by simp [Lib.compareBytes]
  | _ :: _, [] => by simp [Lib.compareBytes]
  | a :: x, b :: y => by
    have ih := cmp_zero x y
    unfold Lib.compareBytes
    by_cases h : a < b
    · have : a ≠ b := by rintro rfl; exact UInt8.lt_irrefl _ h
      simp [h, this]
    · by_cases k : b < a
      · have : a ≠ b := by rintro rfl; exact h k
        simp [h, k, this]
      · have : a = b := UInt8.le_antisymm (UInt8.not_lt.1 k) (UInt8.not_lt.1 h)
        subst this
        simp [h, ih]
theorem cmpS_neg (a b : ByteArray) : decide (Lib.compareBytes a.data.toList b.data.toList < 0) = ltS a b := by
  unfold ltS
  rw [cmp_neg, ByteArray.toList_eq, ByteArray.toList_eq]
theorem cmpS_zero (a b : ByteArray) : decide (Lib.compareBytes a.data.toList b.data.toList = 0) = decide (a = b) := by
  rw [decide_eq_decide, cmp_zero]
  exact ⟨data_inj, fun h => by rw [h]⟩

/-- Sorted by a name, each once. -/
def Rising {α : Type} (f : α → ByteArray) (l : List α) : Prop := ∀ i x y, l[i]? = some x → l[i + 1]? = some y → ltS (f x) (f y) = true
theorem Rising.lt {α : Type} {f : α → ByteArray} {l : List α} (h : Rising f l) : ∀ {i j : Nat} {x y : α}, i < j → l[i]? = some x → l[j]? = some y → ltS (f x) (f y) = true := by
  intro i j
  induction j with
  | zero => intro x y hi; omega
  | succ j ih =>
    intro x y hi hx hy
    have hj : j < l.length := by have := (List.getElem?_eq_some_iff.1 hy).1; omega
    have hz := List.getElem?_eq_getElem hj
    by_cases e : i = j
    · subst e
      exact h i x y hx hy
    · exact ltS_trans (ih (by omega) hx hz) (h j _ y hz hy)
/-- Where a sorted list parts: i is the first place that is not ahead of a name. -/
def Parts {α : Type} (f : α → ByteArray) (l : List α) (t : ByteArray) (i : Nat) : Prop :=
  i ≤ l.length ∧ (∀ x, 0 < i → l[i - 1]? = some x → ltS (f x) t = true) ∧ ∀ x, l[i]? = some x → ltS (f x) t = false
theorem Parts.ahead {α : Type} {f : α → ByteArray} {l : List α} {t : ByteArray} {i : Nat} (h : Rising f l) (p : Parts f l t i) {k : Nat} {x : α} (hk : k < i) (hx : l[k]? = some x) : ltS (f x) t = true := by
  obtain ⟨h1, h2, _⟩ := p
  have hj : i - 1 < l.length := by omega
  have hy := List.getElem?_eq_getElem hj
  by_cases e : k = i - 1
  · subst e; exact h2 x (by omega) hx
  · exact ltS_trans (h.lt (show k < i - 1 by omega) hx hy) (h2 _ (by omega) hy)
theorem Parts.behind {α : Type} {f : α → ByteArray} {l : List α} {t : ByteArray} {i : Nat} (h : Rising f l) (p : Parts f l t i) {k : Nat} {x : α} (hk : i ≤ k) (hx : l[k]? = some x) : ltS (f x) t = false := by
  obtain ⟨_, _, h3⟩ := p
  by_cases e : k = i
  · subst e; exact h3 x hx
  · have hi : i < l.length := by have := (List.getElem?_eq_some_iff.1 hx).1; omega
    have hy := List.getElem?_eq_getElem hi
    have h4 := h3 _ hy
    have h5 := h.lt (show i < k by omega) hy hx
    rw [Bool.eq_false_iff]
    intro h6
    rw [ltS_trans h5 h6] at h4; cases h4
theorem Parts.one {α : Type} {f : α → ByteArray} {l : List α} {t : ByteArray} {i j : Nat} (h : Rising f l) (p : Parts f l t i) (q : Parts f l t j) : i = j := by
  rcases Nat.lt_trichotomy i j with e | e | e
  · have hx := List.getElem?_eq_getElem (show i < l.length by have := q.1; omega)
    have h1 := q.ahead h e hx
    rw [p.2.2 _ hx] at h1; cases h1
  · exact e
  · have hx := List.getElem?_eq_getElem (show j < l.length by have := p.1; omega)
    have h1 := p.ahead h e hx
    rw [q.2.2 _ hx] at h1; cases h1
/-- The thing of a name. -/
def named {α : Type} (f : α → ByteArray) (l : List α) (t : ByteArray) : Option α := l.find? fun x => decide (f x = t)
theorem named_hit {α : Type} {f : α → ByteArray} {l : List α} {t : ByteArray} {k : Nat} {x : α} (hx : l[k]? = some x) (he : decide (f x = t) = true) (hb : ∀ j, j < k → ∀ y, l[j]? = some y → decide (f y = t) = false) : named f l t = some x := by
  unfold named
  rw [List.find?_eq_some_iff_getElem]
  obtain ⟨hk, rfl⟩ := List.getElem?_eq_some_iff.1 hx
  refine ⟨he, k, hk, rfl, fun j hj => ?_⟩
  have := hb j hj _ (List.getElem?_eq_getElem (by omega))
  simp [this]
theorem named_miss {α : Type} {f : α → ByteArray} {l : List α} {t : ByteArray} (hb : ∀ j, j < l.length → ∀ y, l[j]? = some y → decide (f y = t) = false) : named f l t = none := by
  unfold named
  rw [List.find?_eq_none]
  intro y hy
  obtain ⟨j, hj, rfl⟩ := List.mem_iff_getElem.1 hy
  simp [hb j hj _ (List.getElem?_eq_getElem hj)]
theorem Parts.hit {α : Type} {f : α → ByteArray} {l : List α} {t : ByteArray} {i : Nat} {x : α} (h : Rising f l) (p : Parts f l t i) (hx : l[i]? = some x) (he : decide (f x = t) = true) : named f l t = some x :=
  named_hit hx he fun _ hj _ hy => decide_eq_false (ltS_ne (p.ahead h hj hy))
theorem Parts.miss {α : Type} {f : α → ByteArray} {l : List α} {t : ByteArray} {i : Nat} (h : Rising f l) (p : Parts f l t i) (hx : ∀ x, l[i]? = some x → decide (f x = t) = false) : named f l t = none :=
  named_miss fun j hj y hy => by
    rcases Nat.lt_trichotomy j i with e | e | e
    · exact decide_eq_false (ltS_ne (p.ahead h e hy))
    · subst e; exact hx y hy
    · have hi : i < l.length := by omega
      have hz := List.getElem?_eq_getElem hi
      have h1 := h.lt e hz hy
      have h2 := p.2.2 _ hz
      refine decide_eq_false fun e2 => ?_
      rw [e2] at h1
      rw [h1] at h2; cases h2

/-- The first fault of n things; 0: there is none. -/
def firstErr (f : Nat → Int) : Nat → Int
  | 0 => 0
  | n + 1 => if firstErr f n = 0 then f n else firstErr f n
theorem firstErr_none {f : Nat → Int} : ∀ {n : Nat}, (∀ j, j < n → f j = 0) → firstErr f n = 0
  | 0, _ => rfl
  | n + 1, h => by
    unfold firstErr
    rw [if_pos (firstErr_none fun j hj => h j (by omega))]
    exact h n (by omega)
theorem firstErr_hit {f : Nat → Int} {n k : Nat} (hk : k < n) (h : ∀ j, j < k → f j = 0) (hf : f k ≠ 0) : firstErr f n = f k := by
  induction n with
  | zero => omega
  | succ n ih =>
    unfold firstErr
    by_cases e : k = n
    · subst e
      rw [if_pos (firstErr_none h)]
    · have h1 := ih (by omega)
      rw [if_neg (by rw [h1]; exact hf), h1]
theorem firstErr_zero {f : Nat → Int} : ∀ {n : Nat}, firstErr f n = 0 → ∀ j, j < n → f j = 0
  | 0, _, j, hj => by omega
  | n + 1, h, j, hj => by
    unfold firstErr at h
    by_cases e : firstErr f n = 0
    · rw [if_pos e] at h
      by_cases e2 : j = n
      · subst e2; exact h
      · exact firstErr_zero e j (by omega)
    · rw [if_neg e] at h
      exact absurd h e
theorem zeros_succ {f : Nat → Int} {k : Nat} (h : ∀ j, j < k → f j = 0) (hk : f k = 0) : ∀ j, j < k + 1 → f j = 0 := by
  intro j hj
  by_cases e : j = k
  · subst e; exact hk
  · exact h j (by omega)

theorem ltS_leq (x y : ByteArray) : (Op.bytesLess x.toList y.toList || x.toList == y.toList) = !(ltS y x) := by
  have h1 : Op.bytesLess x.toList y.toList = ltS x y := rfl
  have h2 : (x.toList == y.toList) = decide (x = y) := by
    rw [ByteArray.toList_eq, ByteArray.toList_eq, Bool.eq_iff_iff, beq_iff_eq, decide_eq_true_eq]
    exact ⟨data_inj, fun h => by rw [h]⟩
  rw [h1, h2]
  cases k : ltS y x with
  | true => rw [ltS_asymm k, decide_eq_false (fun e => ltS_ne k e.symm)]; rfl
  | false =>
    cases k2 : ltS x y with
    | true => rfl
    | false => rw [ltS_total k2 k]; simp

/-- The first fault of a list's things. -/
def eachErr {α : Type} (g : α → Int) (l : List α) : Int := firstErr (fun j => match l[j]? with | some x => g x | none => 0) l.length
theorem eachErr_hit {α : Type} {g : α → Int} {l : List α} {k : Nat} {x : α} {e : Int} (hx : l[k]? = some x) (he : g x = e) (h0 : e ≠ 0) (hb : ∀ j, j < k → ∀ y, l[j]? = some y → g y = 0) : eachErr g l = e := by
  subst he
  have hk : k < l.length := (List.getElem?_eq_some_iff.1 hx).1
  have h1 : (match l[k]? with | some x => g x | none => 0) = g x := by rw [hx]
  unfold eachErr
  rw [firstErr_hit (f := fun j => match l[j]? with | some x => g x | none => 0) hk (fun j hj => ?_) (by rw [h1]; exact h0)]
  · exact h1
  · have hjl : j < l.length := by omega
    simp only [List.getElem?_eq_getElem hjl]
    exact hb j hj _ (List.getElem?_eq_getElem hjl)
theorem eachErr_none {α : Type} {g : α → Int} {l : List α} (hb : ∀ j, j < l.length → ∀ y, l[j]? = some y → g y = 0) : eachErr g l = 0 := by
  unfold eachErr
  refine firstErr_none fun j hj => ?_
  simp only [List.getElem?_eq_getElem hj]
  exact hb j hj _ (List.getElem?_eq_getElem hj)
theorem eachErr_zero {α : Type} {g : α → Int} {l : List α} (h : eachErr g l = 0) : ∀ x ∈ l, g x = 0 := by
  intro x hx
  obtain ⟨j, hj, rfl⟩ := List.mem_iff_getElem.1 hx
  have h1 := firstErr_zero h j hj
  simp only [List.getElem?_eq_getElem hj] at h1
  exact h1
theorem good_succ {α : Type} {g : α → Int} {l : List α} {k : Nat} {x : α} (hx : l[k]? = some x) (h : g x = 0) (hb : ∀ j, j < k → ∀ y, l[j]? = some y → g y = 0) : ∀ j, j < k + 1 → ∀ y, l[j]? = some y → g y = 0 := by
  intro j hj y hy
  by_cases e : j = k
  · subst e
    rw [hx] at hy
    injection hy with hy
    rw [← hy]; exact h
  · exact hb j (by omega) y hy

/-- What is wrong with the thing at a place of a list that must be sorted: what is wrong with it by itself, or 7. -/
def itemErr {α : Type} (name : α → ByteArray) (bad : α → Int) (l : List α) (j : Nat) : Int :=
  match l[j]? with
  | none => 0
  | some x => if bad x = 0 then (if 0 < j then (match l[j - 1]? with | some y => if ltS (name y) (name x) then 0 else 7 | none => 0) else 0) else bad x
theorem itemErr_bad {α : Type} {name : α → ByteArray} {bad : α → Int} {l : List α} {j : Nat} {x : α} {e : Int} (hx : l[j]? = some x) (he : bad x = e) (h : e ≠ 0) : itemErr name bad l j = e := by
  subst he
  unfold itemErr
  rw [hx]
  simp only []
  rw [if_neg h]
theorem itemErr_first {α : Type} {name : α → ByteArray} {bad : α → Int} {l : List α} {x : α} (hx : l[0]? = some x) (he : bad x = 0) : itemErr name bad l 0 = 0 := by
  unfold itemErr
  rw [hx]
  simp only []
  rw [if_pos he, if_neg (Nat.lt_irrefl 0)]
theorem itemErr_next {α : Type} {name : α → ByteArray} {bad : α → Int} {l : List α} {j : Nat} {x y : α} (hj : 0 < j) (hx : l[j]? = some x) (hy : l[j - 1]? = some y) (he : bad x = 0) : itemErr name bad l j = if ltS (name y) (name x) then 0 else 7 := by
  unfold itemErr
  rw [hx]
  simp only []
  rw [if_pos he, if_pos hj, hy]
theorem itemErr_rising {α : Type} {name : α → ByteArray} {bad : α → Int} {l : List α} (h : ∀ j, j < l.length → itemErr name bad l j = 0) : Rising name l := by
  intro i x y hx hy
  have h1 := h (i + 1) (List.getElem?_eq_some_iff.1 hy).1
  unfold itemErr at h1
  rw [hy] at h1
  simp only [] at h1
  by_cases hb : bad y = 0
  · rw [if_pos hb, if_pos (Nat.succ_pos i), Nat.add_sub_cancel, hx] at h1
    simp only [] at h1
    cases k : ltS (name x) (name y) with
    | true => rfl
    | false => rw [k] at h1; cases h1
  · rw [if_neg hb] at h1
    exact absurd h1 hb
theorem itemErr_good {α : Type} {name : α → ByteArray} {bad : α → Int} {l : List α} (h : ∀ j, j < l.length → itemErr name bad l j = 0) : ∀ x ∈ l, bad x = 0 := by
  intro x hx
  obtain ⟨j, hj, rfl⟩ := List.mem_iff_getElem.1 hx
  have h1 := h j hj
  unfold itemErr at h1
  rw [List.getElem?_eq_getElem hj] at h1
  simp only [] at h1
  by_cases hb : bad l[j] = 0
  · exact hb
  · rw [if_neg hb] at h1
    exact absurd h1 hb

end Go.Proofs.Ytejiaimcgmpliaa
