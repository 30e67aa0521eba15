/- Tokens are cut as they were shown. Plain facts. -/
import Derived.Test.YthedfpcdibhfpaaDoorTokCut
namespace Go.Proofs.YthedfpcdibhfpaaDoor
open Go.RowKit

theorem while_app {p : UInt8 → Bool} : ∀ (l rest : List UInt8), (∀ x ∈ l, p x = true) → (∀ x, rest.head? = some x → p x = false) → (l ++ rest).takeWhile p = l ∧ (l ++ rest).dropWhile p = rest
  | [], [], _, _ => ⟨rfl, rfl⟩
  | [], x :: r, _, h => by
    have := h x rfl
    rw [List.nil_append, List.takeWhile_cons_of_neg (by simp [this]), List.dropWhile_cons_of_neg (by simp [this])]
    exact ⟨rfl, rfl⟩
  | a :: l, rest, h1, h2 => by
    have ha := h1 a (by simp)
    obtain ⟨i1, i2⟩ := while_app l rest (fun x hx => h1 x (by simp [hx])) h2
    rw [List.cons_append, List.takeWhile_cons_of_pos ha, List.dropWhile_cons_of_pos ha, i1, i2]
    exact ⟨rfl, rfl⟩
theorem small_wd {c : UInt8} (h : smallB c = true) : wdB c = true := by unfold wdB; rw [h]; rfl
theorem digit_wd {c : UInt8} (h : digitB c = true) : wdB c = true := by unfold wdB; rw [h]; simp
theorem small_ne {c d : UInt8} (h : smallB c = true) (hd : d.toNat < 97) : c ≠ d := by
  rintro rfl
  unfold smallB at h
  simp at h
  omega
theorem digit_ne {c d : UInt8} (h : digitB c = true) (hd : d.toNat < 48) : c ≠ d := by
  rintro rfl
  unfold digitB at h
  simp at h
  omega
theorem digit_small {c : UInt8} (h : digitB c = true) : smallB c = false := by
  unfold digitB at h
  unfold smallB
  simp at h ⊢
  omega
theorem blank_wd {rest : List UInt8} (h : rest = [] ∨ ∃ r, rest = 32 :: r) : ∀ x, rest.head? = some x → wdB x = false := by
  rcases h with rfl | ⟨r, rfl⟩
  · intro x hx; cases hx
  · intro x hx; simp at hx; subst hx; decide
theorem word_shape {s : ByteArray} (h : wordOk s = true) : ∃ c r, s.data.toList = c :: r ∧ smallB c = true ∧ ∀ x ∈ c :: r, wdB x = true := by
  unfold wordOk at h
  split at h
  · cases h
  · next c r hl =>
    rw [Bool.and_eq_true, Bool.and_eq_true, Bool.not_eq_true', List.any_eq_false] at h
    refine ⟨c, r, hl, h.2.1, fun x hx => ?_⟩
    have := h.2.2 x (by rw [hl]; exact hx)
    unfold wordBad at this
    unfold wdB
    cases h1 : smallB x <;> cases h2 : digitB x <;> simp [h1, h2] at this ⊢
theorem num_shape {s : ByteArray} (h : numOk s = true) : ∃ c r, s.data.toList = c :: r ∧ ∀ x ∈ c :: r, digitB x = true := by
  unfold numOk at h
  rw [Bool.and_eq_true] at h
  obtain ⟨h1, h2⟩ := numL_digits h.2
  cases hl : s.data.toList with
  | nil => exact absurd hl h2
  | cons c r => rw [hl] at h1; exact ⟨c, r, rfl, List.all_eq_true.1 h1⟩
theorem quote_shape {s : ByteArray} (h : quoteOk s = true) : ∀ x ∈ s.data.toList, notQ x = true := by
  unfold quoteOk at h
  rw [Bool.and_eq_true, Bool.not_eq_true', List.any_eq_false] at h
  intro x hx
  have := h.2 x hx
  unfold quoteBad at this
  unfold notQ
  cases e : (x == 34) with
  | false => rfl
  | true =>
    rw [beq_iff_eq] at e
    subst e
    exact absurd (by decide) this
theorem sign_shape {s : ByteArray} (h : signOk s = true) : ∃ c, s = lit [c] ∧ c ∈ signsL := by
  unfold signOk at h
  split at h
  · next c hl => exact ⟨c, by rw [← hl, lit_back], List.contains_iff_mem.1 h⟩
  · cases h
theorem signs_odd : ∀ c ∈ signsL, c ≠ 34 ∧ smallB c = false ∧ digitB c = false ∧ c ≠ 32 := by decide

/-- The first token of a text that begins with one shown. -/
theorem first_good {t : Token} (h : tokErr t = 0) : ∃ c r, (tokTxt t).data.toList = c :: r ∧ c ≠ 32 ∧ ∀ rest, (rest = [] ∨ ∃ r', rest = 32 :: r') → tokFirst (c :: (r ++ rest)) = (t, rest, true) := by
  unfold tokErr at h
  split at h
  · cases h
  next hk =>
  split at h
  next hok =>
    obtain ⟨k, s⟩ := t
    dsimp only at hk
    have hc : k = 1 ∨ k = 2 ∨ k = 3 ∨ k = 4 := by omega
    rcases hc with rfl | rfl | rfl | rfl
    · have hw : wordOk s = true := hok
      obtain ⟨c, r, hl, hs, hall⟩ := word_shape hw
      refine ⟨c, r, hl, small_ne hs (by decide), fun rest hr => ?_⟩
      obtain ⟨h1, h2⟩ := while_app (c :: r) rest hall (blank_wd hr)
      rw [first_small _ (small_ne hs (by decide)) hs, ← List.cons_append, h1, h2, ← hl, lit_back, hw]
    · have hw : numOk s = true := hok
      obtain ⟨c, r, hl, hall⟩ := num_shape hw
      have hd := hall c (by simp)
      refine ⟨c, r, hl, digit_ne hd (by decide), fun rest hr => ?_⟩
      obtain ⟨h1, h2⟩ := while_app (c :: r) rest (fun x hx => digit_wd (hall x hx)) (blank_wd hr)
      rw [first_digit _ (digit_ne hd (by decide)) (digit_small hd) hd, ← List.cons_append, h1, h2, ← hl, lit_back, hw]
    · have hw : quoteOk s = true := hok
      refine ⟨34, s.data.toList ++ [34], by rw [tokTxt, if_pos rfl, ba_app, ba_app]; rfl, by decide, fun rest _ => ?_⟩
      obtain ⟨h1, h2⟩ := while_app s.data.toList (34 :: rest) (quote_shape hw) (fun x hx => by simp at hx; subst hx; rfl)
      rw [first_quote, List.append_assoc, List.singleton_append, h1, h2, lit_back, hw]
      rfl
    · have hw : signOk s = true := hok
      obtain ⟨c, rfl, hm⟩ := sign_shape hw
      obtain ⟨h1, h2, h3, h4⟩ := signs_odd c hm
      refine ⟨c, [], by rw [tokTxt, if_neg (by show ¬ (4 : Int) = 3; decide)]; exact lit_list _, h4, fun rest _ => ?_⟩
      rw [List.nil_append, first_sign _ h1 h2 h3, hw]
  next => cases h

/-- All texts of tokens, with blanks between. -/
def spL (L : List Token) : List UInt8 := Lib.join ((L.map tokTxt).map (·.data.toList)) [32]
theorem spaced_list (L : List Token) : (spaced (L.map tokTxt)).data.toList = spL L := by unfold spaced spL; rw [ba_of]
theorem spL_cons (t : Token) (L : List Token) : ∃ rest, spL (t :: L) = (tokTxt t).data.toList ++ rest ∧ (rest = [] ∨ ∃ r', rest = 32 :: r') ∧ trimL rest = trimL (spL L) := by
  unfold spL
  rw [List.map_cons, List.map_cons, Lib.join_cons]
  refine ⟨_, rfl, ?_⟩
  cases L with
  | nil => exact ⟨.inl rfl, rfl⟩
  | cons u M =>
    rw [List.map_cons, List.map_cons, Lib.join_cons]
    refine ⟨.inr ⟨_, rfl⟩, ?_⟩
    simp only [Lib.joinTail, List.map_cons, List.flatten_cons, List.cons_append, List.nil_append]
    rw [trim_blank]
theorem cut_back : ∀ (L : List Token), (∀ t ∈ L, tokErr t = 0) → cutL (trimL (spL L)) = some L
  | [], _ => rfl
  | t :: L, h => by
    obtain ⟨rest, h1, h2, h3⟩ := spL_cons t L
    obtain ⟨c, r, hl, hc, hf⟩ := first_good (h t (by simp))
    have ih := cut_back L fun u hu => h u (by simp [hu])
    rw [h1, hl, List.cons_append, trim_other hc, cutL_step, hf rest h2, if_pos rfl]
    show (cutL (trimL rest)).map (t :: ·) = _
    rw [h3, ih]; rfl
theorem first_err (c : UInt8) (r : List UInt8) (h : (tokFirst (c :: r)).2.2 = true) : tokErr (tokFirst (c :: r)).1 = 0 := by
  by_cases hq : c = 34
  · subst hq
    rw [first_quote] at h ⊢
    rw [Bool.and_eq_true] at h
    exact tokErr_ok (by show (1 : Int) ≤ 3; decide) (by show (3 : Int) ≤ 4; decide) h.2
  cases hs : smallB c with
  | true =>
    rw [first_small r hq hs] at h ⊢
    exact tokErr_ok (by show (1 : Int) ≤ 1; decide) (by show (1 : Int) ≤ 4; decide) h
  | false =>
    cases hd : digitB c with
    | true =>
      rw [first_digit r hq hs hd] at h ⊢
      exact tokErr_ok (by show (1 : Int) ≤ 2; decide) (by show (2 : Int) ≤ 4; decide) h
    | false =>
      rw [first_sign r hq hs hd] at h ⊢
      exact tokErr_ok (by show (1 : Int) ≤ 4; decide) (by show (4 : Int) ≤ 4; decide) h
theorem cut_good : ∀ (n : Nat) (X : List UInt8) (L : List Token), X.length ≤ n → cutL X = some L → ∀ t ∈ L, tokErr t = 0
  | _, [], L, _, h => by
    rw [cutL_nil] at h
    injection h with h
    subst h
    intro t ht; cases ht
  | 0, c :: r, _, hn, _ => by simp at hn
  | n + 1, c :: r, L, hn, h => by
    rw [cutL_step] at h
    split at h
    · next hok =>
      have h1 := first_less c r
      have h2 := trim_le (tokFirst (c :: r)).2.1
      cases hx : cutL (trimL (tokFirst (c :: r)).2.1) with
      | none => rw [hx] at h; cases h
      | some M =>
        rw [hx] at h
        injection h with h
        subst h
        intro t ht
        rcases List.mem_cons.1 ht with rfl | ht
        · exact first_err c r hok
        · exact cut_good n _ M (by omega) hx t ht
    · cases h
theorem trim_many (k : Nat) (l : List UInt8) : trimL (List.replicate k 32 ++ l) = trimL l := by
  induction k with
  | zero => rfl
  | succ k ih => rw [List.replicate_succ, List.cons_append, trim_blank, ih]
theorem cutR_some {s : ByteArray} {L : List Token} (h : cutR s = (L, 0)) : s.size ≤ 1500 ∧ cutL (trimL s.data.toList) = some L ∧ L.length ≤ 200 := by
  unfold cutR at h
  split at h
  · injection h with _ h; cases h
  split at h
  · injection h with _ h; cases h
  next M hM =>
    split at h
    · injection h with _ h; cases h
    · injection h with h _
      subst h
      exact ⟨by omega, hM, by omega⟩
theorem cutR_bad {s : ByteArray} (h : (cutR s).2 ≠ 0) : (cutR s).1 = [] := by
  by_cases h15 : 1500 < s.size
  · rw [cutR_size h15]
  · cases hc : cutL (trimL s.data.toList) with
    | none => rw [cutR_none (by omega) hc]
    | some L =>
      by_cases h2 : 200 < L.length
      · rw [cutR_many (by omega) hc h2]
      · rw [cutR_fine (by omega) hc (by omega)] at h
        exact absurd rfl h
theorem cutR_toks {s : ByteArray} {L : List Token} (h : cutR s = (L, 0)) : toksErr L = 0 := by
  obtain ⟨_, h2, h3⟩ := cutR_some h
  exact toks_each h3 (eachErr_none fun j hj y hy => cut_good _ _ L (Nat.le_refl _) h2 y (List.mem_of_getElem? hy))
theorem cutR_back {s : ByteArray} {L : List Token} (h : cutR s = (L, 0)) (hs : (spaced (L.map tokTxt)).size ≤ 1500) : cutR (spaced (L.map tokTxt)) = (L, 0) := by
  obtain ⟨_, h2, h3⟩ := cutR_some h
  exact cutR_fine hs (by rw [spaced_list]; exact cut_back L (cut_good _ _ L (Nat.le_refl _) h2)) h3
theorem cutR_wide {s b : ByteArray} {L : List Token} {k : Nat} (h : cutR s = (L, 0)) (hb : b.data.toList = List.replicate k 32 ++ s.data.toList) (hs : b.size ≤ 1500) : cutR b = (L, 0) := by
  obtain ⟨_, h2, h3⟩ := cutR_some h
  exact cutR_fine hs (by rw [hb, trim_many]; exact h2) h3
theorem repeat_one (c : UInt8) : ∀ k, Lib.repeatL [c] k = List.replicate k c
  | 0 => rfl
  | k + 1 => by unfold Lib.repeatL; rw [repeat_one c k]; rfl
theorem commas (k : Nat) : cutL (List.replicate k 44) = some (List.replicate k ⟨4, lit [44]⟩) := by
  induction k with
  | zero => rfl
  | succ k ih =>
    rw [List.replicate_succ, cutL_step, first_sign _ (by decide) (by decide) (by decide), if_pos (by show signOk (lit [44]) = true; decide)]
    show (cutL (trimL (List.replicate k 44))).map (⟨4, lit [44]⟩ :: ·) = _
    have ht : trimL (List.replicate k 44) = List.replicate k 44 := by
      cases k with
      | zero => rfl
      | succ k => rw [List.replicate_succ, trim_other (by decide)]
    rw [ht, ih]; rfl

end Go.Proofs.YthedfpcdibhfpaaDoor
