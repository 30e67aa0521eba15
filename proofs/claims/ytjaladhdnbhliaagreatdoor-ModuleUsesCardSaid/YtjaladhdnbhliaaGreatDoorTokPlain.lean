/- Tokens: what they may be, as plain facts on texts. -/
import Derived.Test.YtjaladhdnbhliaaGreatDoorWord
import Derived.Test.YtjaladhdnbhliaaGreatDoorBytes
import Derived.Test.YtjaladhdnbhliaaGreatDoorBase
import Derived.Lib.ItoaMem
import Derived.Lib.AtoiAllCases
namespace Go.Proofs.YtjaladhdnbhliaaGreatDoor
open Go.RowKit

structure Token where
  kind : Int
  text : ByteArray
def TokenR : CR Token := fun _ _ cs x => cs = [.int .i64 x.kind, .string x.text] ∧ I64 x.kind ∧ okS x.text
theorem TokenR.stays : Stays TokenR := fun _ _ _ _ _ _ h _ _ => h

/-- Digits, the first of several no 0. -/
def numL (l : List UInt8) : Bool := match l with
  | [] => false
  | c :: r => (c :: r).all digitB && (r.isEmpty || !decide (c.toNat = 48))
theorem numL_cons (c : UInt8) (r : List UInt8) : numL (c :: r) = ((c :: r).all digitB && (r.isEmpty || !decide (c.toNat = 48))) := rfl
def numOk (s : ByteArray) : Bool := decide (s.size ≤ 6) && numL s.data.toList
/-- What digits spell, behind some. -/
def spell (acc : Nat) : List UInt8 → Nat
  | [] => acc
  | c :: r => spell (acc * 10 + (c.toNat - 48)) r

theorem spell_snoc : ∀ (l : List UInt8) (acc : Nat) (c : UInt8), spell acc (l ++ [c]) = spell acc l * 10 + (c.toNat - 48)
  | [], _, _ => rfl
  | _ :: l, _, c => spell_snoc l _ c
theorem digitB_iff {c : UInt8} : digitB c = true ↔ 48 ≤ c.toNat ∧ c.toNat ≤ 57 := by simp [digitB]
theorem spell_lt : ∀ (l : List UInt8) (acc : Nat), l.all digitB = true → spell acc l < (acc + 1) * 10 ^ l.length
  | [], acc, _ => by show acc < (acc + 1) * 1; omega
  | c :: r, acc, h => by
    rw [List.all_cons, Bool.and_eq_true] at h
    have h1 := digitB_iff.1 h.1
    have h2 := spell_lt r (acc * 10 + (c.toNat - 48)) h.2
    rw [List.length_cons, Nat.pow_succ]
    have h3 : (acc * 10 + (c.toNat - 48) + 1) * 10 ^ r.length ≤ (acc + 1) * 10 * 10 ^ r.length := Nat.mul_le_mul_right _ (by omega)
    have h4 : (acc + 1) * (10 ^ r.length * 10) = (acc + 1) * 10 * 10 ^ r.length := by rw [Nat.mul_assoc, Nat.mul_comm (10 ^ r.length) 10]
    show spell (acc * 10 + (c.toNat - 48)) r < _
    omega
theorem spell_ge : ∀ (l : List UInt8) (acc : Nat), acc ≤ spell acc l
  | [], _ => Nat.le_refl _
  | c :: r, acc => Nat.le_trans (by omega) (spell_ge r (acc * 10 + (c.toNat - 48)))
theorem parse_digits : ∀ (l : List UInt8) (acc : Nat), l.all digitB = true → spell acc l < 1000000000000000000 → Lib.parseUint10 acc l = .ok (spell acc l)
  | [], acc, _, _ => rfl
  | c :: r, acc, h, hb => by
    rw [List.all_cons, Bool.and_eq_true] at h
    have h1 := digitB_iff.1 h.1
    have h2 := spell_ge r (acc * 10 + (c.toNat - 48))
    have hb' : spell (acc * 10 + (c.toNat - 48)) r < 1000000000000000000 := hb
    unfold Lib.parseUint10
    rw [if_pos h1, if_neg (by omega), if_neg (by omega)]
    exact parse_digits r _ h.2 hb
theorem numL_digits {l : List UInt8} (h : numL l = true) : l.all digitB = true ∧ l ≠ [] := by
  cases l with
  | nil => cases h
  | cons c r =>
    rw [numL_cons, Bool.and_eq_true] at h
    exact ⟨h.1, by simp⟩

theorem ofNat_digit {u : Nat} (h : u < 10) : (UInt8.ofNat (48 + u)).toNat = 48 + u := by
  rw [UInt8.toNat_ofNat']
  omega
theorem ofNat_back {c : UInt8} (h : digitB c = true) : UInt8.ofNat (48 + (c.toNat - 48)) = c := by
  have := digitB_iff.1 h
  rw [show 48 + (c.toNat - 48) = c.toNat by omega]
  simp

/-- A numeral's digits: the first is no 0, but for 0 itself. -/
theorem dec_shape (u : Nat) : ∃ c r, Lib.decDigits u = c :: r ∧ (c :: r).all digitB = true ∧ (c.toNat = 48 → u = 0) ∧ (u < 10 ↔ r = []) := by
  induction u using Nat.strongRecOn with
  | ind u ih =>
    by_cases h : u < 10
    · refine ⟨UInt8.ofNat (48 + u), [], by rw [Lib.decDigits, dif_pos h], ?_, fun hc => ?_, by simp [h]⟩
      · rw [List.all_cons, digitB_iff.2 (by rw [ofNat_digit h]; omega)]; rfl
      · rw [ofNat_digit h] at hc; omega
    · obtain ⟨c, r, h1, h2, h3, h4⟩ := ih (u / 10) (by omega)
      refine ⟨c, r ++ [UInt8.ofNat (48 + u % 10)], by rw [Lib.decDigits, dif_neg h, h1]; rfl, ?_, fun hc => ?_, by simp [h]⟩
      · rw [← List.cons_append, List.all_append, h2, List.all_cons, digitB_iff.2 (by rw [ofNat_digit (by omega)]; omega)]; rfl
      · have := h3 hc; omega
theorem dec_num (u : Nat) : numL (Lib.decDigits u) = true := by
  obtain ⟨c, r, h1, h2, h3, h4⟩ := dec_shape u
  rw [h1, numL_cons, h2, Bool.true_and, Bool.or_eq_true]
  by_cases hc : c.toNat = 48
  · left
    have := h3 hc
    rw [h4.1 (by omega)]; rfl
  · right
    simp [hc]
theorem dec_len {u : Nat} (h : u ≤ 999999) : (Lib.decDigits u).length ≤ 6 := by
  have step : ∀ (k u : Nat), u < 10 ^ (k + 1) → (Lib.decDigits u).length ≤ k + 1 := by
    intro k
    induction k with
    | zero => intro u hu; rw [Lib.decDigits, dif_pos (by simpa using hu)]; simp
    | succ k ih =>
      intro u hu
      by_cases h10 : u < 10
      · rw [Lib.decDigits, dif_pos h10]; simp
      · rw [Lib.decDigits, dif_neg h10, List.length_append]
        have := ih (u / 10) (by rw [Nat.pow_succ] at hu; exact Nat.div_lt_of_lt_mul (by omega))
        simp only [List.length_cons, List.length_nil]
        omega
  exact step 5 u (by omega)

theorem snoc_of {α : Type} {l : List α} (h : l ≠ []) : ∃ m c, l = m ++ [c] := ⟨l.dropLast, l.getLast h, (List.dropLast_concat_getLast h).symm⟩
theorem dec_spell : ∀ (n : Nat) (l : List UInt8), l.length = n → numL l = true → Lib.decDigits (spell 0 l) = l ∧ (1 < l.length → 1 ≤ spell 0 l)
  | 0, l, hn, h => by rw [List.length_eq_zero_iff.1 hn] at h; cases h
  | n + 1, l, hn, h => by
    obtain ⟨hd, hne⟩ := numL_digits h
    obtain ⟨m, c, rfl⟩ := snoc_of hne
    rw [List.all_append, Bool.and_eq_true] at hd
    have hc : digitB c = true := by have := hd.2; simpa using this
    have hc2 := digitB_iff.1 hc
    rw [List.length_append, List.length_singleton] at hn
    rw [spell_snoc]
    cases m with
    | nil =>
      refine ⟨?_, fun h1 => by simp at h1⟩
      show Lib.decDigits (0 * 10 + (c.toNat - 48)) = [c]
      rw [Nat.zero_mul, Nat.zero_add, Lib.decDigits, dif_pos (by omega), ofNat_back hc]
    | cons a r =>
      have ha : ¬ a.toNat = 48 := by
        intro e
        simp [numL, e] at h
      have hm : numL (a :: r) = true := by
        rw [numL_cons, hd.1]
        simp [ha]
      obtain ⟨i1, i2⟩ := dec_spell n (a :: r) (by omega) hm
      have hv : 1 ≤ spell 0 (a :: r) := by
        have h1 := spell_ge r (0 * 10 + (a.toNat - 48))
        have h2 := digitB_iff.1 (show digitB a = true by have := hd.1; rw [List.all_cons, Bool.and_eq_true] at this; exact this.1)
        show 1 ≤ spell (0 * 10 + (a.toNat - 48)) r
        omega
      refine ⟨?_, fun _ => by omega⟩
      rw [Lib.decDigits, dif_neg (by omega), show (spell 0 (a :: r) * 10 + (c.toNat - 48)) / 10 = spell 0 (a :: r) by omega, show (spell 0 (a :: r) * 10 + (c.toNat - 48)) % 10 = c.toNat - 48 by omega, i1, ofNat_back hc]
/-- A number's text is read, and written back. -/
theorem num_read {l : List UInt8} (h : numL l = true) (hl : l.length ≤ 6) : Lib.atoiAll l = .ok (spell 0 l : Int) ∧ spell 0 l ≤ 999999 ∧ Lib.itoa (spell 0 l : Int) = l := by
  obtain ⟨hd, hne⟩ := numL_digits h
  have h1 := spell_lt l 0 hd
  have h2 : 10 ^ l.length ≤ 10 ^ 6 := Nat.pow_le_pow_right (by decide) hl
  have h3 : (10 : Nat) ^ 6 = 1000000 := by decide
  have h4 : spell 0 l ≤ 999999 := by omega
  refine ⟨?_, h4, by rw [Lib.itoa_nonneg]; exact (dec_spell _ l rfl h).1⟩
  cases l with
  | nil => exact absurd rfl hne
  | cons c r =>
    have hc := digitB_iff.1 (show digitB c = true by rw [List.all_cons, Bool.and_eq_true] at hd; exact hd.1)
    rw [Lib.atoiAll_plain c r (by omega) (by omega)]
    unfold Lib.parseMag
    rw [if_neg (by simp), parse_digits _ 0 hd (by omega)]
    unfold Lib.signless
    simp only []
    rw [if_neg (by omega)]
/-- What is written back is a number's text. -/
theorem num_back {v : Int} (h0 : 0 ≤ v) (h1 : v ≤ 999999) : numL (Lib.itoa v) = true ∧ (Lib.itoa v).length ≤ 6 := by
  obtain ⟨u, rfl⟩ : ∃ u : Nat, v = u := ⟨v.toNat, by omega⟩
  rw [Lib.itoa_nonneg]
  exact ⟨dec_num u, dec_len (by omega)⟩
/-- What token.number says. -/
theorem numOk_iff (s : ByteArray) : numOk s = true ↔ ∃ v, Lib.atoiAll s.data.toList = .ok v ∧ 0 ≤ v ∧ v ≤ 999999 ∧ Lib.itoa v = s.data.toList := by
  unfold numOk
  rw [Bool.and_eq_true, decide_eq_true_eq]
  constructor
  · rintro ⟨hl, h⟩
    obtain ⟨h1, h2, h3⟩ := num_read h hl
    exact ⟨_, h1, by omega, by omega, h3⟩
  · rintro ⟨v, _, h0, h1, h2⟩
    obtain ⟨h3, h4⟩ := num_back h0 h1
    rw [h2] at h3 h4
    exact ⟨h4, h3⟩
theorem numOk_bad {s : ByteArray} (h : ∀ v, Lib.atoiAll s.data.toList ≠ .ok v) : numOk s = false := by
  rw [Bool.eq_false_iff]
  intro e
  obtain ⟨v, hv, _⟩ := (numOk_iff s).1 e
  exact h v hv
theorem numOk_of {s : ByteArray} {v : Int} (h : Lib.atoiAll s.data.toList = .ok v) : numOk s = (decide (0 ≤ v) && (decide (v ≤ 999999) && decide (Lib.itoa v = s.data.toList))) := by
  rw [Bool.eq_iff_iff, numOk_iff]
  simp only [Bool.and_eq_true, decide_eq_true_eq]
  constructor
  · rintro ⟨u, h1, h2, h3, h4⟩
    rw [h] at h1
    injection h1 with h1
    subst h1
    exact ⟨h2, h3, h4⟩
  · rintro ⟨h2, h3, h4⟩
    exact ⟨v, h, h2, h3, h4⟩

def signsL : List UInt8 := [61, 40, 41, 91, 93, 44, 43, 46, 58, 60, 62]
def signOk (s : ByteArray) : Bool := match s.data.toList with
  | [c] => signsL.contains c
  | _ => false
/-- Has a token the text of its kind? -/
def tokOk (t : Token) : Bool := if t.kind = 1 then wordOk t.text else if t.kind = 2 then numOk t.text else if t.kind = 3 then quoteOk t.text else signOk t.text
def tokErr (t : Token) : Int := if t.kind < 1 ∨ 4 < t.kind then 3 else if tokOk t = true then 0 else 4
def toksErr (l : List Token) : Int := if 200 < l.length then 1 else eachErr tokErr l

end Go.Proofs.YtjaladhdnbhliaaGreatDoor
