/- Expressions that must be right: tree.expr. -/
import Derived.Test.YtafhepilcmimlaaDoorTreeErr2
import Derived.Test.YtafhepilcmimlaaDoorTreeChk
import Derived.Deep.Light
namespace Go.Proofs.YtafhepilcmimlaaDoor
open Go.RowKit Go.Shelf

theorem ExR.form {w : World} {F : Foot} {cs : List Value} {t : Ex} (h : ExR w F cs t) : ∃ A c, cs = [.int .i64 t.kind, .int .i64 t.n, .string t.of_, .string t.s, .slice A t.args.length c] := by
  obtain ⟨n, h⟩ := h
  cases n with
  | zero => exact h.elim
  | succ n =>
    obtain ⟨av, rfl, _, _, _, _, hav⟩ := h
    obtain ⟨A, c, rfl, _⟩ := hav.form
    exact ⟨A, c, rfl⟩
theorem ExRn.ofR {w : World} {F : Foot} {cs : List Value} {t : Ex} {n : Nat} (h : ExRn n w F cs t) : ExR w F cs t := ⟨n, h⟩

theorem both_true {p q : Prop} [Decidable p] [Decidable q] (h : p ∧ q) : (decide p && decide q) = true := by simp [h.1, h.2]
theorem both_false {p q : Prop} [Decidable p] [Decidable q] (h : ¬ (p ∧ q)) : (decide p && decide q) = false := by
  cases hp : decide p
  · rfl
  · cases hq : decide q
    · rfl
    · exact absurd ⟨of_decide_eq_true hp, of_decide_eq_true hq⟩ h
theorem exOk_1 (o s : ByteArray) (L : Nat) : exOk 1 o s L = (decide (s.size = 0) && decide (L = 0)) := rfl
theorem exOk_5 (o s : ByteArray) (L : Nat) : exOk 5 o s L = (decide (s.size = 0) && decide (L = 2)) := rfl
theorem exOk_7 (o s : ByteArray) (L : Nat) : exOk 7 o s L = (decide (s.size = 0) && decide (L = 2)) := rfl
theorem exOk_6 (o s : ByteArray) (L : Nat) : exOk 6 o s L = (decide (s.size = 0) && decide (1 ≤ L)) := rfl
theorem exOk_2 (o s : ByteArray) (L : Nat) : exOk 2 o s L = (quoteOk s && decide (L = 0)) := rfl
theorem exOk_3 (o s : ByteArray) (L : Nat) : exOk 3 o s L = (nameOk s && decide (L = 0)) := rfl
theorem exOk_4 (o s : ByteArray) (L : Nat) : exOk 4 o s L = (nameOk s && (decide (o.size = 0) || nameOk o)) := rfl
theorem own_0 {k m : Int} {o s : ByteArray} {L : Nat} (hr : 1 ≤ k ∧ k ≤ 7) (h8 : ¬ 8 < L) (h3 : ¬ ((k ≠ 1 ∧ m ≠ 0) ∨ (k ≠ 4 ∧ o.size ≠ 0))) (he : exOk k o s L = true) (h1 : ¬ (k = 1 ∧ (m < 0 ∨ 999999 < m))) : exOwn5 k m o s L = 0 := by
  unfold exOwn5; rw [if_neg (by omega), if_neg h8, if_neg h3, if_neg (by simp [he]), if_neg h1]
theorem own_2 {k m : Int} {o s : ByteArray} {L : Nat} (hr : 1 ≤ k ∧ k ≤ 7) (h8 : ¬ 8 < L) (h3 : ¬ ((k ≠ 1 ∧ m ≠ 0) ∨ (k ≠ 4 ∧ o.size ≠ 0))) (he : exOk k o s L = true) (h1 : k = 1 ∧ (m < 0 ∨ 999999 < m)) : exOwn5 k m o s L = 2 := by
  unfold exOwn5; rw [if_neg (by omega), if_neg h8, if_neg h3, if_neg (by simp [he]), if_pos h1]
theorem own_4 {k m : Int} {o s : ByteArray} {L : Nat} (hr : 1 ≤ k ∧ k ≤ 7) (h8 : ¬ 8 < L) (h3 : ¬ ((k ≠ 1 ∧ m ≠ 0) ∨ (k ≠ 4 ∧ o.size ≠ 0))) (he : exOk k o s L = false) : exOwn5 k m o s L = 4 := by
  unfold exOwn5; rw [if_neg (by omega), if_neg h8, if_neg h3, if_pos he]

end Go.Proofs.YtafhepilcmimlaaDoor
