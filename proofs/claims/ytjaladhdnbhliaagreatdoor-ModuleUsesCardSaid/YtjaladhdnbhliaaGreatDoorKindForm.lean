/- Kinds made of brackets around int, text, or the variable. Plain facts. -/
import Derived.Test.YtjaladhdnbhliaaGreatDoorKind
import Derived.Test.YtjaladhdnbhliaaGreatDoorBytes
import Derived.Test.YtjaladhdnbhliaaGreatDoorFaceErr
import Derived.Lib.Repeat
namespace Go.Proofs.YtjaladhdnbhliaaGreatDoor
open Go.RowKit

theorem ba_at {s : ByteArray} {k : Nat} {b : UInt8} (hk : k < s.size) (h : s.data.toList[k]? = some b) : s[k] = b := by
  have := str_at? s k hk
  rw [h] at this
  exact (Option.some.inj this).symm
theorem ba_extract (s : ByteArray) (i j : Nat) : (s.extract i j).data.toList = (s.data.toList.drop i).take (j - i) := by
  simp [List.extract_eq_take_drop]

theorem elemOf_of {s t : ByteArray} (h : s.data.toList = 91 :: (t.data.toList ++ [93])) (ht : 0 < t.size) : elemOf s = some t := by
  have hsz : s.size = t.size + 2 := by rw [ba_size, h, ba_size]; simp
  unfold elemOf
  rw [dif_pos (by omega)]
  have h0 : s[0] = 91 := ba_at (by omega) (by rw [h]; rfl)
  have h1 : s[s.size - 1] = 93 := ba_at (by omega) (by
    rw [h, hsz, show t.size + 2 - 1 = t.size + 1 by omega, List.getElem?_cons_succ, List.getElem?_append_right (by rw [ba_size]; exact Nat.le_refl _), ← ba_size, Nat.sub_self]; rfl)
  rw [if_pos ⟨by rw [h0]; rfl, by rw [h1]; rfl⟩]
  refine congrArg some (ba_ext ?_)
  rw [ba_extract, h, hsz, show t.size + 2 - 1 - 1 = t.size by omega, List.drop_succ_cons, List.drop_zero, List.take_append_of_le_length (by rw [ba_size]; exact Nat.le_refl _), ba_size, List.take_length]
theorem elemOf_last {s : ByteArray} {l : List UInt8} {b : UInt8} (h : s.data.toList = l ++ [b]) (hb : b ≠ 93) : elemOf s = none := by
  unfold elemOf
  split
  · next h3 =>
    have hsz : s.size = l.length + 1 := by rw [ba_size, h]; simp
    have h1 : s[s.size - 1] = b := ba_at (by omega) (by rw [h, hsz, Nat.add_sub_cancel, List.getElem?_append_right (Nat.le_refl _), Nat.sub_self]; rfl)
    rw [if_neg]
    rintro ⟨_, h2⟩
    rw [h1] at h2
    exact hb (UInt8.toNat_inj.1 h2)
  · rfl
theorem listOf_data (s : ByteArray) : (listOf s).data.toList = 91 :: (s.data.toList ++ [93]) := by simp [listOf]
theorem elem_listOf {s : ByteArray} (h : 0 < s.size) : elemOf (listOf s) = some s := elemOf_of (listOf_data s) h
theorem open_listOf (s : ByteArray) : openB (listOf s) = openB s := by
  unfold openB
  rw [listOf_data]
  simp [starByte]

/-- int, text, the variable. -/
def baseK : Nat → ByteArray
  | 0 => ⟨#[105, 110, 116]⟩
  | 1 => ⟨#[116, 101, 120, 116]⟩
  | _ => ⟨#[42]⟩
def kindK : Nat → Nat → ByteArray
  | 0, k => baseK k
  | n + 1, k => listOf (kindK n k)
theorem baseK_last (k : Nat) : ∃ l b, (baseK k).data.toList = l ++ [b] ∧ b ≠ 93 ∧ b ≠ 120 ∧ (baseK k).size ≤ 4 ∧ 0 < (baseK k).size := by
  match k with
  | 0 => exact ⟨[105, 110], 116, rfl, by decide, by decide, by decide, by decide⟩
  | 1 => exact ⟨[116, 101, 120], 116, rfl, by decide, by decide, by decide, by decide⟩
  | _ + 2 => exact ⟨[], 42, rfl, by decide, by decide, (by decide : (⟨#[42]⟩ : ByteArray).size ≤ 4), (by decide : 0 < (⟨#[42]⟩ : ByteArray).size)⟩
theorem baseK_base (k : Nat) : baseB (baseK k) = true := by
  match k with
  | 0 => simp [baseB, baseK, ByteArray.toList_eq]
  | 1 => simp [baseB, baseK, ByteArray.toList_eq]
  | _ + 2 => simp [baseB, baseK, ByteArray.toList_eq]
theorem baseB_size {s : ByteArray} (h : baseB s = true) : s.size ≤ 4 := by
  unfold baseB at h
  rw [ByteArray.toList_eq] at h
  simp only [Bool.or_eq_true, beq_iff_eq] at h
  rw [ba_size]
  rcases h with h | h | h <;> rw [h] <;> decide
theorem kindK_size : ∀ n k, (kindK n k).size ≤ 2 * n + 4 ∧ 0 < (kindK n k).size
  | 0, k => by obtain ⟨_, _, _, _, _, h1, h2⟩ := baseK_last k; exact ⟨by show (baseK k).size ≤ _; omega, h2⟩
  | n + 1, k => by
    have h := kindK_size n k
    have : (kindK (n + 1) k).size = (kindK n k).size + 2 := by
      show (listOf (kindK n k)).size = _
      rw [ba_size, listOf_data, ba_size]; simp
    omega
theorem kindK_strip : ∀ n k, strip (kindK n k) = baseK k
  | 0, k => by
    obtain ⟨l, b, h1, h2, _⟩ := baseK_last k
    exact strip_none (elemOf_last h1 h2)
  | n + 1, k => by
    show strip (listOf (kindK n k)) = _
    rw [strip_some (elem_listOf (kindK_size n k).2), kindK_strip n k]
theorem kindK_ok {n k : Nat} (hn : n ≤ 4) : kindErr (kindK n k) = 0 := by
  have := (kindK_size n k).1
  unfold kindErr
  rw [if_neg (by omega), kindK_strip, baseK_base]; rfl
/-- A bracket too many. -/
theorem kindK_open {n k : Nat} (hn : n ≤ 4) : kindErr (⟨#[91]⟩ ++ kindK n k) = 4 := by
  have hst : ∀ n, strip (⟨#[91]⟩ ++ kindK n k) = ⟨#[91]⟩ ++ baseK k := by
    intro n
    induction n with
    | zero =>
      obtain ⟨l, b, h1, h2, _⟩ := baseK_last k
      exact strip_none (elemOf_last (l := 91 :: l) (b := b) (by show (⟨#[91]⟩ ++ baseK k : ByteArray).data.toList = _; rw [ba_app, h1]; rfl) h2)
    | succ n ih =>
      have : elemOf (⟨#[91]⟩ ++ kindK (n + 1) k) = some (⟨#[91]⟩ ++ kindK n k) := elemOf_of (by show (⟨#[91]⟩ ++ listOf (kindK n k) : ByteArray).data.toList = _; rw [ba_app, ba_app, listOf_data]; rfl) (by rw [ba_app_size]; have := (kindK_size n k).2; omega)
      rw [strip_some this, ih]
  have hsz : (⟨#[91]⟩ ++ kindK n k : ByteArray).size ≤ 13 := by
    rw [ba_app_size]; have := (kindK_size n k).1; have : (⟨#[91]⟩ : ByteArray).size = 1 := rfl; omega
  unfold kindErr
  rw [if_neg (by omega), hst, if_neg]
  intro h
  unfold baseB at h
  rw [ByteArray.toList_eq, ba_app] at h
  simp at h
/-- A letter too many. -/
theorem kind_more {s : ByteArray} (h : s.size ≤ 12) (h0 : 0 < s.size) : kindErr (s ++ ⟨#[120]⟩) = 4 := by
  have hsz : (s ++ ⟨#[120]⟩ : ByteArray).size ≤ 13 := by rw [ba_app_size]; have : (⟨#[120]⟩ : ByteArray).size = 1 := rfl; omega
  have hd : (s ++ ⟨#[120]⟩ : ByteArray).data.toList = s.data.toList ++ [120] := by rw [ba_app]
  unfold kindErr
  rw [if_neg (by omega), strip_none (elemOf_last hd (by decide)), if_neg]
  intro hb
  unfold baseB at hb
  rw [ByteArray.toList_eq, hd] at hb
  simp only [Bool.or_eq_true, beq_iff_eq] at hb
  rcases hb with hb | hb | hb
  all_goals
    have := congrArg List.getLast? hb
    simp at this
theorem kind_long {s : ByteArray} (h : 600 < s.size) : kindErr s = 1 := by unfold kindErr; rw [if_pos h]
theorem kind_list {s : ByteArray} (h : kindErr s = 0) (hs : s.size ≤ 598) : listErr s = 0 ∧ listTxt s = listOf s := by
  unfold listErr listTxt
  rw [if_pos h, if_pos h, if_neg (by omega), if_neg (by omega)]; exact ⟨rfl, rfl⟩
/-- As the program makes them. -/
theorem kindK_made (n k : Nat) : (⟨(Lib.repeatL [91] n).toArray⟩ ++ baseK k ++ ⟨(Lib.repeatL [93] n).toArray⟩ : ByteArray) = kindK n k := by
  refine ba_ext ?_
  rw [ba_app, ba_app, ba_of, ba_of]
  have h93 : ∀ n, Lib.repeatL [93] n ++ [93] = Lib.repeatL ([93] : List UInt8) (n + 1) := by
    intro n
    induction n with
    | zero => rfl
    | succ n ih => show [93] ++ Lib.repeatL [93] n ++ [93] = [93] ++ Lib.repeatL [93] (n + 1); rw [List.append_assoc, ih]
  induction n with
  | zero => simp [Lib.repeatL, kindK]
  | succ n ih =>
    show _ = (listOf (kindK n k)).data.toList
    rw [listOf_data, ← ih, ← h93]
    simp [Lib.repeatL]

end Go.Proofs.YtjaladhdnbhliaaGreatDoor
