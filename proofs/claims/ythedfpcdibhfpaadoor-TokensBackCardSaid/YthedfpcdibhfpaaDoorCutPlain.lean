/- Lines, cut into tokens. Plain facts. -/
import Derived.Test.YthedfpcdibhfpaaDoorTokTxt
import Derived.Test.YthedfpcdibhfpaaDoorKindForm
import Derived.Lib.IndexMore
import Derived.Lib.TrimByte
namespace Go.Proofs.YthedfpcdibhfpaaDoor
open Go.RowKit

def wdB (c : UInt8) : Bool := smallB c || digitB c
def notQ (c : UInt8) : Bool := !(c == 34)
def trimL (l : List UInt8) : List UInt8 := l.dropWhile (· == 32)
/-- The first token of a text that does not begin with a blank; what is left; may it be? -/
def tokFirst : List UInt8 → Token × List UInt8 × Bool
  | [] => (⟨4, ⟨#[]⟩⟩, [], false)
  | c :: r =>
    if c = 34 then (⟨3, lit (r.takeWhile notQ)⟩, (r.dropWhile notQ).drop 1, !(r.dropWhile notQ).isEmpty && quoteOk (lit (r.takeWhile notQ)))
    else if smallB c = true then (⟨1, lit ((c :: r).takeWhile wdB)⟩, (c :: r).dropWhile wdB, wordOk (lit ((c :: r).takeWhile wdB)))
    else if digitB c = true then (⟨2, lit ((c :: r).takeWhile wdB)⟩, (c :: r).dropWhile wdB, numOk (lit ((c :: r).takeWhile wdB)))
    else (⟨4, lit [c]⟩, r, signOk (lit [c]))
theorem first_quote (r : List UInt8) : tokFirst (34 :: r) = (⟨3, lit (r.takeWhile notQ)⟩, (r.dropWhile notQ).drop 1, !(r.dropWhile notQ).isEmpty && quoteOk (lit (r.takeWhile notQ))) := by unfold tokFirst; dsimp only; rw [if_pos rfl]
theorem first_small {c : UInt8} (r : List UInt8) (h : c ≠ 34) (hs : smallB c = true) : tokFirst (c :: r) = (⟨1, lit ((c :: r).takeWhile wdB)⟩, (c :: r).dropWhile wdB, wordOk (lit ((c :: r).takeWhile wdB))) := by unfold tokFirst; dsimp only; rw [if_neg h, if_pos hs]
theorem first_digit {c : UInt8} (r : List UInt8) (h : c ≠ 34) (hs : smallB c = false) (hd : digitB c = true) : tokFirst (c :: r) = (⟨2, lit ((c :: r).takeWhile wdB)⟩, (c :: r).dropWhile wdB, numOk (lit ((c :: r).takeWhile wdB))) := by unfold tokFirst; dsimp only; rw [if_neg h, if_neg (by simp [hs]), if_pos hd]
theorem first_sign {c : UInt8} (r : List UInt8) (h : c ≠ 34) (hs : smallB c = false) (hd : digitB c = false) : tokFirst (c :: r) = (⟨4, lit [c]⟩, r, signOk (lit [c])) := by unfold tokFirst; dsimp only; rw [if_neg h, if_neg (by simp [hs]), if_neg (by simp [hd])]
def cutT : Nat → List UInt8 → Option (List Token)
  | _, [] => some []
  | 0, _ :: _ => none
  | n + 1, c :: r => if (tokFirst (c :: r)).2.2 = true then (cutT n (trimL (tokFirst (c :: r)).2.1)).map ((tokFirst (c :: r)).1 :: ·) else none
/-- The tokens of a text that does not begin with a blank. -/
def cutL (l : List UInt8) : Option (List Token) := cutT (l.length + 1) l
def cutR (s : ByteArray) : List Token × Int := if 1500 < s.size then ([], 1) else match cutL (trimL s.data.toList) with
  | none => ([], 4)
  | some L => if 200 < L.length then ([], 1) else (L, 0)

theorem drop_le {p : UInt8 → Bool} (l : List UInt8) : (l.dropWhile p).length ≤ l.length := (List.dropWhile_sublist p).length_le
theorem trim_le (l : List UInt8) : (trimL l).length ≤ l.length := drop_le l
theorem first_less (c : UInt8) (r : List UInt8) : (tokFirst (c :: r)).2.1.length < (c :: r).length := by
  have h1 := drop_le (p := notQ) r
  have h2 := drop_le (p := wdB) r
  by_cases hq : c = 34
  · subst hq
    rw [first_quote]
    show ((r.dropWhile notQ).drop 1).length < _
    rw [List.length_drop, List.length_cons]; omega
  cases hs : smallB c with
  | true =>
    rw [first_small r hq hs]
    show ((c :: r).dropWhile wdB).length < _
    rw [List.dropWhile_cons_of_pos (by unfold wdB; simp [hs]), List.length_cons]; omega
  | false =>
    cases hd : digitB c with
    | true =>
      rw [first_digit r hq hs hd]
      show ((c :: r).dropWhile wdB).length < _
      rw [List.dropWhile_cons_of_pos (by unfold wdB; simp [hd]), List.length_cons]; omega
    | false =>
      rw [first_sign r hq hs hd]
      show r.length < _
      rw [List.length_cons]; omega
theorem cutT_fuel : ∀ (n m : Nat) (l : List UInt8), l.length < n → l.length < m → cutT n l = cutT m l
  | 0, _, _, h, _ => by omega
  | _ + 1, 0, _, _, h => by omega
  | n + 1, m + 1, [], _, _ => by unfold cutT; rfl
  | n + 1, m + 1, c :: r, h1, h2 => by
    have h3 := first_less c r
    have h4 := trim_le (tokFirst (c :: r)).2.1
    unfold cutT
    rw [cutT_fuel n m _ (by omega) (by omega)]
theorem cutL_nil : cutL [] = some [] := rfl
theorem cutL_step (c : UInt8) (r : List UInt8) : cutL (c :: r) = if (tokFirst (c :: r)).2.2 = true then (cutL (trimL (tokFirst (c :: r)).2.1)).map ((tokFirst (c :: r)).1 :: ·) else none := by
  have h3 := first_less c r
  have h4 := trim_le (tokFirst (c :: r)).2.1
  unfold cutL
  conv => lhs; unfold cutT
  rw [cutT_fuel (c :: r).length ((trimL (tokFirst (c :: r)).2.1).length + 1) _ (by omega) (by omega)]
theorem trim_blank (r : List UInt8) : trimL (32 :: r) = trimL r := by unfold trimL; rw [List.dropWhile_cons_of_pos (by simp)]
theorem trim_other {c : UInt8} (h : c ≠ 32) (r : List UInt8) : trimL (c :: r) = c :: r := by unfold trimL; rw [List.dropWhile_cons_of_neg (by simp [h])]
theorem trim_head {l : List UInt8} {c : UInt8} {r : List UInt8} (h : trimL l = c :: r) : c ≠ 32 := by
  intro e
  subst e
  have h1 := List.head_dropWhile_not (p := (· == (32 : UInt8))) (w := by show trimL l ≠ []; rw [h]; simp)
  have h2 : (trimL l).head (by rw [h]; simp) = 32 := by simp [h]
  unfold trimL at h2
  rw [h2] at h1
  simp at h1

/-- strings.Cut at one byte. -/
theorem index_byte (c : UInt8) : ∀ l : List UInt8, Lib.index l [c] = if (l.dropWhile (fun b => !(b == c))).isEmpty = true then -1 else ((l.takeWhile (fun b => !(b == c))).length : Int)
  | [] => rfl
  | b :: l => by
    have ih := index_byte c l
    by_cases h : b = c
    · subst h
      rw [List.dropWhile_cons_of_neg (by simp), List.takeWhile_cons_of_neg (by simp)]
      unfold Lib.index
      simp
    · rw [List.dropWhile_cons_of_pos (by simp [h]), List.takeWhile_cons_of_pos (by simp [h])]
      unfold Lib.index
      rw [ih, if_neg (by simp; exact fun e => h e.symm)]
      by_cases h2 : (l.dropWhile (fun b => !(b == c))).isEmpty = true
      · rw [if_pos h2, if_pos h2, if_pos (by simp)]
      · rw [if_neg h2, if_neg h2, if_neg (by simp), List.length_cons]
        omega
theorem cut_quote (l : List UInt8) : Lib.cut l [34] = (l.takeWhile notQ, (l.dropWhile notQ).drop 1, !(l.dropWhile notQ).isEmpty) := by
  have h := index_byte 34 l
  have ht : l.takeWhile notQ ++ l.dropWhile notQ = l := List.takeWhile_append_dropWhile
  rw [show (fun b : UInt8 => !(b == 34)) = notQ from rfl] at h
  unfold Lib.cut
  by_cases he : (l.dropWhile notQ).isEmpty = true
  · rw [if_pos he] at h
    rw [h, if_neg (by omega), he]
    have hn : l.dropWhile notQ = [] := List.isEmpty_iff.1 he
    rw [hn, List.append_nil] at ht
    rw [hn, ht]; rfl
  · rw [if_neg he] at h
    rw [h, if_pos (by omega)]
    have h1 : l.take (l.takeWhile notQ).length = l.takeWhile notQ := by
      conv => lhs; arg 2; rw [← ht]
      rw [List.take_left']
      rfl
    have h2 : l.drop (l.takeWhile notQ).length = l.dropWhile notQ := by
      conv => lhs; arg 2; rw [← ht]
      rw [List.drop_left']
      rfl
    rw [Int.toNat_natCast, h1, show ([34] : List UInt8).length = 1 from rfl, ← List.drop_drop, h2]
    simp [he]

theorem lit_back (s : ByteArray) : lit s.data.toList = s := by unfold lit; exact ba_back s
theorem lit_list (l : List UInt8) : (lit l).data.toList = l := by unfold lit; exact ba_of l
theorem ext_lit (s : ByteArray) (i j : Nat) : s.extract i j = lit ((s.data.toList.drop i).take (j - i)) := ba_ext (by rw [ba_extract, lit_list])

end Go.Proofs.YthedfpcdibhfpaaDoor
