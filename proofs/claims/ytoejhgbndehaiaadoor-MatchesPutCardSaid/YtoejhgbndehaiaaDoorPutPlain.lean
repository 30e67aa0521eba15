/- What comes of a type when something is put in for its variable. Plain facts. -/
import Derived.Test.YtoejhgbndehaiaaDoorKind
import Derived.Test.YtoejhgbndehaiaaDoorFaceErr
import Derived.Test.YtoejhgbndehaiaaDoorBytes
import Derived.Lib.Replace
namespace Go.Proofs.YtoejhgbndehaiaaDoor
open Go.RowKit

theorem elem_form {s t : ByteArray} (h : elemOf s = some t) : s.data.toList = 91 :: (t.data.toList ++ [93]) := by
  unfold elemOf at h
  split at h
  · next h3 =>
    split at h
    · next h4 =>
      injection h with h
      subst h
      have h0 : s.data.toList[0]? = some 91 := by rw [str_at? s 0 (by omega)]; exact congrArg some (UInt8.toNat_inj.1 h4.1)
      have h1 : s.data.toList[s.size - 1]? = some 93 := by rw [str_at? s (s.size - 1) (by omega)]; exact congrArg some (UInt8.toNat_inj.1 h4.2)
      have hl : s.data.toList.length = s.size := str_len s
      have he : (s.extract 1 (s.size - 1)).data.toList = (s.data.toList.drop 1).take (s.size - 1 - 1) := by simp [List.extract_eq_take_drop]
      rw [he]
      refine List.ext_getElem? fun i => ?_
      cases i with
      | zero => rw [h0]; rfl
      | succ i =>
        rw [List.getElem?_cons_succ]
        by_cases hi : i < s.size - 2
        · rw [List.getElem?_append_left (by rw [List.length_take, List.length_drop]; omega), List.getElem?_take_of_lt (by omega), List.getElem?_drop]
          congr 1; omega
        · rw [List.getElem?_append_right (by rw [List.length_take, List.length_drop]; omega), List.length_take, List.length_drop]
          by_cases hi2 : i = s.size - 2
          · subst hi2
            rw [show s.size - 2 + 1 = s.size - 1 by omega, h1, hl, show s.size - 2 - min (s.size - 1 - 1) (s.size - 1) = 0 by omega]
            rfl
          · rw [List.getElem?_eq_none (by omega), List.getElem?_eq_none (by simp; omega)]
    · cases h
  · cases h

/-- A type's text: brackets round what is left. -/
theorem kind_form : ∀ (n : Nat) (p : ByteArray), p.size ≤ n → ∃ k, p.data.toList = List.replicate k 91 ++ (strip p).data.toList ++ List.replicate k 93
  | 0, p, h => by
    have : elemOf p = none := by
      cases he : elemOf p with
      | none => rfl
      | some t => have := elemOf_size he; omega
    exact ⟨0, by rw [strip_none this]; simp⟩
  | n + 1, p, h => by
    cases he : elemOf p with
    | none => exact ⟨0, by rw [strip_none he]; simp⟩
    | some t =>
      have hz := elemOf_size he
      obtain ⟨k, hk⟩ := kind_form n t (by omega)
      refine ⟨k + 1, ?_⟩
      rw [elem_form he, hk, strip_some he, List.replicate_succ, List.replicate_succ']
      simp
theorem baseB_or {s : ByteArray} (h : baseB s = true) : s.data.toList = [105, 110, 116] ∨ s.data.toList = [116, 101, 120, 116] ∨ s.data.toList = [42] := by
  unfold baseB at h
  simp only [ByteArray.toList_eq, Bool.or_eq_true, beq_iff_eq] at h
  exact h
theorem kind_base {p : ByteArray} (h : kindErr p = 0) : p.size ≤ 600 ∧ baseB (strip p) = true := by
  unfold kindErr at h
  split at h
  · cases h
  · split at h
    · next h1 h2 => exact ⟨by omega, h2⟩
    · cases h

/-- A type with its variable replaced. -/
def putB (b : ByteArray) (c : UInt8) : List UInt8 := if starByte c = true then b.data.toList else [c]
def putTxt (p b : ByteArray) : ByteArray := ⟨(p.data.toList.flatMap (putB b)).toArray⟩
def putR (p b : ByteArray) : ByteArray × Int :=
  if kindErr p = 0 then (if openB p = true then (if kindErr b = 0 then (if 600 < (putTxt p b).size then (⟨#[]⟩, 1) else (putTxt p b, 0)) else (⟨#[]⟩, kindErr b)) else (p, 0)) else (⟨#[]⟩, kindErr p)

theorem star_42 : starByte 42 = true := rfl
theorem star_no {c : UInt8} (h : c ≠ 42) : starByte c = false := by
  unfold starByte
  rw [decide_eq_false_iff_not]
  intro e
  exact h (UInt8.toNat_inj.1 e)
theorem put_none (b : ByteArray) : ∀ l : List UInt8, (∀ c ∈ l, starByte c = false) → l.flatMap (putB b) = l
  | [], _ => rfl
  | c :: l, h => by
    rw [List.flatMap_cons, put_none b l fun x hx => h x (List.mem_cons_of_mem _ hx)]
    unfold putB
    rw [h c (List.mem_cons_self ..)]
    rfl
theorem put_star (b : ByteArray) (l1 l2 : List UInt8) (h1 : ∀ c ∈ l1, c ≠ 42) (h2 : ∀ c ∈ l2, c ≠ 42) : (l1 ++ 42 :: l2).flatMap (putB b) = l1 ++ b.data.toList ++ l2 := by
  rw [List.flatMap_append, List.flatMap_cons, put_none b l1 fun c hc => star_no (h1 c hc), put_none b l2 fun c hc => star_no (h2 c hc)]
  show l1 ++ (b.data.toList ++ l2) = _
  simp
theorem indexByte_at (l2 : List UInt8) : ∀ l1 : List UInt8, (∀ c ∈ l1, c ≠ 42) → Lib.indexByte (l1 ++ 42 :: l2) 42 = l1.length
  | [], _ => by simp [Lib.indexByte]
  | c :: l1, h => by
    have ih := indexByte_at l2 l1 fun x hx => h x (List.mem_cons_of_mem _ hx)
    have hc : (c == 42) = false := by simpa using h c (List.mem_cons_self ..)
    rw [List.cons_append, Lib.indexByte, hc, ih]
    have : ((l1.length : Int) == -1) = false := by simp <;> omega
    rw [this]
    simp
theorem replace_star (l1 l2 b : List UInt8) (h1 : ∀ c ∈ l1, c ≠ 42) (h2 : ∀ c ∈ l2, c ≠ 42) : Lib.replace (l1 ++ 42 :: l2) [42] b 1 = l1 ++ b ++ l2 := by
  have hi : Lib.index (l1 ++ 42 :: l2) [42] = (l1.length : Nat) := by rw [Lib.index_one, indexByte_at l2 l1 h1]
  have hc : Lib.count (l1 ++ 42 :: l2) [42] = 1 + Lib.count ((l1 ++ 42 :: l2).drop (l1.length + 1)) [42] := Lib.count_hit (by simp) hi
  unfold Lib.replace
  split
  · next h => have := beq_iff_eq.1 h; subst this; simp
  · have hn : Lib.replaceNum (l1 ++ 42 :: l2) [42] 1 = 1 := by
      unfold Lib.replaceNum
      rw [if_neg (by omega)]
      rfl
    rw [hn, Lib.replaceK_hit _ _ 0 _ _ hi]
    simp [Lib.replaceK, List.drop_append]

theorem rep_no (k : Nat) {c : UInt8} (h : c ≠ 42) : ∀ x ∈ List.replicate k c, x ≠ 42 := fun x hx => by rw [List.eq_of_mem_replicate hx]; exact h
/-- Where a type has a variable: there is one. -/
theorem kind_star {p : ByteArray} (h : kindErr p = 0) (ho : openB p = true) : ∃ k, p.data.toList = List.replicate k 91 ++ 42 :: List.replicate k 93 := by
  obtain ⟨_, hb⟩ := kind_base h
  obtain ⟨k, hk⟩ := kind_form p.size p (Nat.le_refl _)
  refine ⟨k, ?_⟩
  rcases baseB_or hb with e | e | e
  · exfalso
    unfold openB at ho
    rw [hk, e] at ho
    simp only [List.any_append, List.any_replicate, Bool.or_eq_true] at ho
    revert ho
    simp [starByte]
  · exfalso
    unfold openB at ho
    rw [hk, e] at ho
    simp only [List.any_append, List.any_replicate, Bool.or_eq_true] at ho
    revert ho
    simp [starByte]
  · rw [hk, e]; simp
theorem put_closed {p : ByteArray} (h : openB p = false) (b : ByteArray) : putTxt p b = p := by
  unfold putTxt
  rw [put_none b p.data.toList fun c hc => ?_]
  unfold openB at h
  rw [List.any_eq_false] at h
  simpa using h c hc
theorem put_replace {p : ByteArray} (h : kindErr p = 0) (ho : openB p = true) (b : ByteArray) : (⟨(Lib.replace p.data.toList [42] b.data.toList 1).toArray⟩ : ByteArray) = putTxt p b := by
  obtain ⟨k, hk⟩ := kind_star h ho
  unfold putTxt
  rw [hk, replace_star _ _ _ (rep_no k (by decide)) (rep_no k (by decide)), put_star _ _ _ (rep_no k (by decide)) (rep_no k (by decide))]
theorem count_star {p : ByteArray} (h : kindErr p = 0) (ho : openB p = true) : Lib.count p.data.toList [42] ≤ 600 := by
  rw [Lib.count_one]
  refine Nat.le_trans List.count_le_length ?_
  have := (kind_base h).1
  rw [str_len p]
  exact this

section
variable {p b : ByteArray}
theorem putR_bad (h : kindErr p ≠ 0) : putR p b = (⟨#[]⟩, kindErr p) := by unfold putR; rw [if_neg h]
theorem putR_closed (h : kindErr p = 0) (ho : openB p = false) : putR p b = (p, 0) := by unfold putR; rw [if_pos h, if_neg (by simp [ho])]
theorem putR_bound (h : kindErr p = 0) (ho : openB p = true) (hb : kindErr b ≠ 0) : putR p b = (⟨#[]⟩, kindErr b) := by unfold putR; rw [if_pos h, if_pos ho, if_neg hb]
theorem putR_long (h : kindErr p = 0) (ho : openB p = true) (hb : kindErr b = 0) (hl : 600 < (putTxt p b).size) : putR p b = (⟨#[]⟩, 1) := by unfold putR; rw [if_pos h, if_pos ho, if_pos hb, if_pos hl]
theorem putR_ok (h : kindErr p = 0) (ho : openB p = true) (hb : kindErr b = 0) (hl : ¬ 600 < (putTxt p b).size) : putR p b = (putTxt p b, 0) := by unfold putR; rw [if_pos h, if_pos ho, if_pos hb, if_neg hl]
end

end Go.Proofs.YtoejhgbndehaiaaDoor
