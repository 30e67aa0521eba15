/- Texts that belong together: PutPlain, OpenB, Put, Unify, All. -/
import Derived.Test.YthedfpcdibhfpaaDoorKind
import Derived.Test.YthedfpcdibhfpaaDoorFaceErr
import Derived.Test.YthedfpcdibhfpaaDoorBytes
import Derived.Test.YthedfpcdibhfpaaDoorShelf
import Derived.Test.YthedfpcdibhfpaaDoorBase
import Derived.Lib.Replace
import Derived.Deep.RegionWith
import Derived.Deep.DeepCutAuto
import Derived.Deep.QuietTactic
import Derived.BigQuiet
import Derived.WalkSmall
/- What comes of a type when something is put in for its variable. Plain facts. -/
namespace Go.Proofs.YthedfpcdibhfpaaDoor
open Go.RowKit

theorem elem_form {s t : ByteArray} (h : elemOf s = some t) : s.data.toList = 91 :: (t.data.toList ++ [93]) := by
  unfold elemOf at h
  split at h
  · next h3 =>
    split at h
    · next h4 =>
      injection h with h
      subst h
      have h0 : s.data.toList[0]? = some 91 := by rw [str_at? s 0 (by omega)]; exact congrArg some (UInt8.toNat_inj.1 h4.1)
      have h1 : s.data.toList[s.size - 1]? = some 93 := by rw [str_at? s (s.size - 1) (by omega)]; exact congrArg some (UInt8.toNat_inj.1 h4.2)
      have hl : s.data.toList.length = s.size := str_len s
      have he : (s.extract 1 (s.size - 1)).data.toList = (s.data.toList.drop 1).take (s.size - 1 - 1) := by simp [List.extract_eq_take_drop]
      rw [he]
      refine List.ext_getElem? fun i => ?_
      cases i with
      | zero => rw [h0]; rfl
      | succ i =>
        rw [List.getElem?_cons_succ]
        by_cases hi : i < s.size - 2
        · rw [List.getElem?_append_left (by rw [List.length_take, List.length_drop]; omega), List.getElem?_take_of_lt (by omega), List.getElem?_drop]
          congr 1; omega
        · rw [List.getElem?_append_right (by rw [List.length_take, List.length_drop]; omega), List.length_take, List.length_drop]
          by_cases hi2 : i = s.size - 2
          · subst hi2
            rw [show s.size - 2 + 1 = s.size - 1 by omega, h1, hl, show s.size - 2 - min (s.size - 1 - 1) (s.size - 1) = 0 by omega]
            rfl
          · rw [List.getElem?_eq_none (by omega), List.getElem?_eq_none (by simp; omega)]
    · cases h
  · cases h

/-- A type's text: brackets round what is left. -/
theorem kind_form : ∀ (n : Nat) (p : ByteArray), p.size ≤ n → ∃ k, p.data.toList = List.replicate k 91 ++ (strip p).data.toList ++ List.replicate k 93
  | 0, p, h => by
    have : elemOf p = none := by
      cases he : elemOf p with
      | none => rfl
      | some t => have := elemOf_size he; omega
    exact ⟨0, by rw [strip_none this]; simp⟩
  | n + 1, p, h => by
    cases he : elemOf p with
    | none => exact ⟨0, by rw [strip_none he]; simp⟩
    | some t =>
      have hz := elemOf_size he
      obtain ⟨k, hk⟩ := kind_form n t (by omega)
      refine ⟨k + 1, ?_⟩
      rw [elem_form he, hk, strip_some he, List.replicate_succ, List.replicate_succ']
      simp
theorem baseB_or {s : ByteArray} (h : baseB s = true) : s.data.toList = [105, 110, 116] ∨ s.data.toList = [116, 101, 120, 116] ∨ s.data.toList = [42] := by
  unfold baseB at h
  simp only [ByteArray.toList_eq, Bool.or_eq_true, beq_iff_eq] at h
  exact h
theorem kind_base {p : ByteArray} (h : kindErr p = 0) : p.size ≤ 600 ∧ baseB (strip p) = true := by
  unfold kindErr at h
  split at h
  · cases h
  · split at h
    · next h1 h2 => exact ⟨by omega, h2⟩
    · cases h

/-- A type with its variable replaced. -/
def putB (b : ByteArray) (c : UInt8) : List UInt8 := if starByte c = true then b.data.toList else [c]
def putTxt (p b : ByteArray) : ByteArray := ⟨(p.data.toList.flatMap (putB b)).toArray⟩
def putR (p b : ByteArray) : ByteArray × Int :=
  if kindErr p = 0 then (if openB p = true then (if kindErr b = 0 then (if 600 < (putTxt p b).size then (⟨#[]⟩, 1) else (putTxt p b, 0)) else (⟨#[]⟩, kindErr b)) else (p, 0)) else (⟨#[]⟩, kindErr p)

theorem star_42 : starByte 42 = true := rfl
theorem star_no {c : UInt8} (h : c ≠ 42) : starByte c = false := by
  unfold starByte
  rw [decide_eq_false_iff_not]
  intro e
  exact h (UInt8.toNat_inj.1 e)
theorem put_none (b : ByteArray) : ∀ l : List UInt8, (∀ c ∈ l, starByte c = false) → l.flatMap (putB b) = l
  | [], _ => rfl
  | c :: l, h => by
    rw [List.flatMap_cons, put_none b l fun x hx => h x (List.mem_cons_of_mem _ hx)]
    unfold putB
    rw [h c (List.mem_cons_self ..)]
    rfl
theorem put_star (b : ByteArray) (l1 l2 : List UInt8) (h1 : ∀ c ∈ l1, c ≠ 42) (h2 : ∀ c ∈ l2, c ≠ 42) : (l1 ++ 42 :: l2).flatMap (putB b) = l1 ++ b.data.toList ++ l2 := by
  rw [List.flatMap_append, List.flatMap_cons, put_none b l1 fun c hc => star_no (h1 c hc), put_none b l2 fun c hc => star_no (h2 c hc)]
  show l1 ++ (b.data.toList ++ l2) = _
  simp
theorem indexByte_at (l2 : List UInt8) : ∀ l1 : List UInt8, (∀ c ∈ l1, c ≠ 42) → Lib.indexByte (l1 ++ 42 :: l2) 42 = l1.length
  | [], _ => by simp [Lib.indexByte]
  | c :: l1, h => by
    have ih := indexByte_at l2 l1 fun x hx => h x (List.mem_cons_of_mem _ hx)
    have hc : (c == 42) = false := by simpa using h c (List.mem_cons_self ..)
    rw [List.cons_append, Lib.indexByte, hc, ih]
    have : ((l1.length : Int) == -1) = false := by simp <;> omega
    rw [this]
    simp
theorem replace_star (l1 l2 b : List UInt8) (h1 : ∀ c ∈ l1, c ≠ 42) (h2 : ∀ c ∈ l2, c ≠ 42) : Lib.replace (l1 ++ 42 :: l2) [42] b 1 = l1 ++ b ++ l2 := by
  have hi : Lib.index (l1 ++ 42 :: l2) [42] = (l1.length : Nat) := by rw [Lib.index_one, indexByte_at l2 l1 h1]
  have hc : Lib.count (l1 ++ 42 :: l2) [42] = 1 + Lib.count ((l1 ++ 42 :: l2).drop (l1.length + 1)) [42] := Lib.count_hit (by simp) hi
  unfold Lib.replace
  split
  · next h => have := beq_iff_eq.1 h; subst this; simp
  · have hn : Lib.replaceNum (l1 ++ 42 :: l2) [42] 1 = 1 := by
      unfold Lib.replaceNum
      rw [if_neg (by omega)]
      rfl
    rw [hn, Lib.replaceK_hit _ _ 0 _ _ hi]
    simp [Lib.replaceK, List.drop_append]

theorem rep_no (k : Nat) {c : UInt8} (h : c ≠ 42) : ∀ x ∈ List.replicate k c, x ≠ 42 := fun x hx => by rw [List.eq_of_mem_replicate hx]; exact h
/-- Where a type has a variable: there is one. -/
theorem kind_star {p : ByteArray} (h : kindErr p = 0) (ho : openB p = true) : ∃ k, p.data.toList = List.replicate k 91 ++ 42 :: List.replicate k 93 := by
  obtain ⟨_, hb⟩ := kind_base h
  obtain ⟨k, hk⟩ := kind_form p.size p (Nat.le_refl _)
  refine ⟨k, ?_⟩
  rcases baseB_or hb with e | e | e
  · exfalso
    unfold openB at ho
    rw [hk, e] at ho
    simp only [List.any_append, List.any_replicate, Bool.or_eq_true] at ho
    revert ho
    simp [starByte]
  · exfalso
    unfold openB at ho
    rw [hk, e] at ho
    simp only [List.any_append, List.any_replicate, Bool.or_eq_true] at ho
    revert ho
    simp [starByte]
  · rw [hk, e]; simp
theorem put_closed {p : ByteArray} (h : openB p = false) (b : ByteArray) : putTxt p b = p := by
  unfold putTxt
  rw [put_none b p.data.toList fun c hc => ?_]
  unfold openB at h
  rw [List.any_eq_false] at h
  simpa using h c hc
theorem put_replace {p : ByteArray} (h : kindErr p = 0) (ho : openB p = true) (b : ByteArray) : (⟨(Lib.replace p.data.toList [42] b.data.toList 1).toArray⟩ : ByteArray) = putTxt p b := by
  obtain ⟨k, hk⟩ := kind_star h ho
  unfold putTxt
  rw [hk, replace_star _ _ _ (rep_no k (by decide)) (rep_no k (by decide)), put_star _ _ _ (rep_no k (by decide)) (rep_no k (by decide))]
theorem count_star {p : ByteArray} (h : kindErr p = 0) (ho : openB p = true) : Lib.count p.data.toList [42] ≤ 600 := by
  rw [Lib.count_one]
  refine Nat.le_trans List.count_le_length ?_
  have := (kind_base h).1
  rw [str_len p]
  exact this

section
variable {p b : ByteArray}
theorem putR_bad (h : kindErr p ≠ 0) : putR p b = (⟨#[]⟩, kindErr p) := by unfold putR; rw [if_neg h]
theorem putR_closed (h : kindErr p = 0) (ho : openB p = false) : putR p b = (p, 0) := by unfold putR; rw [if_pos h, if_neg (by simp [ho])]
theorem putR_bound (h : kindErr p = 0) (ho : openB p = true) (hb : kindErr b ≠ 0) : putR p b = (⟨#[]⟩, kindErr b) := by unfold putR; rw [if_pos h, if_pos ho, if_neg hb]
theorem putR_long (h : kindErr p = 0) (ho : openB p = true) (hb : kindErr b = 0) (hl : 600 < (putTxt p b).size) : putR p b = (⟨#[]⟩, 1) := by unfold putR; rw [if_pos h, if_pos ho, if_pos hb, if_pos hl]
theorem putR_ok (h : kindErr p = 0) (ho : openB p = true) (hb : kindErr b = 0) (hl : ¬ 600 < (putTxt p b).size) : putR p b = (putTxt p b, 0) := by unfold putR; rw [if_pos h, if_pos ho, if_pos hb, if_neg hl]
end

end Go.Proofs.YthedfpcdibhfpaaDoor

/- Has a kind a variable: kind.Open. -/
namespace Go.Proofs.YthedfpcdibhfpaaDoor
open Go.RowKit

theorem indexByte_star : ∀ l : List UInt8, decide (0 ≤ Lib.indexByte l 42) = l.any starByte
  | [] => rfl
  | b :: l => by
    have ih := indexByte_star l
    have hge := Lib.indexByte_ge l 42
    unfold Lib.indexByte
    rw [List.any_cons, ← ih]
    by_cases hb : b = 42
    · subst hb; simp [starByte]
    · have h1 : (b == 42) = false := by simp [hb]
      have h2 : starByte b = false := by
        unfold starByte
        rw [decide_eq_false_iff_not]
        intro e
        exact hb (UInt8.toNat_inj.1 e)
      rw [h1, h2]
      by_cases he : Lib.indexByte l 42 = -1
      · simp [he]
      · have h3 : (Lib.indexByte l 42 == -1) = false := by simp [he]
        rw [if_neg (by simp), h3, if_neg (by simp), Bool.false_or, decide_eq_decide]
        omega

set_option maxHeartbeats 400000 in
theorem kindOpen_any (s : ByteArray) (w : World) : Calls Tryd.prog 171 #[.string s] w fun e w' => e = .returned (.bool (openB s)) ∧ w = w' := by
  have hc := fun W => Tryd.strings_Contains_one s 42 W
  rw [indexByte_star] at hc
  unfold openB
  generalize s.data.toList.any starByte = z at hc ⊢
  have HC := Lib.hid hc
  clear hc
  go_enter Tryd.func171, Tryd.ntmps171
  go_wp2_with fail
  refine (HC.out _).mono ?_
  rintro e w' ⟨rfl, rfl⟩
  go_wp2_with fail
  go_ret
  exact ⟨rfl, rfl⟩

end Go.Proofs.YthedfpcdibhfpaaDoor

/- What comes of a type when something is put in for its variable: unify.Put, and the reference's PutOf. -/
namespace Go.Proofs.YthedfpcdibhfpaaDoor
open Go.RowKit Go.Shelf

theorem ret_se {a b : ByteArray} {x y : Int} (h : a = b) (h2 : x = y) : Ending.returned (.tuple #[.string a, .int .i64 x]) = .returned (.tuple #[.string b, .int .i64 y]) := by rw [h, h2]

set_option maxRecDepth 100000 in
set_option maxHeartbeats 2000000 in
theorem put_any (p b : ByteArray) (m : Int) (w : World) (hp : p.size ≤ 140737488355328) (hb : b.size ≤ 140737488355328) (hm : w.cell? ⟨1, 0, none⟩ = some (.int .i64 m)) :
    Calls Tryd.prog 172 #[.string p, .string b] w fun e w' => e = .returned (.tuple #[.string (putR p b).1, .int .i64 (putR p b).2]) ∧ Below w.heap.size w w' := by
  have hk1 := kindCheck_any p w hp
  have hk2 := kindCheck_any b w hb
  have hop := kindOpen_any p w
  have hR1 := fun h => putR_bad (p := p) (b := b) h
  have hR2 := fun h ho => putR_closed (p := p) (b := b) h ho
  have hR3 := fun h ho hb => putR_bound (p := p) (b := b) h ho hb
  have hR4 := fun h ho hb hl => putR_long (p := p) (b := b) h ho hb hl
  have hR5 := fun h ho hb hl => putR_ok (p := p) (b := b) h ho hb hl
  have hrep : kindErr p = 0 → openB p = true → kindErr b = 0 → Calls Tryd.prog 187 #[.string p, .string ⟨#[42]⟩, .string b, .int .i64 1] w fun e w' => e = .returned (.string (putTxt p b)) ∧ Below w.heap.size w w' := fun h ho hb0 => by
    have h1 := (kind_base h).1
    have h2 := (kind_base hb0).1
    have h3 : Lib.countB p ⟨#[42]⟩ ≤ 600 := count_star h ho
    have h4 : Lib.countB p ⟨#[42]⟩ * b.size ≤ 600 * 600 := Nat.mul_le_mul h3 h2
    have hc := Tryd.strings_Replace p ⟨#[42]⟩ b 1 m w (by omega) hm (by decide) (by omega)
    rw [show (⟨(Lib.replace p.data.toList (⟨#[42]⟩ : ByteArray).data.toList b.data.toList 1).toArray⟩ : ByteArray) = putTxt p b from put_replace h ho b] at hc
    exact hc
  generalize putR p b = r at hR1 hR2 hR3 hR4 hR5 ⊢
  generalize putTxt p b = T at hR4 hR5 hrep
  generalize kindErr p = z1 at hk1 hR1 hR2 hR3 hR4 hR5 hrep
  generalize kindErr b = z2 at hk2 hR3 hR4 hR5 hrep
  generalize openB p = zo at hop hR2 hR3 hR4 hR5 hrep
  have HK1 := Lib.hid hk1; have HK2 := Lib.hid hk2; have HOP := Lib.hid hop; have HR1 := Lib.hid hR1; have HR2 := Lib.hid hR2; have HR3 := Lib.hid hR3; have HR4 := Lib.hid hR4; have HR5 := Lib.hid hR5; have HREP := Lib.hid hrep
  clear hk1 hk2 hop hR1 hR2 hR3 hR4 hR5 hrep
  go_enter Tryd.func172, Tryd.ntmps172
  go_wp2_with fail
  refine HK1.out.mono ?_
  rintro e w' ⟨rfl, rfl⟩
  by_cases h1 : z1 = 0
  · subst h1
    go_wp2_with fail
    refine HOP.out.mono ?_
    rintro e w' ⟨rfl, rfl⟩
    cases zo with
    | false =>
      have hr := HR2.out (by first | rfl | trivial) (by first | rfl | trivial)
      subst hr
      go_wp2_with fail
      go_ret2
      exact ⟨rfl, Below.refl _ _⟩
    | true =>
      go_wp2_with fail
      refine HK2.out.mono ?_
      rintro e w' ⟨rfl, rfl⟩
      by_cases h2 : z2 = 0
      · subst h2
        have hrep := HREP.out (by first | rfl | trivial) (by first | rfl | trivial) (by first | rfl | trivial)
        have HREP2 := Lib.hid hrep
        clear hrep
        go_wp2_with fail
        refine HREP2.out.mono ?_
        rintro e w2 ⟨rfl, hb2⟩
        by_cases hl : 600 < T.size
        · have hlz : (600 : Int) < (T.size : Int) := by omega
          have hr := HR4.out (by first | rfl | trivial) (by first | rfl | trivial) (by first | rfl | trivial) hl
          subst hr
          go_wp2_with fail
          go_ret2
          exact ⟨rfl, hb2⟩
        · have hlz : ¬ (600 : Int) < (T.size : Int) := by omega
          have hr := HR5.out (by first | rfl | trivial) (by first | rfl | trivial) (by first | rfl | trivial) hl
          subst hr
          go_wp2_with fail
          go_ret2
          exact ⟨rfl, hb2⟩
      · have h2b : (z2 == 0) = false := by simp [h2]
        have hr := HR3.out (by first | rfl | trivial) (by first | rfl | trivial) h2
        subst hr
        go_wp2_with fail
        go_ret2
        exact ⟨rfl, Below.refl _ _⟩
  · have h1b : (z1 == 0) = false := by simp [h1]
    have hr := HR1.out h1
    subst hr
    go_wp2_with fail
    go_ret2
    exact ⟨rfl, Below.refl _ _⟩

/-- What the reference has put together, up to a place. -/
def putTo (p b : ByteArray) (k : Nat) : ByteArray := ⟨((p.data.toList.take k).flatMap (putB b)).toArray⟩
theorem putTo_zero (p b : ByteArray) : putTo p b 0 = ⟨#[]⟩ := rfl
theorem putTo_star {p b : ByteArray} {k : Nat} (hk : k < p.size) (h : starByte p[k] = true) : putTo p b (k + 1) = putTo p b k ++ b := by
  refine ba_ext ?_
  rw [ba_app]
  unfold putTo
  rw [ba_of, ba_of, List.take_add_one, str_at? p k hk, List.flatMap_append]
  simp [putB, h]
theorem putTo_char {p b : ByteArray} {k : Nat} (hk : k < p.size) (h : starByte p[k] = false) : putTo p b (k + 1) = putTo p b k ++ p.extract k (k + 1) := by
  refine ba_ext ?_
  rw [ba_app]
  have he : (p.extract k (k + 1)).data.toList = [p[k]] := by
    have hl : p.data.toList.length = p.size := str_len p
    have : (p.extract k (k + 1)).data.toList = (p.data.toList.drop k).take (k + 1 - k) := by simp [List.extract_eq_take_drop]
    rw [this, show k + 1 - k = 1 by omega]
    refine List.ext_getElem? fun i => ?_
    cases i with
    | zero => rw [List.getElem?_take_of_lt (by omega), List.getElem?_drop, str_at? p (k + 0) (by omega)]; rfl
    | succ i => rw [List.getElem?_eq_none (by rw [List.length_take]; omega)]; rfl
  rw [he]
  unfold putTo
  rw [ba_of, ba_of, List.take_add_one, str_at? p k hk, List.flatMap_append]
  simp [putB, h]
theorem putTo_end (p b : ByteArray) : putTo p b p.size = putTxt p b := by
  unfold putTo putTxt
  rw [← str_len p, List.take_length]
theorem putTo_size (p b : ByteArray) : ∀ k, (putTo p b k).size ≤ k * (b.size + 1)
  | 0 => by rw [putTo_zero]; exact Nat.zero_le _
  | k + 1 => by
    have ih := putTo_size p b k
    rw [Nat.succ_mul]
    by_cases hk : k < p.size
    · cases h : starByte p[k] with
      | true => rw [putTo_star hk h, ba_app_size]; omega
      | false =>
        rw [putTo_char hk h, ba_app_size, ByteArray.size_extract]; omega
    · have : putTo p b (k + 1) = putTo p b k := by
        unfold putTo
        have hl : p.data.toList.length = p.size := str_len p
        rw [List.take_of_length_le (by omega), List.take_of_length_le (by omega)]
      rw [this]; omega

set_option maxRecDepth 100000 in
set_option maxHeartbeats 4000000 in
theorem putOf_any (p b : ByteArray) (w : World) (hp : p.size ≤ 140737488355328) (hb : b.size ≤ 140737488355328) :
    Calls Tryd.prog 138 #[.string p, .string b] w fun e w' => e = .returned (.tuple #[.string (putR p b).1, .int .i64 (putR p b).2]) ∧ Below w.heap.size w w' := by
  have hk1 := kindFault_any p w hp
  have hk2 := kindFault_any b w hb
  have hop := isOpen_any p w hp
  have hR1 := fun h => putR_bad (p := p) (b := b) h
  have hR2 := fun h ho => putR_closed (p := p) (b := b) h ho
  have hR3 := fun h ho hb => putR_bound (p := p) (b := b) h ho hb
  have hR4 := fun h ho hb hl => putR_long (p := p) (b := b) h ho hb hl
  have hR5 := fun h ho hb hl => putR_ok (p := p) (b := b) h ho hb hl
  have hcl := fun (h : openB p = false) => put_closed h b
  have hps := fun h => (kind_base (p := p) h).1
  have hbs := fun h => (kind_base (p := b) h).1
  have hno := fun (h : openB p = false) (k : Nat) (hk : k < p.size) => (show starByte p[k] = false by
    unfold openB at h
    rw [List.any_eq_false] at h
    simpa using h _ (List.mem_of_getElem? (str_at? p k hk)))
  generalize putR p b = r at hR1 hR2 hR3 hR4 hR5 ⊢
  generalize kindErr p = z1 at hk1 hR1 hR2 hR3 hR4 hR5 hps
  generalize kindErr b = z2 at hk2 hR3 hR4 hR5 hbs
  generalize openB p = zo at hop hR2 hR3 hR4 hR5 hcl hno
  -- what the loop tells
  have hloop : z1 = 0 → (zo = false ∨ z2 = 0) → ((600 < (putTxt p b).size → r = (⟨#[]⟩, 1)) ∧ (¬ 600 < (putTxt p b).size → r = (putTxt p b, 0))) := fun h1 h2 => by
    cases zo with
    | false =>
      have hr := hR2 h1 rfl
      have hc := hcl rfl
      rw [hc]
      exact ⟨fun h => absurd (hps h1) (by omega), fun _ => hr⟩
    | true =>
      have h3 : z2 = 0 := h2.elim (fun h => by cases h) id
      exact ⟨fun h => hR4 h1 rfl h3 h, fun h => hR5 h1 rfl h3 h⟩
  have HK1 := Lib.hid hk1; have HK2 := Lib.hid hk2; have HOP := Lib.hid hop; have HR1 := Lib.hid hR1; have HR3 := Lib.hid hR3; have HLOOP := Lib.hid hloop; have HPS := Lib.hid hps; have HBS := Lib.hid hbs; have HNO := Lib.hid hno
  clear hk1 hk2 hop hR1 hR3 hloop hps hbs hno
  clear hR2 hR4 hR5 hcl
  go_enter Tryd.func138, Tryd.ntmps138
  rcases Classical.em (z1 = 0) with h1 | h1
  · rcases (show (zo = true ∧ z2 ≠ 0) ∨ (zo = false ∨ (zo = true ∧ z2 = 0)) by cases zo <;> (by_cases h : z2 = 0 <;> simp [h])) with ⟨h2, h3⟩ | hgo
    · subst h1; subst h2
      have h3b : (z2 == 0) = false := by simp [h3]
      have hr := HR3.out (by first | rfl | trivial) (by first | rfl | trivial) h3
      subst hr
      go_wp2_with (first
        | (go_at_call 37; (with_reducible refine HK1.out.mono ?_); rintro e w' ⟨rfl, rfl⟩)
        | (go_at_call 37; (with_reducible refine HK2.out.mono ?_); rintro e w' ⟨rfl, rfl⟩)
        | (go_at_call 38; (with_reducible refine HOP.out.mono ?_); rintro e w' ⟨rfl, rfl⟩))
      go_ret2
      exact ⟨rfl, Below.refl _ _⟩
    · have hlp := HLOOP.out h1 (hgo.imp id And.right)
      have hp6 := HPS.out h1
      have hbd : ∀ k, k ≤ p.size → (putTo p b k).size ≤ 400000 ∧ ((∃ i, ∃ h : i < p.size, starByte p[i] = true) → b.size ≤ 600) := fun k hk => by
        rcases hgo with hz | ⟨hz, hz2⟩
        · refine ⟨?_, fun ⟨i, hi, h⟩ => by rw [HNO.out hz i hi] at h; cases h⟩
          have hn : ∀ c ∈ p.data.toList.take k, starByte c = false := fun c hc => by
            obtain ⟨i, hi, rfl⟩ := List.getElem_of_mem (List.mem_of_mem_take hc)
            have hi' : i < p.size := by rw [← str_len p]; exact hi
            exact HNO.out hz i hi'
          unfold putTo
          rw [put_none b _ hn, ba_size, ba_of, List.length_take]
          omega
        · have h6 := HBS.out hz2
          refine ⟨?_, fun _ => h6⟩
          have h7 := putTo_size p b k
          have h8 : k * (b.size + 1) ≤ 600 * 601 := Nat.mul_le_mul (by omega) (by omega)
          omega
      have hend := putTo_end p b
      generalize putTxt p b = T at hlp hend
      have HLP := Lib.hid hlp; have HBD := Lib.hid hbd; have HEND := Lib.hid hend
      clear hlp hbd hend
      clear HR1 HR3 HLOOP HPS HBS HNO
      subst h1
      rcases hgo with rfl | ⟨rfl, rfl⟩
      all_goals
        go_wp2_with (first
          | (go_at_call 37; (with_reducible refine HK1.out.mono ?_); rintro e w' ⟨rfl, rfl⟩)
          | (go_at_call 37; (with_reducible refine HK2.out.mono ?_); rintro e w' ⟨rfl, rfl⟩)
          | (go_at_call 38; (with_reducible refine HOP.out.mono ?_); rintro e w' ⟨rfl, rfl⟩))
        go_loopg [7, 8] p.size (fun gg s7 s8 wr => ∃ kk : Nat, kk ≤ p.size ∧ p.size - kk ≤ gg ∧ s8 = .int .i64 kk ∧ s7 = .string (putTo p b kk) ∧ wr = w)
        case atStart => exact ⟨0, Nat.zero_le _, by omega, rfl, rfl, rfl⟩
        case round =>
          obtain ⟨kk, hkk, hg, rfl, rfl, rfl⟩ := hrel
          by_cases hlt : kk < p.size
          · have hltz : (kk : Int) < (p.size : Int) := by omega
            have hb2 : (p[kk].toNat : Int) < 256 := by have := p[kk].toNat_lt; omega
            have hs1 := (HBD.out kk hkk).1
            cases hq : starByte p[kk] with
            | true =>
              have hs := putTo_star (b := b) hlt hq
              have hb6 := (HBD.out kk hkk).2 ⟨kk, hlt, hq⟩
              have hq2 : (p[kk].toNat : Int) = 42 := by (simp [starByte] at hq; omega)
              have hq3 : ((p[kk].toNat : Int) == 42) = true := by simp [hq2]
              obtain ⟨Q, hQ⟩ : ∃ z, putTo p b kk = z := ⟨_, rfl⟩
              rw [hQ] at hs hs1 ⊢
              have HS := Lib.hid hs; have HQ := Lib.hid hQ
              clear hs hQ
              clear hq
              go_wp2_with fail
              go_roundg (p.size - (kk + 1))
              case measure => omega
              case rel => exact ⟨kk + 1, by omega, by omega, by go_num, by rw [HS.out], rfl⟩
            | false =>
              have hs := putTo_char (b := b) hlt hq
              have hq2 : ¬ (p[kk].toNat : Int) = 42 := by (simp [starByte] at hq; omega)
              have hq3 : ((p[kk].toNat : Int) == 42) = false := by simp [hq2]
              obtain ⟨Q, hQ⟩ : ∃ z, putTo p b kk = z := ⟨_, rfl⟩
              rw [hQ] at hs hs1 ⊢
              have hxs : (p.extract kk (kk + 1)).size = 1 := by rw [ByteArray.size_extract]; omega
              have HS := Lib.hid hs; have HQ := Lib.hid hQ
              clear hs hQ
              clear hq
              go_wp2_with fail
              go_roundg (p.size - (kk + 1))
              case measure => omega
              case rel => exact ⟨kk + 1, by omega, by omega, by go_num, by rw [HS.out], rfl⟩
          · have hltz : ¬ (kk : Int) < (p.size : Int) := by omega
            obtain rfl : kk = p.size := by omega
            rw [HEND.out]
            by_cases hl : 600 < T.size
            · have hlz : (600 : Int) < (T.size : Int) := by omega
              have hr := HLP.out.1 hl
              subst hr
              go_wp2_with fail
              go_ret2
              exact ⟨rfl, Below.refl _ _⟩
            · have hlz : ¬ (600 : Int) < (T.size : Int) := by omega
              have hr := HLP.out.2 hl
              subst hr
              go_wp2_with fail
              go_ret2
              exact ⟨rfl, Below.refl _ _⟩
  · have h1b : (z1 == 0) = false := by simp [h1]
    have hr := HR1.out h1
    subst hr
    go_wp2_with (go_at_call 37; (with_reducible refine HK1.out.mono ?_); rintro e w' ⟨rfl, rfl⟩)
    go_ret2
    exact ⟨rfl, Below.refl _ _⟩

end Go.Proofs.YthedfpcdibhfpaaDoor

/- unify.Match and the reference's MatchOf. -/
namespace Go.Proofs.YthedfpcdibhfpaaDoor
open Go.RowKit

def starB (s : ByteArray) : Bool := s.toList == [42]
/-- What is refused ahead of a match; 0: nothing. -/
def matchPre (p i b : ByteArray) : Int := if kindErr p = 0 then (if kindErr i = 0 then (if b.size = 0 then 0 else kindErr b) else kindErr i) else kindErr p
/-- Both without the brackets that both have. -/
def peelF : Nat → ByteArray → ByteArray → ByteArray × ByteArray
  | 0, p, i => (p, i)
  | n + 1, p, i => match elemOf p, elemOf i with
    | some q, some j => peelF n q j
    | _, _ => (p, i)
def peel (p i : ByteArray) : ByteArray × ByteArray := peelF p.size p i
def matchEnd (p i b : ByteArray) : ByteArray × Int :=
  if starB p then (if b.toList.isEmpty || b.toList == i.toList then (i, 0) else (⟨#[]⟩, 8)) else if p.toList == i.toList then (b, 0) else (⟨#[]⟩, 8)
def matchR (p i b : ByteArray) : ByteArray × Int := if matchPre p i b = 0 then matchEnd (peel p i).1 (peel p i).2 b else (⟨#[]⟩, matchPre p i b)

theorem peelF_more : ∀ (n m : Nat) (p i : ByteArray), p.size ≤ n → p.size ≤ m → peelF n p i = peelF m p i
  | 0, 0, _, _, _, _ => rfl
  | 0, m + 1, p, i, h, _ => by
    have : elemOf p = none := by
      cases he : elemOf p with
      | none => rfl
      | some t => have := elemOf_size he; omega
    simp [peelF, this]
  | n + 1, 0, p, i, _, h => by
    have : elemOf p = none := by
      cases he : elemOf p with
      | none => rfl
      | some t => have := elemOf_size he; omega
    simp [peelF, this]
  | n + 1, m + 1, p, i, h1, h2 => by
    unfold peelF
    cases he : elemOf p with
    | none => rfl
    | some t =>
      cases hf : elemOf i with
      | none => rfl
      | some j =>
        have := elemOf_size he
        exact peelF_more n m t j (by omega) (by omega)
theorem peel_some {p i q j : ByteArray} (h : elemOf p = some q) (h' : elemOf i = some j) : peel p i = peel q j := by
  have hz := elemOf_size h
  unfold peel
  obtain ⟨k, hk⟩ : ∃ k, p.size = k + 1 := ⟨p.size - 1, by omega⟩
  rw [hk]
  show (match elemOf p, elemOf i with | some q, some j => peelF k q j | _, _ => (p, i)) = _
  rw [h, h']
  exact peelF_more _ _ _ _ (by omega) (by omega)
theorem peel_none {p i : ByteArray} (h : elemOf p = none ∨ elemOf i = none) : peel p i = (p, i) := by
  unfold peel
  cases hk : p.size with
  | zero => rfl
  | succ k =>
    unfold peelF
    rcases h with h | h
    · rw [h]
    · rw [h]; cases elemOf p <;> rfl

set_option maxRecDepth 100000 in
set_option maxHeartbeats 1000000 in
theorem match_pre (p i b : ByteArray) (w : World) (hp : p.size ≤ 140737488355328) (_hi : i.size ≤ 140737488355328) (_hb : b.size ≤ 140737488355328) (hz : kindErr p ≠ 0) :
    Calls Tryd.prog 170 #[.string p, .string i, .string b] w fun e w' => e = .returned (.tuple #[.string ⟨#[]⟩, .int .i64 (kindErr p)]) ∧ Below w.heap.size w w' := by
  have hk := fun W => kindCheck_any p W hp
  generalize kindErr p = z at hk hz ⊢
  have HK := Lib.hid hk; clear hk
  have h0n : (z != 0) = true := by simp [hz]
  go_enter Tryd.func170, Tryd.ntmps170
  go_wp2_with fail
  refine wp_loop_rounds 3 ?_
  rw [rounds_succ]
  go_wp2_with fail
  refine (HK.out _).mono ?_
  rintro e w' ⟨rfl, rfl⟩
  go_wp2_with fail
  go_ret2
  exact ⟨rfl, (Below.refl _ _).alloc (Nat.le_refl _) _⟩

set_option maxRecDepth 100000 in
set_option maxHeartbeats 1000000 in
theorem match_is (p i b : ByteArray) (w : World) (hp : p.size ≤ 140737488355328) (hi : i.size ≤ 140737488355328) (_hb : b.size ≤ 140737488355328) (h0 : kindErr p = 0) (hz : kindErr i ≠ 0) :
    Calls Tryd.prog 170 #[.string p, .string i, .string b] w fun e w' => e = .returned (.tuple #[.string ⟨#[]⟩, .int .i64 (kindErr i)]) ∧ Below w.heap.size w w' := by
  have hk0 := fun W => kindCheck_any p W hp
  rw [h0] at hk0
  have hk := fun W => kindCheck_any i W hi
  generalize kindErr i = z at hk hz ⊢
  have HK := Lib.hid hk; clear hk
  have HK0 := Lib.hid hk0; clear hk0 h0
  have h0n : (z != 0) = true := by simp [hz]
  go_enter Tryd.func170, Tryd.ntmps170
  go_wp2_with fail
  refine wp_loop_rounds 3 ?_
  rw [rounds_succ]
  go_wp2_with fail
  refine (HK0.out _).mono ?_
  rintro e w' ⟨rfl, rfl⟩
  go_wp2_with fail
  rw [rounds_succ]
  go_wp2_with fail
  refine (HK.out _).mono ?_
  rintro e w' ⟨rfl, rfl⟩
  go_wp2_with fail
  go_ret2
  exact ⟨rfl, (Below.refl _ _).alloc (Nat.le_refl _) _⟩

set_option maxRecDepth 100000 in
set_option maxHeartbeats 1000000 in
theorem match_bound (p i b : ByteArray) (w : World) (hp : p.size ≤ 140737488355328) (hi : i.size ≤ 140737488355328) (hb : b.size ≤ 140737488355328) (h0 : kindErr p = 0) (h1 : kindErr i = 0) (hbz : b.size ≠ 0) (hz : kindErr b ≠ 0) :
    Calls Tryd.prog 170 #[.string p, .string i, .string b] w fun e w' => e = .returned (.tuple #[.string ⟨#[]⟩, .int .i64 (kindErr b)]) ∧ Below w.heap.size w w' := by
  have hk0 := fun W => kindCheck_any p W hp
  rw [h0] at hk0
  have hk1 := fun W => kindCheck_any i W hi
  rw [h1] at hk1
  have hk := fun W => kindCheck_any b W hb
  generalize kindErr b = z at hk hz ⊢
  have HK := Lib.hid hk; clear hk
  have HK0 := Lib.hid hk0; clear hk0 h0
  have HK1 := Lib.hid hk1; clear hk1 h1
  have h0n : (z != 0) = true := by simp [hz]
  have hbe : b.toList.isEmpty = false := by rw [str_isEmpty]; simp [hbz]
  go_enter Tryd.func170, Tryd.ntmps170
  go_wp2_with fail
  refine wp_loop_rounds 3 ?_
  rw [rounds_succ]
  go_wp2_with fail
  refine (HK0.out _).mono ?_
  rintro e w' ⟨rfl, rfl⟩
  go_wp2_with fail
  rw [rounds_succ]
  go_wp2_with fail
  refine (HK1.out _).mono ?_
  rintro e w' ⟨rfl, rfl⟩
  go_wp2_with fail
  rw [rounds_succ]
  go_wp2_with fail
  refine (HK.out _).mono ?_
  rintro e w' ⟨rfl, rfl⟩
  go_wp2_with fail
  go_ret2
  exact ⟨rfl, (Below.refl _ _).alloc (Nat.le_refl _) _⟩

set_option maxRecDepth 100000 in
set_option maxHeartbeats 2000000 in
theorem match_ok (p i b : ByteArray) (w : World) (hp : p.size ≤ 140737488355328) (hi : i.size ≤ 140737488355328) (hb : b.size ≤ 140737488355328) (h0 : kindErr p = 0) (h1 : kindErr i = 0) (h2 : b.size = 0 ∨ b.size ≠ 0 ∧ kindErr b = 0) :
    Calls Tryd.prog 170 #[.string p, .string i, .string b] w fun e w' => e = .returned (.tuple #[.string (matchEnd (peel p i).1 (peel p i).2 b).1, .int .i64 (matchEnd (peel p i).1 (peel p i).2 b).2]) ∧ Below w.heap.size w w' := by
  have hk0 := fun W => kindCheck_any p W hp
  rw [h0] at hk0
  have hk1 := fun W => kindCheck_any i W hi
  rw [h1] at hk1
  have HK0 := Lib.hid hk0; clear hk0 h0
  have HK1 := Lib.hid hk1; clear hk1 h1
  rcases h2 with h2 | ⟨h3, h2⟩
  · have hbe : b.toList.isEmpty = true := by rw [str_isEmpty]; simp [h2]
    go_enter Tryd.func170, Tryd.ntmps170
    go_wp2_with fail
    refine wp_loop_rounds 3 ?_
    rw [rounds_succ]
    go_wp2_with fail
    refine (HK0.out _).mono ?_
    rintro e w' ⟨rfl, rfl⟩
    go_wp2_with fail
    rw [rounds_succ]
    go_wp2_with fail
    refine (HK1.out _).mono ?_
    rintro e w' ⟨rfl, rfl⟩
    go_wp2_with fail
    rw [rounds_succ]
    go_wp2_with fail
    go_loopg [0, 1] p.size (fun gg s0 s1 wr => ∃ q j : ByteArray, q.size ≤ gg ∧ q.size ≤ p.size ∧ j.size ≤ i.size ∧ s0 = .string q ∧ s1 = .string j ∧ wr = w.alloc (.cells #[.string p, .string i] 9) ∧ Aside (peel p i = peel q j))
    case atStart => exact ⟨p, i, Nat.le_refl _, Nat.le_refl _, Nat.le_refl _, rfl, rfl, rfl, (show Aside _ from rfl)⟩
    case round =>
      obtain ⟨q, j, hg, hq, hj, rfl, rfl, rfl, A1⟩ := hrel
      cases he : elemOf q with
      | some q' =>
        cases hf : elemOf j with
        | some j' =>
          have hz := elemOf_size he
          have HZ : q'.size < q.size := by omega
          have hz2 := elemOf_size hf
          have HZ2 : j'.size < j.size := by omega
          have HE := Lib.hid he; clear he hz
          have HF := Lib.hid hf; clear hf hz2
          go_wp2_with fail
          refine (elem_some HE.out _ (by omega)).mono ?_
          rintro e w' ⟨rfl, rfl⟩
          go_wp2_with fail
          refine (elem_some HF.out _ (by omega)).mono ?_
          rintro e w' ⟨rfl, rfl⟩
          go_wp2_with fail
          go_roundg (q'.size)
          case measure => omega
          case rel => exact ⟨q', j', Nat.le_refl _, by omega, by omega, rfl, rfl, rfl, (show Aside _ from A1.out.trans (peel_some HE.out HF.out))⟩
        | none =>
          have HP := Lib.hid (A1.out.trans (peel_none (p := q) (i := j) (Or.inr hf)))
          have HE := Lib.hid he; clear he
          have HF := Lib.hid hf; clear hf
          go_wp2_with fail
          refine (elem_some HE.out _ (by omega)).mono ?_
          rintro e w' ⟨rfl, rfl⟩
          go_wp2_with fail
          refine (elem_none HF.out _ (by omega)).mono ?_
          rintro e w' ⟨rfl, rfl⟩
          go_wp2_with fail
          all_goals (go_ret2; go_tidy; refine ⟨?_, (Below.refl _ _).alloc (Nat.le_refl _) _⟩; rw [HP.out]; simp_all [matchEnd, starB])
      | none =>
        have HP := Lib.hid (A1.out.trans (peel_none (p := q) (i := j) (Or.inl he)))
        have HE := Lib.hid he; clear he
        have hk2 := fun W => elem_any j W (by omega)
        generalize (elemOf j).getD ⟨#[]⟩ = j1 at hk2
        generalize (elemOf j).isSome = j2 at hk2
        have HK2 := Lib.hid hk2; clear hk2
        go_wp2_with fail
        refine (elem_none HE.out _ (by omega)).mono ?_
        rintro e w' ⟨rfl, rfl⟩
        go_wp2_with fail
        refine (HK2.out _).mono ?_
        rintro e w' ⟨rfl, rfl⟩
        go_wp2_with fail
        all_goals (go_ret2; go_tidy; refine ⟨?_, (Below.refl _ _).alloc (Nat.le_refl _) _⟩; rw [HP.out]; simp_all [matchEnd, starB])
  · have hbe : b.toList.isEmpty = false := by rw [str_isEmpty]; simp [h3]
    have hk3 := fun W => kindCheck_any b W hb
    rw [h2] at hk3
    have HK3 := Lib.hid hk3; clear hk3 h2
    go_enter Tryd.func170, Tryd.ntmps170
    go_wp2_with fail
    refine wp_loop_rounds 3 ?_
    rw [rounds_succ]
    go_wp2_with fail
    refine (HK0.out _).mono ?_
    rintro e w' ⟨rfl, rfl⟩
    go_wp2_with fail
    rw [rounds_succ]
    go_wp2_with fail
    refine (HK1.out _).mono ?_
    rintro e w' ⟨rfl, rfl⟩
    go_wp2_with fail
    rw [rounds_succ]
    go_wp2_with fail
    refine (HK3.out _).mono ?_
    rintro e w' ⟨rfl, rfl⟩
    go_wp2_with fail
    go_loopg [0, 1] p.size (fun gg s0 s1 wr => ∃ q j : ByteArray, q.size ≤ gg ∧ q.size ≤ p.size ∧ j.size ≤ i.size ∧ s0 = .string q ∧ s1 = .string j ∧ wr = w.alloc (.cells #[.string p, .string i] 9) ∧ Aside (peel p i = peel q j))
    case atStart => exact ⟨p, i, Nat.le_refl _, Nat.le_refl _, Nat.le_refl _, rfl, rfl, rfl, (show Aside _ from rfl)⟩
    case round =>
      obtain ⟨q, j, hg, hq, hj, rfl, rfl, rfl, A1⟩ := hrel
      cases he : elemOf q with
      | some q' =>
        cases hf : elemOf j with
        | some j' =>
          have hz := elemOf_size he
          have HZ : q'.size < q.size := by omega
          have hz2 := elemOf_size hf
          have HZ2 : j'.size < j.size := by omega
          have HE := Lib.hid he; clear he hz
          have HF := Lib.hid hf; clear hf hz2
          go_wp2_with fail
          refine (elem_some HE.out _ (by omega)).mono ?_
          rintro e w' ⟨rfl, rfl⟩
          go_wp2_with fail
          refine (elem_some HF.out _ (by omega)).mono ?_
          rintro e w' ⟨rfl, rfl⟩
          go_wp2_with fail
          go_roundg (q'.size)
          case measure => omega
          case rel => exact ⟨q', j', Nat.le_refl _, by omega, by omega, rfl, rfl, rfl, (show Aside _ from A1.out.trans (peel_some HE.out HF.out))⟩
        | none =>
          have HP := Lib.hid (A1.out.trans (peel_none (p := q) (i := j) (Or.inr hf)))
          have HE := Lib.hid he; clear he
          have HF := Lib.hid hf; clear hf
          go_wp2_with fail
          refine (elem_some HE.out _ (by omega)).mono ?_
          rintro e w' ⟨rfl, rfl⟩
          go_wp2_with fail
          refine (elem_none HF.out _ (by omega)).mono ?_
          rintro e w' ⟨rfl, rfl⟩
          go_wp2_with fail
          all_goals (go_ret2; go_tidy; refine ⟨?_, (Below.refl _ _).alloc (Nat.le_refl _) _⟩; rw [HP.out]; simp_all [matchEnd, starB])
      | none =>
        have HP := Lib.hid (A1.out.trans (peel_none (p := q) (i := j) (Or.inl he)))
        have HE := Lib.hid he; clear he
        have hk2 := fun W => elem_any j W (by omega)
        generalize (elemOf j).getD ⟨#[]⟩ = j1 at hk2
        generalize (elemOf j).isSome = j2 at hk2
        have HK2 := Lib.hid hk2; clear hk2
        go_wp2_with fail
        refine (elem_none HE.out _ (by omega)).mono ?_
        rintro e w' ⟨rfl, rfl⟩
        go_wp2_with fail
        refine (HK2.out _).mono ?_
        rintro e w' ⟨rfl, rfl⟩
        go_wp2_with fail
        all_goals (go_ret2; go_tidy; refine ⟨?_, (Below.refl _ _).alloc (Nat.le_refl _) _⟩; rw [HP.out]; simp_all [matchEnd, starB])

theorem match_any (p i b : ByteArray) (w : World) (hp : p.size ≤ 140737488355328) (hi : i.size ≤ 140737488355328) (hb : b.size ≤ 140737488355328) :
    Calls Tryd.prog 170 #[.string p, .string i, .string b] w fun e w' => e = .returned (.tuple #[.string (matchR p i b).1, .int .i64 (matchR p i b).2]) ∧ Below w.heap.size w w' := by
  by_cases h0 : kindErr p = 0
  · by_cases h1 : kindErr i = 0
    · by_cases h2 : b.size = 0
      · have := match_ok p i b w hp hi hb h0 h1 (Or.inl h2)
        simpa [matchR, matchPre, h0, h1, h2] using this
      · by_cases h3 : kindErr b = 0
        · have := match_ok p i b w hp hi hb h0 h1 (Or.inr ⟨h2, h3⟩)
          simpa [matchR, matchPre, h0, h1, h2, h3] using this
        · have := match_bound p i b w hp hi hb h0 h1 h2 h3
          simpa [matchR, matchPre, h0, h1, h2, h3] using this
    · have := match_is p i b w hp hi hb h0 h1
      simpa [matchR, matchPre, h0, h1] using this
  · have := match_pre p i b w hp hi hb h0
    simpa [matchR, matchPre, h0] using this


theorem kindErr_elem {p q : ByteArray} (h : elemOf p = some q) (h0 : kindErr p = 0) : kindErr q = 0 := by
  have hz := elemOf_size h
  unfold kindErr at h0 ⊢
  rw [strip_some h] at h0
  by_cases h6 : 600 < p.size
  · rw [if_pos h6] at h0; cases h0
  · rw [if_neg h6] at h0
    rw [if_neg (by omega)]
    exact h0

set_option maxRecDepth 100000 in
set_option maxHeartbeats 2000000 in
theorem matchOf_n : ∀ (n : Nat) (p i b : ByteArray) (w : World), p.size ≤ n → p.size ≤ 140737488355328 → i.size ≤ 140737488355328 → b.size ≤ 140737488355328 →
    Calls Tryd.prog 137 #[.string p, .string i, .string b] w fun e w' => e = .returned (.tuple #[.string (matchR p i b).1, .int .i64 (matchR p i b).2]) ∧ w = w' := by
  intro n
  induction n using Nat.strongRecOn with
  | _ n ih =>
  intro p i b w hn hp hi hb
  by_cases h0 : kindErr p = 0
  · have hk0 := fun W => kindFault_any p W hp
    rw [h0] at hk0
    by_cases h1 : kindErr i = 0
    · have hk1 := fun W => kindFault_any i W hi
      rw [h1] at hk1
      by_cases h2 : b.size = 0 ∨ b.size ≠ 0 ∧ kindErr b = 0
      · have hR : matchR p i b = matchEnd (peel p i).1 (peel p i).2 b := by
          have : matchPre p i b = 0 := by
            rcases h2 with h2 | ⟨h2, h3⟩ <;> simp [matchPre, h0, h1, h2]
            exact h3
          simp [matchR, this]
        cases he : elemOf p with
        | some q =>
          cases hf : elemOf i with
          | some j =>
            have hz := elemOf_size he
            have hz2 := elemOf_size hf
            have hR2 : matchR p i b = matchR q j b := by
              have h0' := kindErr_elem he h0
              have h1' := kindErr_elem hf h1
              have : matchPre q j b = 0 := by
                rcases h2 with h2 | ⟨h2, h3⟩ <;> simp [matchPre, h0', h1', h2]
                exact h3
              rw [hR, peel_some he hf]
              simp [matchR, this]
            have hrec := ih q.size (by omega) q j b
            rw [hR2]
            generalize matchR q j b = z at hrec
            have HR := Lib.hid hrec
            have HE := Lib.hid he
            have HF := Lib.hid hf
            have HK0 := Lib.hid hk0
            have HK1 := Lib.hid hk1
            have HZ : q.size < p.size := by omega
            have HZ2 : j.size < i.size := by omega
            clear hrec hR hR2 ih he hf hk0 hk1 hz hz2 h0 h1
            rcases h2 with h2 | ⟨h3, h2⟩
            · have hbe : b.toList.isEmpty = true := by rw [str_isEmpty]; simp [h2]
              clear h2
              go_enter Tryd.func137, Tryd.ntmps137
              go_wp2_with fail
              refine (HK0.out _).mono ?_
              rintro e w' ⟨rfl, rfl⟩
              go_wp2_with fail
              refine (HK1.out _).mono ?_
              rintro e w' ⟨rfl, rfl⟩
              go_wp2_with fail
              refine (elemOf_some HE.out _ (by omega)).mono ?_
              rintro e w' ⟨rfl, rfl⟩
              go_wp2_with fail
              refine (elemOf_some HF.out _ (by omega)).mono ?_
              rintro e w' ⟨rfl, rfl⟩
              go_wp2_with fail
              refine (HR.out _ (Nat.le_refl _) (by omega) (by omega) hb).mono ?_
              rintro e w' ⟨rfl, rfl⟩
              go_wp2_with fail
              go_ret2
              exact ⟨rfl, rfl⟩
            · have hbe : b.toList.isEmpty = false := by rw [str_isEmpty]; simp [h3]
              have hk3 := fun W => kindFault_any b W hb
              rw [h2] at hk3
              have HK3 := Lib.hid hk3; clear hk3 h2 h3
              go_enter Tryd.func137, Tryd.ntmps137
              go_wp2_with fail
              refine (HK0.out _).mono ?_
              rintro e w' ⟨rfl, rfl⟩
              go_wp2_with fail
              refine (HK1.out _).mono ?_
              rintro e w' ⟨rfl, rfl⟩
              go_wp2_with fail
              refine (HK3.out _).mono ?_
              rintro e w' ⟨rfl, rfl⟩
              go_wp2_with fail
              refine (elemOf_some HE.out _ (by omega)).mono ?_
              rintro e w' ⟨rfl, rfl⟩
              go_wp2_with fail
              refine (elemOf_some HF.out _ (by omega)).mono ?_
              rintro e w' ⟨rfl, rfl⟩
              go_wp2_with fail
              refine (HR.out _ (Nat.le_refl _) (by omega) (by omega) hb).mono ?_
              rintro e w' ⟨rfl, rfl⟩
              go_wp2_with fail
              go_ret2
              exact ⟨rfl, rfl⟩
          | none =>
            have HP := Lib.hid (peel_none (p := p) (i := i) (Or.inr hf))
            have HF := Lib.hid hf
            clear hf
            have HR := Lib.hid hR
            have HE := Lib.hid he
            have HK0 := Lib.hid hk0
            have HK1 := Lib.hid hk1
            clear hR he hk0 hk1 ih h0 h1
            rcases h2 with h2 | ⟨h3, h2⟩
            · have hbe : b.toList.isEmpty = true := by rw [str_isEmpty]; simp [h2]
              clear h2
              go_enter Tryd.func137, Tryd.ntmps137
              go_wp2_with fail
              refine (HK0.out _).mono ?_
              rintro e w' ⟨rfl, rfl⟩
              go_wp2_with fail
              refine (HK1.out _).mono ?_
              rintro e w' ⟨rfl, rfl⟩
              go_wp2_with fail
              refine (elemOf_some HE.out _ (by omega)).mono ?_
              rintro e w' ⟨rfl, rfl⟩
              go_wp2_with fail
              refine (elemOf_none HF.out _ (by omega)).mono ?_
              rintro e w' ⟨rfl, rfl⟩
              go_wp2_with fail
              all_goals (go_ret2; go_tidy; refine ⟨?_, rfl⟩; rw [HR.out, HP.out]; simp_all [matchEnd, starB])
            · have hbe : b.toList.isEmpty = false := by rw [str_isEmpty]; simp [h3]
              have hk3 := fun W => kindFault_any b W hb
              rw [h2] at hk3
              have HK3 := Lib.hid hk3
              clear hk3 h2 h3
              go_enter Tryd.func137, Tryd.ntmps137
              go_wp2_with fail
              refine (HK0.out _).mono ?_
              rintro e w' ⟨rfl, rfl⟩
              go_wp2_with fail
              refine (HK1.out _).mono ?_
              rintro e w' ⟨rfl, rfl⟩
              go_wp2_with fail
              refine (HK3.out _).mono ?_
              rintro e w' ⟨rfl, rfl⟩
              go_wp2_with fail
              refine (elemOf_some HE.out _ (by omega)).mono ?_
              rintro e w' ⟨rfl, rfl⟩
              go_wp2_with fail
              refine (elemOf_none HF.out _ (by omega)).mono ?_
              rintro e w' ⟨rfl, rfl⟩
              go_wp2_with fail
              all_goals (go_ret2; go_tidy; refine ⟨?_, rfl⟩; rw [HR.out, HP.out]; simp_all [matchEnd, starB])
        | none =>
          have HP := Lib.hid (peel_none (p := p) (i := i) (Or.inl he))
          have hk2 := fun W => elemOf_any i W hi
          generalize (elemOf i).getD ⟨#[]⟩ = j1 at hk2
          generalize (elemOf i).isSome = j2 at hk2
          have HK2 := Lib.hid hk2
          clear hk2
          have HR := Lib.hid hR
          have HE := Lib.hid he
          have HK0 := Lib.hid hk0
          have HK1 := Lib.hid hk1
          clear hR he hk0 hk1 ih h0 h1
          rcases h2 with h2 | ⟨h3, h2⟩
          · have hbe : b.toList.isEmpty = true := by rw [str_isEmpty]; simp [h2]
            clear h2
            go_enter Tryd.func137, Tryd.ntmps137
            go_wp2_with fail
            refine (HK0.out _).mono ?_
            rintro e w' ⟨rfl, rfl⟩
            go_wp2_with fail
            refine (HK1.out _).mono ?_
            rintro e w' ⟨rfl, rfl⟩
            go_wp2_with fail
            refine (elemOf_none HE.out _ (by omega)).mono ?_
            rintro e w' ⟨rfl, rfl⟩
            go_wp2_with fail
            refine (HK2.out _).mono ?_
            rintro e w' ⟨rfl, rfl⟩
            go_wp2_with fail
            all_goals (go_ret2; go_tidy; refine ⟨?_, rfl⟩; rw [HR.out, HP.out]; simp_all [matchEnd, starB])
          · have hbe : b.toList.isEmpty = false := by rw [str_isEmpty]; simp [h3]
            have hk3 := fun W => kindFault_any b W hb
            rw [h2] at hk3
            have HK3 := Lib.hid hk3
            clear hk3 h2 h3
            go_enter Tryd.func137, Tryd.ntmps137
            go_wp2_with fail
            refine (HK0.out _).mono ?_
            rintro e w' ⟨rfl, rfl⟩
            go_wp2_with fail
            refine (HK1.out _).mono ?_
            rintro e w' ⟨rfl, rfl⟩
            go_wp2_with fail
            refine (HK3.out _).mono ?_
            rintro e w' ⟨rfl, rfl⟩
            go_wp2_with fail
            refine (elemOf_none HE.out _ (by omega)).mono ?_
            rintro e w' ⟨rfl, rfl⟩
            go_wp2_with fail
            refine (HK2.out _).mono ?_
            rintro e w' ⟨rfl, rfl⟩
            go_wp2_with fail
            all_goals (go_ret2; go_tidy; refine ⟨?_, rfl⟩; rw [HR.out, HP.out]; simp_all [matchEnd, starB])
      · have h3 : b.size ≠ 0 := fun e => h2 (Or.inl e)
        have h4 : kindErr b ≠ 0 := fun e => h2 (Or.inr ⟨h3, e⟩)
        have hR : matchR p i b = (⟨#[]⟩, kindErr b) := by simp [matchR, matchPre, h0, h1, h3, h4]
        rw [hR]
        have hk3 := fun W => kindFault_any b W hb
        generalize kindErr b = z at hk3 h4 ⊢
        have HK0 := Lib.hid hk0
        have HK1 := Lib.hid hk1
        have HK3 := Lib.hid hk3
        have h4n : (z != 0) = true := by simp [h4]
        have h4b : (z == 0) = false := by simp [h4]
        have hbe : b.toList.isEmpty = false := by rw [str_isEmpty]; simp [h3]
        clear hR hk0 hk1 hk3 ih h0 h1 h2 h3 h4
        go_enter Tryd.func137, Tryd.ntmps137
        go_wp2_with fail
        refine (HK0.out _).mono ?_
        rintro e w' ⟨rfl, rfl⟩
        go_wp2_with fail
        refine (HK1.out _).mono ?_
        rintro e w' ⟨rfl, rfl⟩
        go_wp2_with fail
        refine (HK3.out _).mono ?_
        rintro e w' ⟨rfl, rfl⟩
        go_wp2_with fail
        go_ret2
        exact ⟨rfl, rfl⟩
    · have hR : matchR p i b = (⟨#[]⟩, kindErr i) := by simp [matchR, matchPre, h0, h1]
      rw [hR]
      have hk1 := fun W => kindFault_any i W hi
      generalize kindErr i = z at hk1 h1 ⊢
      have HK0 := Lib.hid hk0
      have HK1 := Lib.hid hk1
      have h1n : (z != 0) = true := by simp [h1]
      have h1b : (z == 0) = false := by simp [h1]
      clear hR hk0 hk1 ih h0 h1
      go_enter Tryd.func137, Tryd.ntmps137
      go_wp2_with fail
      refine (HK0.out _).mono ?_
      rintro e w' ⟨rfl, rfl⟩
      go_wp2_with fail
      refine (HK1.out _).mono ?_
      rintro e w' ⟨rfl, rfl⟩
      go_wp2_with fail
      go_ret2
      exact ⟨rfl, rfl⟩
  · have hR : matchR p i b = (⟨#[]⟩, kindErr p) := by simp [matchR, matchPre, h0]
    rw [hR]
    have hk0 := fun W => kindFault_any p W hp
    generalize kindErr p = z at hk0 h0 ⊢
    have HK0 := Lib.hid hk0
    have h0n : (z != 0) = true := by simp [h0]
    have h0b : (z == 0) = false := by simp [h0]
    clear hR hk0 ih h0
    go_enter Tryd.func137, Tryd.ntmps137
    go_wp2_with fail
    refine (HK0.out _).mono ?_
    rintro e w' ⟨rfl, rfl⟩
    go_wp2_with fail
    go_ret2
    exact ⟨rfl, rfl⟩

end Go.Proofs.YthedfpcdibhfpaaDoor

/- Types one by one with what is there: unify.All, and the reference's AllOf. -/
namespace Go.Proofs.YthedfpcdibhfpaaDoor
open Go.RowKit Go.Shelf

/-- What the variable stands for behind all of a list. -/
def bindN : List (ByteArray × ByteArray) → ByteArray → ByteArray × Int
  | [], b => (b, 0)
  | x :: l, b => if (matchR x.1 x.2 b).2 = 0 then bindN l (matchR x.1 x.2 b).1 else (⟨#[]⟩, (matchR x.1 x.2 b).2)
def bound0 (ps as_ : List ByteArray) : ByteArray × Int := bindN (ps.zip as_) ⟨#[]⟩
def allR (ps as_ : List ByteArray) (r : ByteArray) : ByteArray × Int :=
  if 8 < ps.length ∨ 8 < as_.length then (⟨#[]⟩, 1) else if ps.length ≠ as_.length then (⟨#[]⟩, 6)
  else if (bound0 ps as_).2 ≠ 0 then (⟨#[]⟩, (bound0 ps as_).2) else if kindErr r ≠ 0 then (⟨#[]⟩, kindErr r)
  else if openB r = true ∧ (bound0 ps as_).1.size = 0 then (⟨#[]⟩, 8) else putR r (bound0 ps as_).1

section
variable {ps as_ : List ByteArray} {r B p a : ByteArray} {z : Int} {k : Nat}
theorem all_many (h : 8 < ps.length ∨ 8 < as_.length) : allR ps as_ r = (⟨#[]⟩, 1) := by unfold allR; rw [if_pos h]
theorem all_other (h : ¬ (8 < ps.length ∨ 8 < as_.length)) (h2 : ps.length ≠ as_.length) : allR ps as_ r = (⟨#[]⟩, 6) := by unfold allR; rw [if_neg h, if_pos h2]
theorem all_match (h : ¬ (8 < ps.length ∨ 8 < as_.length)) (h2 : ps.length = as_.length) (h3 : bound0 ps as_ = (⟨#[]⟩, z)) (hz : z ≠ 0) : allR ps as_ r = (⟨#[]⟩, z) := by
  unfold allR; rw [if_neg h, if_neg (by simp [h2]), h3, if_pos hz]
theorem all_kind (h : ¬ (8 < ps.length ∨ 8 < as_.length)) (h2 : ps.length = as_.length) (h3 : bound0 ps as_ = (B, 0)) (hz : kindErr r ≠ 0) : allR ps as_ r = (⟨#[]⟩, kindErr r) := by
  unfold allR; rw [if_neg h, if_neg (by simp [h2]), h3, if_neg (by simp), if_pos hz]
theorem all_open (h : ¬ (8 < ps.length ∨ 8 < as_.length)) (h2 : ps.length = as_.length) (h3 : bound0 ps as_ = (B, 0)) (hz : kindErr r = 0) (ho : openB r = true) (hb : B.size = 0) : allR ps as_ r = (⟨#[]⟩, 8) := by
  unfold allR; rw [if_neg h, if_neg (by simp [h2]), h3, if_neg (by simp), if_neg (by simp [hz]), if_pos ⟨ho, hb⟩]
theorem all_put (h : ¬ (8 < ps.length ∨ 8 < as_.length)) (h2 : ps.length = as_.length) (h3 : bound0 ps as_ = (B, 0)) (hz : kindErr r = 0) (ho : ¬ (openB r = true ∧ B.size = 0)) : allR ps as_ r = putR r B := by
  unfold allR; rw [if_neg h, if_neg (by simp [h2]), h3, if_neg (by simp), if_neg (by simp [hz]), if_neg ho]
theorem zip_at (hp : ps[k]? = some p) (ha : as_[k]? = some a) : (ps.zip as_).drop k = (p, a) :: (ps.zip as_).drop (k + 1) := by
  have h : (ps.zip as_)[k]? = some (p, a) := by rw [List.getElem?_zip_eq_some]; exact ⟨hp, ha⟩
  obtain ⟨hk, he⟩ := List.getElem?_eq_some_iff.1 h
  rw [List.drop_eq_getElem_cons hk, he]
theorem bind_step {S : ByteArray} (hp : ps[k]? = some p) (ha : as_[k]? = some a) (hm : matchR p a B = (S, 0)) : bindN ((ps.zip as_).drop k) B = bindN ((ps.zip as_).drop (k + 1)) S := by
  rw [zip_at hp ha]
  conv => lhs; unfold bindN
  rw [hm, if_pos rfl]
theorem bind_err {S : ByteArray} (hp : ps[k]? = some p) (ha : as_[k]? = some a) (hm : matchR p a B = (S, z)) (hz : z ≠ 0) : bindN ((ps.zip as_).drop k) B = (⟨#[]⟩, z) := by
  rw [zip_at hp ha]; unfold bindN; rw [hm, if_neg hz]
theorem bind_end (h : ps.length = as_.length) : bindN ((ps.zip as_).drop ps.length) B = (B, 0) := by
  rw [List.drop_of_length_le (by rw [List.length_zip]; omega)]; rfl
theorem peelF_size : ∀ (n : Nat) (p i : ByteArray), (peelF n p i).2.size ≤ i.size
  | 0, _, _ => Nat.le_refl _
  | n + 1, p, i => by
    unfold peelF
    split
    · next q j hq hj =>
      have := elemOf_size hj
      have := peelF_size n q j
      omega
    · exact Nat.le_refl _
theorem matchR_size {i b : ByteArray} {n : Nat} (hi : i.size ≤ n) (hb : b.size ≤ n) : (matchR p i b).1.size ≤ n := by
  have h0 : (⟨#[]⟩ : ByteArray).size ≤ n := Nat.zero_le _
  unfold matchR
  split
  · unfold matchEnd
    split
    · split
      · exact Nat.le_trans (peelF_size _ _ _) hi
      · exact h0
    · split
      · exact hb
      · exact h0
  · exact h0
theorem empty_iff (s : ByteArray) : s.toList.isEmpty = decide (s.size = 0) := by
  rw [ByteArray.toList_eq, Bool.eq_iff_iff]
  simp only [List.isEmpty_iff, decide_eq_true_eq]
  constructor
  · intro h; show s.data.size = 0; rw [← Array.length_toList, h]; rfl
  · intro h; exact List.length_eq_zero_iff.1 (by rw [Array.length_toList]; exact h)
end

set_option maxRecDepth 100000 in
set_option maxHeartbeats 4000000 in
theorem all_any (ps as_ : List ByteArray) (r : ByteArray) (v1 v2 : Value) (F G : Foot) (m : Int) (w : World) (hF : ∀ k, F k → k < w.heap.size) (hG : ∀ k, G k → k < w.heap.size) (h1 : SliceOf StrR 1 16 w F v1 ps) (h2 : SliceOf StrR 1 16 w G v2 as_)
    (hr : r.size ≤ 140737488355328) (hm : w.cell? ⟨1, 0, none⟩ = some (.int .i64 m)) :
    Calls Tryd.prog 132 #[v1, v2, .string r] w fun e w' => e = .returned (.tuple #[.string (allR ps as_ r).1, .int .i64 (allR ps as_ r).2]) ∧ Below w.heap.size w w' := by
  obtain ⟨A1, c1, rfl, _, _, hl1, _⟩ := h1.form
  obtain ⟨A2, c2, rfl, _, _, hl2, _⟩ := h2.form
  have hk := fun U => kindCheck_any r U hr
  have hop := fun U => kindOpen_any r U
  have hput := fun (B : ByteArray) (hB : B.size ≤ 140737488355328) U (hU : Below w.heap.size w U) => put_any r B m U hr hB ((hU.cell (World.block_lt_of_cell? w _ hm)).trans hm)
  have hm1 := fun h => all_many (ps := ps) (as_ := as_) (r := r) h
  have hm2 := fun h h2 => all_other (ps := ps) (as_ := as_) (r := r) h h2
  have hm3 := fun (z : Int) h h2 h3 hz => all_match (ps := ps) (as_ := as_) (r := r) (z := z) h h2 h3 hz
  have hm4 := fun (B : ByteArray) h h2 h3 hz => all_kind (ps := ps) (as_ := as_) (r := r) (B := B) h h2 h3 hz
  have hm5 := fun (B : ByteArray) h h2 h3 hz ho hb => all_open (ps := ps) (as_ := as_) (r := r) (B := B) h h2 h3 hz ho hb
  have hm6 := fun (B : ByteArray) h h2 h3 hz ho => all_put (ps := ps) (as_ := as_) (r := r) (B := B) h h2 h3 hz ho
  generalize allR ps as_ r = E at hm1 hm2 hm3 hm4 hm5 hm6 ⊢
  generalize kindErr r = z1 at hk hm4 hm5 hm6
  generalize openB r = zo at hop hm5 hm6
  have HK := Lib.hid hk; have HOP := Lib.hid hop; have HPUT := Lib.hid hput; have HM1 := Lib.hid hm1; have HM2 := Lib.hid hm2; have HM3 := Lib.hid hm3; have HM4 := Lib.hid hm4; have HM5 := Lib.hid hm5; have HM6 := Lib.hid hm6; have H1 := Lib.hid h1; have H2 := Lib.hid h2
  clear hk hop hput hm1 hm2 hm3 hm4 hm5 hm6 h1 h2
  go_enter Tryd.func132, Tryd.ntmps132
  by_cases h8 : 8 < ps.length
  · have h8z : (8 : Int) < (ps.length : Int) := by omega
    have he := HM1.out (.inl h8)
    subst he
    go_wp2_with fail
    go_ret2
    exact ⟨rfl, Below.refl _ _⟩
  by_cases h9 : 8 < as_.length
  · have h8z : ¬ (8 : Int) < (ps.length : Int) := by omega
    have h9z : (8 : Int) < (as_.length : Int) := by omega
    have he := HM1.out (.inr h9)
    subst he
    go_wp2_with fail
    go_ret2
    exact ⟨rfl, Below.refl _ _⟩
  have h8z : ¬ (8 : Int) < (ps.length : Int) := by omega
  have h9z : ¬ (8 : Int) < (as_.length : Int) := by omega
  have hn89 : ¬ (8 < ps.length ∨ 8 < as_.length) := by omega
  by_cases hne : ps.length ≠ as_.length
  · have hnez : ¬ (ps.length : Int) = (as_.length : Int) := by omega
    have hneb : ((ps.length : Int) == (as_.length : Int)) = false := by simp [hnez]
    have he := HM2.out hn89 hne
    subst he
    go_wp2_with fail
    go_ret2
    exact ⟨rfl, Below.refl _ _⟩
  have heq : ps.length = as_.length := by omega
  have heqb : ((ps.length : Int) == (as_.length : Int)) = true := by simp [heq]
  have HEQ := Lib.hid heq
  have HN89 := Lib.hid hn89
  clear hne hn89 heq
  go_wp2_with fail
  go_loopg [8, 9, 10, 11, 28] ps.length (fun gg s8 s9 s10 s11 s28 wr => ∃ (kk : Nat) (B : ByteArray), kk ≤ ps.length ∧ ps.length - kk ≤ gg ∧ s28 = .int .i64 kk ∧ s8 = .string B ∧ Aside (B.size ≤ 140737488355328) ∧ Aside (bindN ((ps.zip as_).drop kk) B = bound0 ps as_) ∧ Aside (Below w.heap.size w wr))
  case atStart => exact ⟨0, ⟨#[]⟩, Nat.zero_le _, by omega, rfl, rfl, aside (Nat.zero_le _), aside rfl, aside (Below.refl _ _)⟩
  case round =>
    obtain ⟨kk, B, hkk, hg, rfl, rfl, hB, hbn, BW⟩ := hrel
    by_cases hlt : kk < ps.length
    · have hltz : (kk : Int) < (ps.length : Int) := by omega
      have hlt2 : kk < as_.length := by have := HEQ.out; omega
      have hltz2 : (kk : Int) < (as_.length : Int) := by omega
      obtain ⟨b1, off1, cs1, hA1, hb1F, hcs1, ⟨rfl, hps⟩, hcell1⟩ := (H1.out.up StrR.stays hF BW.out).at_ hlt
      obtain ⟨b2, off2, cs2, hA2, hb2F, hcs2, ⟨rfl, has⟩, hcell2⟩ := (H2.out.up StrR.stays hG BW.out).at_ hlt2
      have hx1 := List.getElem?_eq_getElem hlt
      have hx2 := List.getElem?_eq_getElem hlt2
      generalize ps[kk] = p at hx1 hps hcell1
      generalize as_[kk] = a at hx2 has hcell2
      have hc1 := hcell1 0 _ rfl
      have hc2 := hcell2 0 _ rfl
      simp only [Nat.mul_one, Nat.add_zero] at hc1 hc2
      subst hA1; subst hA2
      have hmt := fun U => match_any p a B U hps has hB.out
      have hsz := matchR_size (p := p) has hB.out
      have hst := fun S h => bind_step (ps := ps) (as_ := as_) (B := B) (S := S) hx1 hx2 h
      have her := fun S z h hz => bind_err (ps := ps) (as_ := as_) (B := B) (S := S) (z := z) hx1 hx2 h hz
      generalize matchR p a B = q at hmt hsz hst her
      obtain ⟨S, C⟩ := q
      dsimp only at hmt hsz
      have hst := fun (h : C = 0) => hst S (by rw [h])
      have her := fun (h : C ≠ 0) => her S C rfl h
      have HMT := Lib.hid hmt; have HSZ := Lib.hid hsz; have HST := Lib.hid hst; have HER := Lib.hid her
      clear hmt hsz hst her
      clear hcell1 hcell2 hcs1 hcs2 hx1 hx2
      go_wp2_with fail
      refine (HMT.out _).mono ?_
      rintro e w1 ⟨rfl, hb1⟩
      have hbw := BW.out.trans (hb1.mono BW.out.size)
      by_cases hC : C = 0
      · subst hC
        have hs := HST.out rfl
        have HS := Lib.hid hs; have HBW := Lib.hid hbw
        clear hs hbw
        go_wp2_with fail
        go_roundg (ps.length - (kk + 1))
        case measure => omega
        case rel => exact ⟨kk + 1, S, by omega, by omega, by go_num, rfl, aside HSZ.out, aside (HS.out.symm.trans hbn.out), aside HBW.out⟩
      · have hCb : (C == 0) = false := by simp [hC]
        have he := HM3.out C HN89.out HEQ.out (hbn.out.symm.trans (HER.out hC)) hC
        subst he
        have HBW := Lib.hid hbw
        clear hbw
        go_wp2_with fail
        go_ret2
        exact ⟨rfl, HBW.out⟩
    · have hltz : ¬ (kk : Int) < (ps.length : Int) := by omega
      obtain rfl : kk = ps.length := by omega
      have hb0 : bound0 ps as_ = (B, 0) := hbn.out.symm.trans (bind_end HEQ.out)
      have hbe := empty_iff B
      have hpt := HPUT.out B hB.out
      have HB0 := Lib.hid hb0; have HPT := Lib.hid hpt
      clear hb0 hpt
      go_wp2_with fail
      refine (HK.out _).mono ?_
      rintro e w' ⟨rfl, rfl⟩
      by_cases hz1 : z1 = 0
      · subst hz1
        go_wp2_with fail
        refine (HOP.out _).mono ?_
        rintro e w' ⟨rfl, rfl⟩
        by_cases hob : zo = true ∧ B.size = 0
        · obtain ⟨rfl, hob⟩ := hob
          have hbe2 : B.toList.isEmpty = true := by rw [hbe]; simp [hob]
          clear hbe
          have he := HM5.out B HN89.out HEQ.out HB0.out (by first | rfl | trivial) (by first | rfl | trivial) hob
          subst he
          go_wp2_with fail
          go_ret2
          exact ⟨rfl, BW.out⟩
        · have he := HM6.out B HN89.out HEQ.out HB0.out (by first | rfl | trivial) hob
          subst he
          cases zo with
          | false =>
            go_wp2_with fail
            refine (HPT.out _ BW.out).mono ?_
            rintro e w2 ⟨rfl, hb2⟩
            have hbw := BW.out.trans (hb2.mono BW.out.size)
            have HBW := Lib.hid hbw
            clear hbw
            go_wp2_with fail
            go_ret2
            exact ⟨rfl, HBW.out⟩
          | true =>
            have hbe2 : B.toList.isEmpty = false := by rw [hbe]; simp at hob; simp [hob]
            clear hbe hob
            go_wp2_with fail
            refine (HPT.out _ BW.out).mono ?_
            rintro e w2 ⟨rfl, hb2⟩
            have hbw := BW.out.trans (hb2.mono BW.out.size)
            have HBW := Lib.hid hbw
            clear hbw
            go_wp2_with fail
            go_ret2
            exact ⟨rfl, HBW.out⟩
      · have hzb : (z1 == 0) = false := by simp [hz1]
        have he := HM4.out B HN89.out HEQ.out HB0.out hz1
        subst he
        go_wp2_with fail
        go_ret2
        exact ⟨rfl, BW.out⟩

set_option maxRecDepth 100000 in
set_option maxHeartbeats 4000000 in
theorem allOf_any (ps as_ : List ByteArray) (r : ByteArray) (v1 v2 : Value) (F G : Foot) (w : World) (hF : ∀ k, F k → k < w.heap.size) (hG : ∀ k, G k → k < w.heap.size) (h1 : SliceOf StrR 1 16 w F v1 ps) (h2 : SliceOf StrR 1 16 w G v2 as_)
    (hr : r.size ≤ 140737488355328) :
    Calls Tryd.prog 85 #[v1, v2, .string r] w fun e w' => e = .returned (.tuple #[.string (allR ps as_ r).1, .int .i64 (allR ps as_ r).2]) ∧ Below w.heap.size w w' := by
  obtain ⟨A1, c1, rfl, _, _, hl1, _⟩ := h1.form
  obtain ⟨A2, c2, rfl, _, _, hl2, _⟩ := h2.form
  have hk := fun U => kindFault_any r U hr
  have hop := fun U => isOpen_any r U hr
  have hput := fun (B : ByteArray) (hB : B.size ≤ 140737488355328) U => putOf_any r B U hr hB
  have hm1 := fun h => all_many (ps := ps) (as_ := as_) (r := r) h
  have hm2 := fun h h2 => all_other (ps := ps) (as_ := as_) (r := r) h h2
  have hm3 := fun (z : Int) h h2 h3 hz => all_match (ps := ps) (as_ := as_) (r := r) (z := z) h h2 h3 hz
  have hm4 := fun (B : ByteArray) h h2 h3 hz => all_kind (ps := ps) (as_ := as_) (r := r) (B := B) h h2 h3 hz
  have hm5 := fun (B : ByteArray) h h2 h3 hz ho hb => all_open (ps := ps) (as_ := as_) (r := r) (B := B) h h2 h3 hz ho hb
  have hm6 := fun (B : ByteArray) h h2 h3 hz ho => all_put (ps := ps) (as_ := as_) (r := r) (B := B) h h2 h3 hz ho
  generalize allR ps as_ r = E at hm1 hm2 hm3 hm4 hm5 hm6 ⊢
  generalize kindErr r = z1 at hk hm4 hm5 hm6
  generalize openB r = zo at hop hm5 hm6
  have HK := Lib.hid hk; have HOP := Lib.hid hop; have HPUT := Lib.hid hput; have HM1 := Lib.hid hm1; have HM2 := Lib.hid hm2; have HM3 := Lib.hid hm3; have HM4 := Lib.hid hm4; have HM5 := Lib.hid hm5; have HM6 := Lib.hid hm6; have H1 := Lib.hid h1; have H2 := Lib.hid h2
  clear hk hop hput hm1 hm2 hm3 hm4 hm5 hm6 h1 h2
  go_enter Tryd.func85, Tryd.ntmps85
  by_cases h8 : 8 < ps.length
  · have h8z : (8 : Int) < (ps.length : Int) := by omega
    have he := HM1.out (.inl h8)
    subst he
    go_wp2_with fail
    go_ret2
    exact ⟨rfl, Below.refl _ _⟩
  by_cases h9 : 8 < as_.length
  · have h8z : ¬ (8 : Int) < (ps.length : Int) := by omega
    have h9z : (8 : Int) < (as_.length : Int) := by omega
    have he := HM1.out (.inr h9)
    subst he
    go_wp2_with fail
    go_ret2
    exact ⟨rfl, Below.refl _ _⟩
  have h8z : ¬ (8 : Int) < (ps.length : Int) := by omega
  have h9z : ¬ (8 : Int) < (as_.length : Int) := by omega
  have hn89 : ¬ (8 < ps.length ∨ 8 < as_.length) := by omega
  by_cases hne : ps.length ≠ as_.length
  · have hnez : ¬ (ps.length : Int) = (as_.length : Int) := by omega
    have hneb : ((ps.length : Int) == (as_.length : Int)) = false := by simp [hnez]
    have he := HM2.out hn89 hne
    subst he
    go_wp2_with fail
    go_ret2
    exact ⟨rfl, Below.refl _ _⟩
  have heq : ps.length = as_.length := by omega
  have heqb : ((ps.length : Int) == (as_.length : Int)) = true := by simp [heq]
  have HEQ := Lib.hid heq
  have HN89 := Lib.hid hn89
  clear hne hn89 heq
  go_wp2_with fail
  go_loopg [8, 9, 10, 11] ps.length (fun gg s8 s9 s10 s11 wr => ∃ (kk : Nat) (B : ByteArray), kk ≤ ps.length ∧ ps.length - kk ≤ gg ∧ s9 = .int .i64 kk ∧ s8 = .string B ∧ Aside (B.size ≤ 140737488355328) ∧ Aside (bindN ((ps.zip as_).drop kk) B = bound0 ps as_) ∧ Aside (Below w.heap.size w wr))
  case atStart => exact ⟨0, ⟨#[]⟩, Nat.zero_le _, by omega, rfl, rfl, aside (Nat.zero_le _), aside rfl, aside (Below.refl _ _)⟩
  case round =>
    obtain ⟨kk, B, hkk, hg, rfl, rfl, hB, hbn, BW⟩ := hrel
    obtain ⟨wo, rfl⟩ : ∃ W, W = wr := ⟨_, rfl⟩
    by_cases hlt : kk < ps.length
    · have hltz : (kk : Int) < (ps.length : Int) := by omega
      have hlt2 : kk < as_.length := by have := HEQ.out; omega
      have hltz2 : (kk : Int) < (as_.length : Int) := by omega
      obtain ⟨b1, off1, cs1, hA1, hb1F, hcs1, ⟨rfl, hps⟩, hcell1⟩ := (H1.out.up StrR.stays hF BW.out).at_ hlt
      obtain ⟨b2, off2, cs2, hA2, hb2F, hcs2, ⟨rfl, has⟩, hcell2⟩ := (H2.out.up StrR.stays hG BW.out).at_ hlt2
      have hx1 := List.getElem?_eq_getElem hlt
      have hx2 := List.getElem?_eq_getElem hlt2
      generalize ps[kk] = p at hx1 hps hcell1
      generalize as_[kk] = a at hx2 has hcell2
      have hc1 := hcell1 0 _ rfl
      have hc2 := hcell2 0 _ rfl
      simp only [Nat.mul_one, Nat.add_zero] at hc1 hc2
      subst hA1; subst hA2
      have hmt := fun U => matchOf_n p.size p a B U (Nat.le_refl _) hps has hB.out
      have hsz := matchR_size (p := p) has hB.out
      have hst := fun S h => bind_step (ps := ps) (as_ := as_) (B := B) (S := S) hx1 hx2 h
      have her := fun S z h hz => bind_err (ps := ps) (as_ := as_) (B := B) (S := S) (z := z) hx1 hx2 h hz
      generalize matchR p a B = q at hmt hsz hst her
      obtain ⟨S, C⟩ := q
      dsimp only at hmt hsz
      have hst := fun (h : C = 0) => hst S (by rw [h])
      have her := fun (h : C ≠ 0) => her S C rfl h
      have hmt' := fun U => (hmt U).mono fun e w' h => (⟨h.1, h.2.symm⟩ : e = .returned (.tuple #[.string S, .int .i64 C]) ∧ w' = U)
      have HMT := Lib.hid hmt'; have HSZ := Lib.hid hsz; have HST := Lib.hid hst; have HER := Lib.hid her
      clear hmt' hsz hst her
      clear hcell1 hcell2 hcs1 hcs2 hx1 hx2 hmt
      go_upto_region 9 with fail
      go_cut [10, 11] (fun s10 s11 wc => s10 = .string S ∧ s11 = .int .i64 C ∧ Aside (Below wo.heap.size wo wc))
      case first =>
        go_wp2_with fail
        go_quiet ((go_at_call 137; exact Calls.quiet_of_same (HMT.out _)))
        go_wp2_with fail
        go_meet
        exact ⟨rfl, rfl, aside (below_drewN (Below.refl _ _) _)⟩
      case rest =>
      obtain ⟨rfl, rfl, hb1⟩ := hcut
      obtain ⟨w1, rfl⟩ : ∃ W, W = wc := ⟨_, rfl⟩
      have hbw := BW.out.trans (hb1.out.mono BW.out.size)
      by_cases hC : C = 0
      · subst hC
        have hs := HST.out rfl
        have HS := Lib.hid hs; have HBW := Lib.hid hbw
        clear hs hbw
        go_wp2_with fail
        go_roundg (ps.length - (kk + 1))
        case measure => omega
        case rel => exact ⟨kk + 1, S, by omega, by omega, by go_num, rfl, aside HSZ.out, aside (HS.out.symm.trans hbn.out), aside HBW.out⟩
      · have hCb : (C == 0) = false := by simp [hC]
        have he := HM3.out C HN89.out HEQ.out (hbn.out.symm.trans (HER.out hC)) hC
        subst he
        have HBW := Lib.hid hbw
        clear hbw
        go_wp2_with fail
        go_ret2
        exact ⟨rfl, HBW.out⟩
    · have hltz : ¬ (kk : Int) < (ps.length : Int) := by omega
      obtain rfl : kk = ps.length := by omega
      have hb0 : bound0 ps as_ = (B, 0) := hbn.out.symm.trans (bind_end HEQ.out)
      have hbe := empty_iff B
      have hpt := HPUT.out B hB.out
      have HB0 := Lib.hid hb0; have HPT := Lib.hid hpt
      clear hb0 hpt
      go_wp2_with fail
      refine (HK.out _).mono ?_
      rintro e w' ⟨rfl, rfl⟩
      by_cases hz1 : z1 = 0
      · subst hz1
        by_cases hob : zo = true ∧ B.size = 0
        · obtain ⟨rfl, hob⟩ := hob
          have hbe2 : B.toList.isEmpty = true := by rw [hbe]; simp [hob]
          clear hbe
          have he := HM5.out B HN89.out HEQ.out HB0.out (by first | rfl | trivial) (by first | rfl | trivial) hob
          subst he
          go_wp2_with fail
          refine (HOP.out _).mono ?_
          rintro e w' ⟨rfl, rfl⟩
          go_wp2_with fail
          go_ret2
          exact ⟨rfl, BW.out⟩
        · have he := HM6.out B HN89.out HEQ.out HB0.out (by first | rfl | trivial) hob
          subst he
          cases zo with
          | false =>
            clear hbe hob
            go_wp2_with fail
            refine (HOP.out _).mono ?_
            rintro e w' ⟨rfl, rfl⟩
            go_wp2_with fail
            refine (HPT.out _).mono ?_
            rintro e w2 ⟨rfl, hb2⟩
            have hbw := BW.out.trans (hb2.mono BW.out.size)
            have HBW := Lib.hid hbw
            clear hbw
            go_wp2_with fail
            go_ret2
            exact ⟨rfl, HBW.out⟩
          | true =>
            have hbe2 : B.toList.isEmpty = false := by rw [hbe]; simp at hob; simp [hob]
            clear hbe hob
            go_wp2_with fail
            refine (HOP.out _).mono ?_
            rintro e w' ⟨rfl, rfl⟩
            go_wp2_with fail
            refine (HPT.out _).mono ?_
            rintro e w2 ⟨rfl, hb2⟩
            have hbw := BW.out.trans (hb2.mono BW.out.size)
            have HBW := Lib.hid hbw
            clear hbw
            go_wp2_with fail
            go_ret2
            exact ⟨rfl, HBW.out⟩
      · have hzb : (z1 == 0) = false := by simp [hz1]
        have he := HM4.out B HN89.out HEQ.out HB0.out hz1
        subst he
        clear hbe
        go_wp2_with fail
        go_ret2
        exact ⟨rfl, BW.out⟩

end Go.Proofs.YthedfpcdibhfpaaDoor
