/- Kinds: what kind.Elem and the document's ElemOf compute. -/
import Derived.Test.YtjaladhdnbhliaaGreatDoorBase
import Derived.Test.YtjaladhdnbhliaaGreatDoorRows
import Derived.WalkSpells
import Derived.WalkLawsBesides
namespace Go.Proofs.YtjaladhdnbhliaaGreatDoor
open Go.RowKit

/-- Of what a list is. -/
def elemOf (s : ByteArray) : Option ByteArray :=
  if h : 3 ≤ s.size then if s[0].toNat = 91 ∧ s[s.size - 1].toNat = 93 then some (s.extract 1 (s.size - 1)) else none else none

set_option maxHeartbeats 400000 in
theorem elem_any (s : ByteArray) (w : World) (hs : s.size ≤ 140737488355328) :
    Calls Tryz.prog 113 #[.string s] w fun e w' => e = .returned (.tuple #[.string ((elemOf s).getD ⟨#[]⟩), .bool (elemOf s).isSome]) ∧ w = w' := by
  go_enter Tryz.func113, Tryz.ntmps113
  go_wp2
  all_goals go_ret2
  all_goals (go_tidy; refine ⟨?_, rfl⟩)
  all_goals (simp only [bne_iff_ne, bne_eq_false_iff_eq, ne_eq] at *; unfold elemOf; (repeat' split) <;> simp_all <;> omega)

set_option maxHeartbeats 400000 in
theorem elemOf_any (s : ByteArray) (w : World) (hs : s.size ≤ 140737488355328) :
    Calls Tryz.prog 171 #[.string s] w fun e w' => e = .returned (.tuple #[.string ((elemOf s).getD ⟨#[]⟩), .bool (elemOf s).isSome]) ∧ w = w' := by
  go_enter Tryz.func171, Tryz.ntmps171
  go_wp2
  all_goals go_ret2
  all_goals (go_tidy; refine ⟨?_, rfl⟩)
  all_goals (simp only [beq_iff_eq, beq_eq_false_iff_ne, ne_eq] at *; unfold elemOf; (repeat' split) <;> simp_all <;> omega)


theorem elem_some {s t : ByteArray} (h : elemOf s = some t) (w : World) (hs : s.size ≤ 140737488355328) :
    Calls Tryz.prog 113 #[.string s] w fun e w' => e = .returned (.tuple #[.string t, .bool true]) ∧ w = w' := by
  have := elem_any s w hs
  rw [h] at this
  exact this
theorem elem_none {s : ByteArray} (h : elemOf s = none) (w : World) (hs : s.size ≤ 140737488355328) :
    Calls Tryz.prog 113 #[.string s] w fun e w' => e = .returned (.tuple #[.string ⟨#[]⟩, .bool false]) ∧ w = w' := by
  have := elem_any s w hs
  rw [h] at this
  exact this
theorem elemOf_some {s t : ByteArray} (h : elemOf s = some t) (w : World) (hs : s.size ≤ 140737488355328) :
    Calls Tryz.prog 171 #[.string s] w fun e w' => e = .returned (.tuple #[.string t, .bool true]) ∧ w = w' := by
  have := elemOf_any s w hs
  rw [h] at this
  exact this
theorem elemOf_none {s : ByteArray} (h : elemOf s = none) (w : World) (hs : s.size ≤ 140737488355328) :
    Calls Tryz.prog 171 #[.string s] w fun e w' => e = .returned (.tuple #[.string ⟨#[]⟩, .bool false]) ∧ w = w' := by
  have := elemOf_any s w hs
  rw [h] at this
  exact this

theorem elemOf_size {s t : ByteArray} (h : elemOf s = some t) : t.size + 2 = s.size := by
  unfold elemOf at h
  split at h
  · split at h
    · injection h with h
      subst h
      rw [ByteArray.size_extract]
      omega
    · cases h
  · cases h

/-- What is left of a kind without its brackets. -/
def stripF : Nat → ByteArray → ByteArray
  | 0, s => s
  | n + 1, s => match elemOf s with
    | some t => stripF n t
    | none => s
def strip (s : ByteArray) : ByteArray := stripF s.size s
theorem stripF_more : ∀ (n m : Nat) (s : ByteArray), s.size ≤ n → s.size ≤ m → stripF n s = stripF m s
  | 0, 0, _, _, _ => rfl
  | 0, m + 1, s, h, _ => by
    have : elemOf s = none := by
      cases he : elemOf s with
      | none => rfl
      | some t => have := elemOf_size he; omega
    simp [stripF, this]
  | n + 1, 0, s, _, h => by
    have : elemOf s = none := by
      cases he : elemOf s with
      | none => rfl
      | some t => have := elemOf_size he; omega
    simp [stripF, this]
  | n + 1, m + 1, s, h1, h2 => by
    unfold stripF
    cases he : elemOf s with
    | none => rfl
    | some t =>
      have := elemOf_size he
      exact stripF_more n m t (by omega) (by omega)
theorem strip_some {s t : ByteArray} (h : elemOf s = some t) : strip s = strip t := by
  have hz := elemOf_size h
  unfold strip
  obtain ⟨k, hk⟩ : ∃ k, s.size = k + 1 := ⟨s.size - 1, by omega⟩
  rw [hk]
  show (match elemOf s with | some t => stripF k t | none => s) = _
  rw [h]
  exact stripF_more _ _ _ (by omega) (by omega)
theorem strip_none {s : ByteArray} (h : elemOf s = none) : strip s = s := by
  unfold strip
  cases hk : s.size with
  | zero => rfl
  | succ k => simp [stripF, h]

/-- int, text, or the variable. -/
def baseB (s : ByteArray) : Bool := (s.toList == [105, 110, 116]) || ((s.toList == [116, 101, 120, 116]) || (s.toList == [42]))
/-- What is wrong with a kind; 0: nothing. -/
def kindErr (s : ByteArray) : Int := if 600 < s.size then 1 else if baseB (strip s) then 0 else 4

set_option maxHeartbeats 1000000 in
theorem kindCheck_any (s : ByteArray) (w : World) (hs : s.size ≤ 140737488355328) :
    Calls Tryz.prog 62 #[.string s] w fun e w' => e = .returned (.int .i64 (kindErr s)) ∧ w = w' := by
  by_cases h6 : 600 < s.size
  · have h6z : (600 : Int) < (s.size : Int) := by omega
    have hf : kindErr s = 1 := by simp [kindErr, h6]
    rw [hf]
    go_enter Tryz.func62, Tryz.ntmps62
    go_wp2_with fail
    go_ret
    exact ⟨rfl, rfl⟩
  · have h6z : ¬ (600 : Int) < (s.size : Int) := by omega
    go_enter Tryz.func62, Tryz.ntmps62
    go_wp2_with fail
    go_loopg [0] s.size (fun gg s0 wr => ∃ t : ByteArray, t.size ≤ gg ∧ t.size ≤ s.size ∧ s0 = .string t ∧ wr = w ∧ Aside (strip s = strip t))
    case atStart => exact ⟨s, Nat.le_refl _, Nat.le_refl _, rfl, rfl, (show Aside _ from rfl)⟩
    case round =>
      obtain ⟨t, hg, hle, rfl, rfl, A1⟩ := hrel
      cases he : elemOf t with
      | some u =>
        have hz := elemOf_size he
        have HZ : u.size < t.size := by omega
        have HE := Lib.hid he; clear he hz
        go_wp2_with (go_at_call 113; refine (elem_some HE.out _ (by omega)).mono ?_; rintro e w' ⟨rfl, rfl⟩)
        go_roundg (u.size)
        case measure => omega
        case rel => exact ⟨u, Nat.le_refl _, by omega, rfl, rfl, (show Aside _ from A1.out.trans (strip_some HE.out))⟩
      | none =>
        have HE := Lib.hid he; clear he
        go_wp2_with (go_at_call 113; refine (elem_none HE.out _ (by omega)).mono ?_; rintro e w' ⟨rfl, rfl⟩)
        all_goals go_ret
        all_goals (go_tidy; refine ⟨ret_int ?_, rfl⟩; unfold kindErr; rw [if_neg h6, A1.out, strip_none HE.out]; simp_all [baseB])

set_option maxHeartbeats 1000000 in
theorem kindFault_any (s : ByteArray) (w : World) (hs : s.size ≤ 140737488355328) :
    Calls Tryz.prog 165 #[.string s] w fun e w' => e = .returned (.int .i64 (kindErr s)) ∧ w = w' := by
  by_cases h6 : 600 < s.size
  · have h6z : (600 : Int) < (s.size : Int) := by omega
    have hf : kindErr s = 1 := by simp [kindErr, h6]
    rw [hf]
    go_enter Tryz.func165, Tryz.ntmps165
    go_wp2_with fail
    go_ret
    exact ⟨rfl, rfl⟩
  · have h6z : ¬ (600 : Int) < (s.size : Int) := by omega
    go_enter Tryz.func165, Tryz.ntmps165
    go_wp2_with fail
    go_loopg [0] s.size (fun gg s0 wr => ∃ t : ByteArray, t.size ≤ gg ∧ t.size ≤ s.size ∧ s0 = .string t ∧ wr = w ∧ Aside (strip s = strip t))
    case atStart => exact ⟨s, Nat.le_refl _, Nat.le_refl _, rfl, rfl, (show Aside _ from rfl)⟩
    case round =>
      obtain ⟨t, hg, hle, rfl, rfl, A1⟩ := hrel
      cases he : elemOf t with
      | some u =>
        have hz := elemOf_size he
        have HZ : u.size < t.size := by omega
        have HE := Lib.hid he; clear he hz
        go_wp2_with (go_at_call 171; refine (elemOf_some HE.out _ (by omega)).mono ?_; rintro e w' ⟨rfl, rfl⟩)
        go_roundg (u.size)
        case measure => omega
        case rel => exact ⟨u, Nat.le_refl _, by omega, rfl, rfl, (show Aside _ from A1.out.trans (strip_some HE.out))⟩
      | none =>
        have HE := Lib.hid he; clear he
        go_wp2_with (go_at_call 171; refine (elemOf_none HE.out _ (by omega)).mono ?_; rintro e w' ⟨rfl, rfl⟩)
        all_goals go_ret
        all_goals (go_tidy; refine ⟨ret_int ?_, rfl⟩; unfold kindErr; rw [if_neg h6, A1.out, strip_none HE.out]; simp_all [baseB])


/-- The list of a kind. -/
def listOf (s : ByteArray) : ByteArray := ⟨#[91]⟩ ++ s ++ ⟨#[93]⟩
def listErr (s : ByteArray) : Int := if kindErr s = 0 then (if 598 < s.size then 1 else 0) else kindErr s
def listTxt (s : ByteArray) : ByteArray := if kindErr s = 0 then (if 598 < s.size then ⟨#[]⟩ else listOf s) else ⟨#[]⟩

set_option maxRecDepth 100000 in
set_option maxHeartbeats 400000 in
theorem listOf_any (s : ByteArray) (w : World) (hs : s.size ≤ 140737488355328) :
    Calls Tryz.prog 162 #[.string s] w fun e w' => e = .returned (.tuple #[.string (listTxt s), .int .i64 (listErr s)]) ∧ w = w' := by
  unfold listTxt listErr
  have hk := kindCheck_any s w hs
  generalize kindErr s = z at hk ⊢
  have HK := Lib.hid hk; clear hk
  by_cases h0 : z = 0
  · subst h0
    by_cases h6 : 598 < s.size
    · have h6z : 600 < (s.size : Int) + 2 := by omega
      go_enter Tryz.func162, Tryz.ntmps162
      go_wp2_with fail
      refine HK.out.mono ?_
      rintro e w' ⟨rfl, rfl⟩
      go_wp2_with fail
      go_ret2
      exact ⟨by simp, rfl⟩
    · have h6z : ¬ 600 < (s.size : Int) + 2 := by omega
      go_enter Tryz.func162, Tryz.ntmps162
      go_wp2_with fail
      refine HK.out.mono ?_
      rintro e w' ⟨rfl, rfl⟩
      go_wp2_with fail
      go_ret2
      exact ⟨by simp [listOf], rfl⟩
  · have h0z : (z == 0) = false := by simp [h0]
    have h0n : (z != 0) = true := by simp [h0]
    go_enter Tryz.func162, Tryz.ntmps162
    go_wp2_with fail
    refine HK.out.mono ?_
    rintro e w' ⟨rfl, rfl⟩
    go_wp2_with fail
    go_ret2
    exact ⟨by simp, rfl⟩

set_option maxRecDepth 100000 in
set_option maxHeartbeats 400000 in
theorem kindList_any (s : ByteArray) (w : World) (hs : s.size ≤ 140737488355328) :
    Calls Tryz.prog 170 #[.string s] w fun e w' => e = .returned (.tuple #[.string (listTxt s), .int .i64 (listErr s)]) ∧ w = w' := by
  unfold listTxt listErr
  have hk := kindFault_any s w hs
  generalize kindErr s = z at hk ⊢
  have HK := Lib.hid hk; clear hk
  by_cases h0 : z = 0
  · subst h0
    by_cases h6 : 598 < s.size
    · have h6z : 598 < (s.size : Int) := by omega
      go_enter Tryz.func170, Tryz.ntmps170
      go_wp2_with fail
      refine HK.out.mono ?_
      rintro e w' ⟨rfl, rfl⟩
      go_wp2_with fail
      go_ret2
      exact ⟨by simp, rfl⟩
    · have h6z : ¬ 598 < (s.size : Int) := by omega
      go_enter Tryz.func170, Tryz.ntmps170
      go_wp2_with fail
      refine HK.out.mono ?_
      rintro e w' ⟨rfl, rfl⟩
      go_wp2_with fail
      go_ret2
      exact ⟨by simp [listOf], rfl⟩
  · have h0z : (z == 0) = false := by simp [h0]
    have h0n : (z != 0) = true := by simp [h0]
    go_enter Tryz.func170, Tryz.ntmps170
    go_wp2_with fail
    refine HK.out.mono ?_
    rintro e w' ⟨rfl, rfl⟩
    go_wp2_with fail
    go_ret2
    exact ⟨by simp, rfl⟩

end Go.Proofs.YtjaladhdnbhliaaGreatDoor
