/- Words, quotes, names: what package token's and the reference's functions on them compute. -/
import Derived.Test.YtjaladhdnbhliaaGreatDoorFunc
import Derived.Test.YtjaladhdnbhliaaGreatDoorBase
namespace Go.Proofs.YtjaladhdnbhliaaGreatDoor
open Go.RowKit Go.Shelf

/-- A byte that may not be quoted. -/
def quoteBad (c : UInt8) : Bool := decide (c.toNat < 32) || (decide (126 < c.toNat) || (decide (c.toNat = 34) || decide (c.toNat = 92)))
def quoteOk (s : ByteArray) : Bool := decide (s.size ≤ 20) && !(s.data.toList.any quoteBad)

/-- What '[]byte(s)' lays reads as the string's bytes. -/
theorem bytes_slice (W : World) (s : ByteArray) (cap : Nat) (e : TypeId) (m : Nat × Nat) (h1 : s.size ≤ cap) (h2 : cap ≤ maxLen) (h3 : s.size ≤ 140737488355328) :
    SliceOf U8R 1 1 (W.alloc (.cells (bytesRow s cap) e m)) (fun k => k = W.heap.size) (.slice (some ⟨W.heap.size, 0, none⟩) s.size cap) s.data.toList := by
  have el : s.data.toList.length = s.size := rfl
  refine ⟨some ⟨W.heap.size, 0, none⟩, cap, by rw [el], by rw [el]; exact h1, h2, by rw [el]; omega, by rw [el]; omega, fun _ => ⟨W.heap.size, 0, rfl, rfl, fun i x hi => ⟨[.int .u8 x.toNat], rfl, rfl, fun j u hj => ?_⟩⟩⟩
  have hil : i < s.data.toList.length := (List.getElem?_eq_some_iff.1 hi).1
  have hj0 : j = 0 := by
    have := (List.getElem?_eq_some_iff.1 hj).1
    simp at this; exact this
  subst hj0
  simp only [List.getElem?_cons_zero, Option.some.injEq] at hj
  subst hj
  have hh : (W.alloc (.cells (bytesRow s cap) e m)).heap[W.heap.size]? = some (.cells (bytesRow s cap) e m) := heap_alloc_new W _
  rw [cell_of_row _ _ _ _ _ _ hh]
  simp only [Nat.mul_one, Nat.zero_add, Nat.add_zero, bytesRow]
  rw [Array.getElem?_append_left (by simp; rw [el] at hil; exact hil), Array.getElem?_map]
  have : s.data[i]? = some x := by rw [← hi]; simp
  rw [this]
  rfl

set_option maxRecDepth 100000 in
set_option maxHeartbeats 400000 in
theorem quotable1_any (c : UInt8) (w : World) : Calls Tryz.prog 238 #[.int .u8 c.toNat] w fun e w' => e = .returned (.bool (quoteBad c)) ∧ w = w' := by
  have hc : (c.toNat : Int) < 256 := by have := c.toNat_lt; omega
  go_enter Tryz.func238, Tryz.ntmps238
  go_wp2
  all_goals go_ret
  all_goals (go_tidy; refine ⟨ret_bool ?_, rfl⟩; rw [Bool.eq_iff_iff]; simp [quoteBad]; try omega)

set_option maxRecDepth 100000 in
set_option maxHeartbeats 400000 in
theorem quotable_any (s : ByteArray) (w : World) (hs : s.size ≤ 140737488355328) : Calls Tryz.prog 184 #[.string s] w fun e w' => e = .returned (.bool (quoteOk s)) ∧ Below w.heap.size w w' := by
  by_cases h : s.size ≤ 20
  · have h1 : ((s.size : Nat) : Int) ≤ 20 := by omega
    have kc := fun w : World => run_bytes_of_string (P := Tryz.prog) w 9 124 5 s Tryz.underlying9 Tryz.underlying124 Tryz.underlying5
    have hf : quoteOk s = !(s.data.toList.any quoteBad) := by simp [quoteOk, h]
    rw [hf]
    have hq := fun (W : World) (v : Value) (F : Foot) hF hv => containsFunc_bytes v s.data.toList F 238 #[] quoteBad W (enters_of Tryz.func238 (by kernel_rfl) rfl) hF hv
      (fun W' x cs _ _ hr => by
        obtain rfl : cs = _ := hr
        exact (quotable1_any x W').mono fun e w' ⟨he, hw⟩ => ⟨he, by subst hw; exact Below.refl _ _⟩)
    generalize s.data.toList.any quoteBad = z at hq ⊢
    have HQ := Lib.hid hq; clear hq hf
    go_enter Tryz.func184, Tryz.ntmps184
    go_wp2_with fail
    refine (HQ.out _ _ _ (fun k hk => by rw [hk]; simp) ((bytes_slice w s (grownCap w s.size 0 5) 5 _ (grownCap_ge _ _ _ _) (grownCap_le_maxLen _ _ _ _ (by unfold maxLen; omega)) hs).stays U8R.stays (fun _ h => h) (Keeps.drew (Keeps.refl _ _)))).mono ?_
    rintro e w' ⟨rfl, hb⟩
    go_wp2
    go_ret
    exact ⟨rfl, ((Below.refl _ _).alloc (Nat.le_refl _) _).drew.trans (hb.mono (by simp))⟩
  · have h1 : ¬ ((s.size : Nat) : Int) ≤ 20 := by omega
    have hf : quoteOk s = false := by simp [quoteOk, h]
    rw [hf]
    go_enter Tryz.func184, Tryz.ntmps184
    go_wp2_with fail
    go_ret
    exact ⟨rfl, Below.refl _ _⟩

def inB (n lo hi : Int) : Bool := decide (lo ≤ n) && decide (n ≤ hi)

set_option maxHeartbeats 400000 in
theorem in_any (n lo hi : Int) (w : World) : Calls Tryz.prog 139 #[.int .i64 n, .int .i64 lo, .int .i64 hi] w fun e w' => e = .returned (.bool (inB n lo hi)) ∧ w = w' := by
  go_enter Tryz.func139, Tryz.ntmps139
  go_wp2
  all_goals go_ret
  all_goals (go_tidy; refine ⟨ret_bool ?_, rfl⟩; rw [Bool.eq_iff_iff]; simp [inB]; try omega)

set_option maxRecDepth 100000 in
set_option maxHeartbeats 400000 in
theorem quoteMay_any (s : ByteArray) (w : World) (hs : s.size ≤ 140737488355328) : Calls Tryz.prog 205 #[.string s] w fun e w' => e = .returned (.bool (quoteOk s)) ∧ w = w' := by
  go_enter Tryz.func205, Tryz.ntmps205
  go_wp2
  go_loopg [3] s.size (fun gg s3 wr => ∃ kk : Nat, kk ≤ s.size ∧ s.size - kk ≤ gg ∧ s3 = .int .i64 kk ∧ wr = w ∧ Aside (∀ j, j < kk → ∀ x, s.data.toList[j]? = some x → quoteBad x = false))
  case atStart => exact ⟨0, Nat.zero_le _, by omega, rfl, rfl, (show Aside _ from fun j hj => absurd hj (Nat.not_lt_zero _))⟩
  case round =>
    obtain ⟨kk, hkk, hg, rfl, rfl, A1⟩ := hrel
    by_cases hlt : kk < s.size
    · have hltz : (kk : Int) < (s.size : Int) := by omega
      have hb : (s[kk].toNat : Int) < 256 := by have := s[kk].toNat_lt; omega
      go_wp2_with (go_at_call 139; refine (in_any _ _ _ _).mono ?_; rintro e w' ⟨rfl, rfl⟩)
      all_goals first
        | (go_ret; go_tidy; refine ⟨ret_bool ?_, rfl⟩
           have hq : quoteBad s[kk] = true := by (simp [quoteBad, inB] at *; omega)
           simp [quoteOk, any_hit (str_at? s kk hlt) hq])
        | (have hq : quoteBad s[kk] = false := by (simp [quoteBad, inB] at *; omega)
           go_roundg (s.size - (kk + 1))
           case measure => omega
           case rel => exact ⟨kk + 1, by omega, by omega, by go_num, rfl, (show Aside _ from seen_succ' (str_at? s kk hlt) hq A1.out)⟩)
    · have hltz : ¬ (kk : Int) < (s.size : Int) := by omega
      obtain rfl : kk = s.size := by omega
      go_wp2
      go_ret
      refine ⟨ret_bool ?_, rfl⟩
      have := any_miss (Nat.le_of_eq (str_len s)) A1.out
      rw [Bool.eq_iff_iff]; simp [quoteOk, this]; omega

def smallB (c : UInt8) : Bool := decide (97 ≤ c.toNat) && decide (c.toNat ≤ 122)
def digitB (c : UInt8) : Bool := decide (48 ≤ c.toNat) && decide (c.toNat ≤ 57)
def wordBad (c : UInt8) : Bool := !(smallB c) && !(digitB c)
/-- May it be a word? -/
def wordOk (s : ByteArray) : Bool := match s.data.toList with
  | [] => false
  | c :: _ => decide (s.size ≤ 8) && (smallB c && !(s.data.toList.any wordBad))

set_option maxRecDepth 100000 in
set_option maxHeartbeats 400000 in
theorem small_any (c : UInt8) (w : World) : Calls Tryz.prog 180 #[.int .u8 c.toNat] w fun e w' => e = .returned (.bool (smallB c)) ∧ w = w' := by
  have hc : (c.toNat : Int) < 256 := by have := c.toNat_lt; omega
  go_enter Tryz.func180, Tryz.ntmps180
  go_wp2
  all_goals go_ret
  all_goals (go_tidy; refine ⟨ret_bool ?_, rfl⟩; rw [Bool.eq_iff_iff]; simp [smallB]; try omega)

set_option maxRecDepth 100000 in
set_option maxHeartbeats 400000 in
theorem digit_any (c : UInt8) (w : World) : Calls Tryz.prog 183 #[.int .u8 c.toNat] w fun e w' => e = .returned (.bool (digitB c)) ∧ w = w' := by
  have hc : (c.toNat : Int) < 256 := by have := c.toNat_lt; omega
  go_enter Tryz.func183, Tryz.ntmps183
  go_wp2
  all_goals go_ret
  all_goals (go_tidy; refine ⟨ret_bool ?_, rfl⟩; rw [Bool.eq_iff_iff]; simp [digitB]; try omega)

set_option maxRecDepth 100000 in
set_option maxHeartbeats 400000 in
theorem word1_any (c : UInt8) (w : World) : Calls Tryz.prog 182 #[.int .u8 c.toNat] w fun e w' => e = .returned (.bool (wordBad c)) ∧ w = w' := by
  go_enter Tryz.func182, Tryz.ntmps182
  go_wp2_with (first
    | (go_at_call 180; refine (small_any _ _).mono ?_; rintro e w' ⟨rfl, rfl⟩)
    | (go_at_call 183; refine (digit_any _ _).mono ?_; rintro e w' ⟨rfl, rfl⟩))
  all_goals go_ret
  all_goals (go_tidy; refine ⟨ret_bool ?_, rfl⟩; simp_all [wordBad])

theorem wordOk_nil {s : ByteArray} (h : s.size = 0) : wordOk s = false := by
  have : s.data.toList = [] := List.length_eq_zero_iff.1 h
  simp [wordOk, this]
theorem wordOk_cons {s : ByteArray} (h : 0 < s.size) : wordOk s = (decide (s.size ≤ 8) && (smallB s[0] && !(s.data.toList.any wordBad))) := by
  have h0 : s.data.toList[0]? = some s[0] := str_at? s 0 h
  cases hl : s.data.toList with
  | nil => rw [hl] at h0; cases h0
  | cons c r =>
    rw [hl] at h0
    simp only [List.getElem?_cons_zero, Option.some.injEq] at h0
    rw [← h0]
    unfold wordOk
    rw [hl]

set_option maxRecDepth 100000 in
set_option maxHeartbeats 400000 in
theorem word_any (s : ByteArray) (w : World) (hs : s.size ≤ 140737488355328) : Calls Tryz.prog 112 #[.string s] w fun e w' => e = .returned (.bool (wordOk s)) ∧ Below w.heap.size w w' := by
  by_cases h0 : s.size = 0
  · obtain rfl := str_nil h0
    rw [wordOk_nil h0]
    go_enter Tryz.func112, Tryz.ntmps112
    go_wp2_with fail
    go_ret
    exact ⟨rfl, Below.refl _ _⟩
  · have h0' : 0 < s.size := by omega
    have hf := wordOk_cons h0'
    rw [hf]
    have hne : (!s.toList.isEmpty) = true := by rw [str_isEmpty]; simp [h0]
    clear hf
    by_cases h8 : s.size ≤ 8
    · have h8z : (s.size : Int) ≤ 8 := by omega
      rw [decide_eq_true h8, Bool.true_and]
      cases hq : smallB s[0] with
      | false =>
        go_enter Tryz.func112, Tryz.ntmps112
        go_wp2_with (go_at_call 180; refine (small_any _ _).mono ?_; rintro e w' ⟨rfl, rfl⟩)
        go_ret
        exact ⟨rfl, Below.refl _ _⟩
      | true =>
        have kc := fun w : World => run_bytes_of_string (P := Tryz.prog) w 9 124 5 s Tryz.underlying9 Tryz.underlying124 Tryz.underlying5
        have hcf := fun (W : World) (v : Value) (F : Foot) hF hv => containsFunc_bytes v s.data.toList F 182 #[] wordBad W (enters_of Tryz.func182 (by kernel_rfl) rfl) hF hv
          (fun W' x cs _ _ hr => by
            obtain rfl : cs = _ := hr
            exact (word1_any x W').mono fun e w' ⟨he, hw⟩ => ⟨he, by subst hw; exact Below.refl _ _⟩)
        rw [Bool.true_and]
        generalize s.data.toList.any wordBad = z at hcf ⊢
        have HQ := Lib.hid hcf; clear hcf
        go_enter Tryz.func112, Tryz.ntmps112
        go_wp2_with (go_at_call 180; refine (small_any _ _).mono ?_; rintro e w' ⟨rfl, rfl⟩)
        refine (HQ.out _ _ _ (fun k hk => by rw [hk]; simp) ((bytes_slice w s (grownCap w s.size 0 5) 5 _ (grownCap_ge _ _ _ _) (grownCap_le_maxLen _ _ _ _ (by unfold maxLen; omega)) hs).stays U8R.stays (fun _ h => h) (Keeps.drew (Keeps.refl _ _)))).mono ?_
        rintro e w' ⟨rfl, hb⟩
        go_wp2
        go_ret
        exact ⟨rfl, ((Below.refl _ _).alloc (Nat.le_refl _) _).drew.trans (hb.mono (by simp))⟩
    · have h8z : ¬ (s.size : Int) ≤ 8 := by omega
      rw [decide_eq_false h8]
      go_enter Tryz.func112, Tryz.ntmps112
      go_wp2_with fail
      go_ret
      exact ⟨rfl, Below.refl _ _⟩


theorem first_succ {p : UInt8 → Bool} {l : List UInt8} {k : Nat} {y : UInt8} (hk : l[k]? = some y) (h : k = 0 → p y = true) (hb : ∀ _ : 0 < k, ∀ x, l[0]? = some x → p x = true) : ∀ _ : 0 < k + 1, ∀ x, l[0]? = some x → p x = true := by
  intro _ x hx
  by_cases e : k = 0
  · subst e
    rw [hk] at hx
    injection hx with hx
    rw [← hx]; exact h rfl
  · exact hb (by omega) x hx

set_option maxRecDepth 100000 in
set_option maxHeartbeats 400000 in
theorem wordMay_any (s : ByteArray) (w : World) (hs : s.size ≤ 140737488355328) : Calls Tryz.prog 164 #[.string s] w fun e w' => e = .returned (.bool (wordOk s)) ∧ w = w' := by
  go_enter Tryz.func164, Tryz.ntmps164
  go_wp2
  go_loopg [3] s.size (fun gg s3 wr => ∃ kk : Nat, kk ≤ s.size ∧ s.size - kk ≤ gg ∧ s3 = .int .i64 kk ∧ wr = w ∧ Aside (∀ j, j < kk → ∀ x, s.data.toList[j]? = some x → wordBad x = false) ∧ Aside (∀ h : 0 < kk, ∀ x, s.data.toList[0]? = some x → smallB x = true))
  case atStart => exact ⟨0, Nat.zero_le _, by omega, rfl, rfl, (show Aside _ from fun j hj => absurd hj (Nat.not_lt_zero _)), (show Aside _ from fun h => absurd h (Nat.lt_irrefl _))⟩
  case round =>
    obtain ⟨kk, hkk, hg, rfl, rfl, A1, A2⟩ := hrel
    by_cases hlt : kk < s.size
    · have hltz : (kk : Int) < (s.size : Int) := by omega
      have hb : (s[kk].toNat : Int) < 256 := by have := s[kk].toNat_lt; omega
      go_wp2_with (go_at_call 139; refine (in_any _ _ _ _).mono ?_; rintro e w' ⟨rfl, rfl⟩)
      · have hq : wordBad s[kk] = false := by (simp [wordBad, smallB, digitB, inB] at *; omega)
        have hq2 : kk = 0 → smallB s[kk] = true := by (intro e; simp [smallB, inB] at *; omega)
        go_roundg (s.size - (kk + 1))
        case measure => omega
        case rel => exact ⟨kk + 1, by omega, by omega, by go_num, rfl, (show Aside _ from seen_succ' (str_at? s kk hlt) hq A1.out), (show Aside _ from first_succ (str_at? s kk hlt) hq2 A2.out)⟩
      · go_ret; go_tidy; refine ⟨ret_bool ?_, rfl⟩
        rw [wordOk_cons (by omega)]
        have e : kk = 0 := by assumption
        subst e
        have hq : smallB s[0] = false := by (simp [smallB, inB] at *; omega)
        simp [hq]
      · go_ret; go_tidy; refine ⟨ret_bool ?_, rfl⟩
        rw [wordOk_cons (by omega)]
        have hq : wordBad s[kk] = true := by (simp [wordBad, smallB, digitB, inB] at *; omega)
        simp [any_hit (str_at? s kk hlt) hq]
      · have hq : wordBad s[kk] = false := by (simp [wordBad, smallB, digitB, inB] at *; omega)
        have hq2 : kk = 0 → smallB s[kk] = true := by (intro e; simp [smallB, inB] at *; omega)
        go_roundg (s.size - (kk + 1))
        case measure => omega
        case rel => exact ⟨kk + 1, by omega, by omega, by go_num, rfl, (show Aside _ from seen_succ' (str_at? s kk hlt) hq A1.out), (show Aside _ from first_succ (str_at? s kk hlt) hq2 A2.out)⟩
    · have hltz : ¬ (kk : Int) < (s.size : Int) := by omega
      obtain rfl : kk = s.size := by omega
      go_wp2_with (go_at_call 139; refine (in_any _ _ _ _).mono ?_; rintro e w' ⟨rfl, rfl⟩)
      go_ret
      refine ⟨ret_bool ?_, rfl⟩
      have h1 := any_miss (Nat.le_of_eq (str_len s)) A1.out
      by_cases h0 : s.size = 0
      · rw [wordOk_nil h0, h0]; rfl
      · rw [wordOk_cons (by omega), h1, A2.out (by omega) _ (str_at? s 0 (by omega)), Bool.eq_iff_iff]
        simp [inB]; omega

end Go.Proofs.YtjaladhdnbhliaaGreatDoor
