/- Words, quotes, names: what package token's and the reference's functions on them compute. -/
import Derived.Test.YtafhepilcmimlaaDoorFunc
import Derived.Test.YtafhepilcmimlaaDoorBase
namespace Go.Proofs.YtafhepilcmimlaaDoor
open Go.RowKit Go.Shelf

/-- A byte that may not be quoted. -/
def quoteBad (c : UInt8) : Bool := decide (c.toNat < 32) || (decide (126 < c.toNat) || (decide (c.toNat = 34) || decide (c.toNat = 92)))
def quoteOk (s : ByteArray) : Bool := decide (s.size ≤ 20) && !(s.data.toList.any quoteBad)

/-- What '[]byte(s)' lays reads as the string's bytes. -/
theorem bytes_slice (W : World) (s : ByteArray) (cap : Nat) (e : TypeId) (m : Nat × Nat) (h1 : s.size ≤ cap) (h2 : cap ≤ maxLen) (h3 : s.size ≤ 140737488355328) :
    SliceOf U8R 1 1 (W.alloc (.cells (bytesRow s cap) e m)) (fun k => k = W.heap.size) (.slice (some ⟨W.heap.size, 0, none⟩) s.size cap) s.data.toList := by
  have el : s.data.toList.length = s.size := rfl
  refine ⟨some ⟨W.heap.size, 0, none⟩, cap, by rw [el], by rw [el]; exact h1, h2, by rw [el]; omega, by rw [el]; omega, fun _ => ⟨W.heap.size, 0, rfl, rfl, fun i x hi => ⟨[.int .u8 x.toNat], rfl, rfl, fun j u hj => ?_⟩⟩⟩
  have hil : i < s.data.toList.length := (List.getElem?_eq_some_iff.1 hi).1
  have hj0 : j = 0 := by
    have := (List.getElem?_eq_some_iff.1 hj).1
    simp at this; exact this
  subst hj0
  simp only [List.getElem?_cons_zero, Option.some.injEq] at hj
  subst hj
  have hh : (W.alloc (.cells (bytesRow s cap) e m)).heap[W.heap.size]? = some (.cells (bytesRow s cap) e m) := heap_alloc_new W _
  rw [cell_of_row _ _ _ _ _ _ hh]
  simp only [Nat.mul_one, Nat.zero_add, Nat.add_zero, bytesRow]
  rw [Array.getElem?_append_left (by simp; rw [el] at hil; exact hil), Array.getElem?_map]
  have : s.data[i]? = some x := by rw [← hi]; simp
  rw [this]
  rfl

def inB (n lo hi : Int) : Bool := decide (lo ≤ n) && decide (n ≤ hi)

def smallB (c : UInt8) : Bool := decide (97 ≤ c.toNat) && decide (c.toNat ≤ 122)
def digitB (c : UInt8) : Bool := decide (48 ≤ c.toNat) && decide (c.toNat ≤ 57)
def wordBad (c : UInt8) : Bool := !(smallB c) && !(digitB c)
/-- May it be a word? -/
def wordOk (s : ByteArray) : Bool := match s.data.toList with
  | [] => false
  | c :: _ => decide (s.size ≤ 8) && (smallB c && !(s.data.toList.any wordBad))

set_option maxRecDepth 100000 in
set_option maxHeartbeats 400000 in
theorem small_any (c : UInt8) (w : World) : Calls Tryd.prog 62 #[.int .u8 c.toNat] w fun e w' => e = .returned (.bool (smallB c)) ∧ w = w' := by
  have hc : (c.toNat : Int) < 256 := by have := c.toNat_lt; omega
  go_enter Tryd.func62, Tryd.ntmps62
  go_wp2
  all_goals go_ret
  all_goals (go_tidy; refine ⟨ret_bool ?_, rfl⟩; rw [Bool.eq_iff_iff]; simp [smallB]; try omega)

set_option maxRecDepth 100000 in
set_option maxHeartbeats 400000 in
theorem digit_any (c : UInt8) (w : World) : Calls Tryd.prog 65 #[.int .u8 c.toNat] w fun e w' => e = .returned (.bool (digitB c)) ∧ w = w' := by
  have hc : (c.toNat : Int) < 256 := by have := c.toNat_lt; omega
  go_enter Tryd.func65, Tryd.ntmps65
  go_wp2
  all_goals go_ret
  all_goals (go_tidy; refine ⟨ret_bool ?_, rfl⟩; rw [Bool.eq_iff_iff]; simp [digitB]; try omega)

set_option maxRecDepth 100000 in
set_option maxHeartbeats 400000 in
theorem word1_any (c : UInt8) (w : World) : Calls Tryd.prog 64 #[.int .u8 c.toNat] w fun e w' => e = .returned (.bool (wordBad c)) ∧ w = w' := by
  go_enter Tryd.func64, Tryd.ntmps64
  go_wp2_with (first
    | (go_at_call 62; refine (small_any _ _).mono ?_; rintro e w' ⟨rfl, rfl⟩)
    | (go_at_call 65; refine (digit_any _ _).mono ?_; rintro e w' ⟨rfl, rfl⟩))
  all_goals go_ret
  all_goals (go_tidy; refine ⟨ret_bool ?_, rfl⟩; simp_all [wordBad])

theorem wordOk_nil {s : ByteArray} (h : s.size = 0) : wordOk s = false := by
  have : s.data.toList = [] := List.length_eq_zero_iff.1 h
  simp [wordOk, this]
theorem wordOk_cons {s : ByteArray} (h : 0 < s.size) : wordOk s = (decide (s.size ≤ 8) && (smallB s[0] && !(s.data.toList.any wordBad))) := by
  have h0 : s.data.toList[0]? = some s[0] := str_at? s 0 h
  cases hl : s.data.toList with
  | nil => rw [hl] at h0; cases h0
  | cons c r =>
    rw [hl] at h0
    simp only [List.getElem?_cons_zero, Option.some.injEq] at h0
    rw [← h0]
    unfold wordOk
    rw [hl]

set_option maxRecDepth 100000 in
set_option maxHeartbeats 400000 in
theorem word_any (s : ByteArray) (w : World) (hs : s.size ≤ 140737488355328) : Calls Tryd.prog 53 #[.string s] w fun e w' => e = .returned (.bool (wordOk s)) ∧ Below w.heap.size w w' := by
  by_cases h0 : s.size = 0
  · obtain rfl := str_nil h0
    rw [wordOk_nil h0]
    go_enter Tryd.func53, Tryd.ntmps53
    go_wp2_with fail
    go_ret
    exact ⟨rfl, Below.refl _ _⟩
  · have h0' : 0 < s.size := by omega
    have hf := wordOk_cons h0'
    rw [hf]
    have hne : (!s.toList.isEmpty) = true := by rw [str_isEmpty]; simp [h0]
    clear hf
    by_cases h8 : s.size ≤ 8
    · have h8z : (s.size : Int) ≤ 8 := by omega
      rw [decide_eq_true h8, Bool.true_and]
      cases hq : smallB s[0] with
      | false =>
        go_enter Tryd.func53, Tryd.ntmps53
        go_wp2_with (go_at_call 62; refine (small_any _ _).mono ?_; rintro e w' ⟨rfl, rfl⟩)
        go_ret
        exact ⟨rfl, Below.refl _ _⟩
      | true =>
        have kc := fun w : World => run_bytes_of_string (P := Tryd.prog) w 9 92 5 s Tryd.underlying9 Tryd.underlying92 Tryd.underlying5
        have hcf := fun (W : World) (v : Value) (F : Foot) hF hv => containsFunc_bytes v s.data.toList F 64 #[] wordBad W (enters_of Tryd.func64 (by kernel_rfl) rfl) hF hv
          (fun W' x cs _ _ hr => by
            obtain rfl : cs = _ := hr
            exact (word1_any x W').mono fun e w' ⟨he, hw⟩ => ⟨he, by subst hw; exact Below.refl _ _⟩)
        rw [Bool.true_and]
        generalize s.data.toList.any wordBad = z at hcf ⊢
        have HQ := Lib.hid hcf; clear hcf
        go_enter Tryd.func53, Tryd.ntmps53
        go_wp2_with (go_at_call 62; refine (small_any _ _).mono ?_; rintro e w' ⟨rfl, rfl⟩)
        refine (HQ.out _ _ _ (fun k hk => by rw [hk]; simp) ((bytes_slice w s (grownCap w s.size 0 5) 5 _ (grownCap_ge _ _ _ _) (grownCap_le_maxLen _ _ _ _ (by unfold maxLen; omega)) hs).stays U8R.stays (fun _ h => h) (Keeps.drew (Keeps.refl _ _)))).mono ?_
        rintro e w' ⟨rfl, hb⟩
        go_wp2
        go_ret
        exact ⟨rfl, ((Below.refl _ _).alloc (Nat.le_refl _) _).drew.trans (hb.mono (by simp))⟩
    · have h8z : ¬ (s.size : Int) ≤ 8 := by omega
      rw [decide_eq_false h8]
      go_enter Tryd.func53, Tryd.ntmps53
      go_wp2_with fail
      go_ret
      exact ⟨rfl, Below.refl _ _⟩


theorem first_succ {p : UInt8 → Bool} {l : List UInt8} {k : Nat} {y : UInt8} (hk : l[k]? = some y) (h : k = 0 → p y = true) (hb : ∀ _ : 0 < k, ∀ x, l[0]? = some x → p x = true) : ∀ _ : 0 < k + 1, ∀ x, l[0]? = some x → p x = true := by
  intro _ x hx
  by_cases e : k = 0
  · subst e
    rw [hk] at hx
    injection hx with hx
    rw [← hx]; exact h rfl
  · exact hb (by omega) x hx

end Go.Proofs.YtafhepilcmimlaaDoor
