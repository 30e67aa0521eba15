/- Lists of texts: is one among them? -/
import Derived.Test.YtjaladhdnbhliaaGreatDoorFunc
import Derived.Test.YtjaladhdnbhliaaGreatDoorBase
namespace Go.Proofs.YtjaladhdnbhliaaGreatDoor
open Go.RowKit Go.Shelf

def isS (x y : ByteArray) : Bool := decide (y = x)
/-- Is a text in a list? -/
def hasS (l : List ByteArray) (x : ByteArray) : Bool := l.any (isS x)

set_option maxHeartbeats 1000000 in
theorem index_strs (v : Value) (l : List ByteArray) (F : Foot) (x : ByteArray) (w : World) (hv : SliceOf StrR 1 16 w F v l) :
    Calls Tryz.prog 158 #[v, .string x] w fun e w' => e = .returned (.int .i64 (fidx (isS x) l)) ∧ w = w' := by
  obtain ⟨A, cap, rfl, hlc, hcm, hl2, hl3⟩ := hv.form
  go_enter Tryz.func158, Tryz.ntmps158
  go_wp2
  go_loopg [5, 8] l.length (fun gg _ s8 wr => ∃ kk : Nat, kk ≤ l.length ∧ l.length - kk ≤ gg ∧ s8 = .int .i64 kk ∧ wr = w ∧ Aside (∀ j, j < kk → ∀ y, l[j]? = some y → isS x y = false))
  case atStart => exact ⟨0, Nat.zero_le _, by omega, rfl, rfl, (show Aside _ from fun j hj => absurd hj (Nat.not_lt_zero _))⟩
  case round =>
    obtain ⟨kk, hkk, hg, rfl, rfl, A1⟩ := hrel
    by_cases hlt : kk < l.length
    · have hltz : (kk : Int) < (l.length : Int) := by omega
      obtain ⟨b, off, cs, rfl, hb, hcs, ⟨rfl, _⟩, hcell⟩ := hv.at_ hlt
      have hc0 := hcell 0 _ rfl
      simp only [Nat.mul_one, Nat.add_zero] at hc0
      clear hcell hv
      cases hq : isS x l[kk] with
      | true =>
        have hE : (x.toList == l[kk].toList) = true := by rw [str_eq]; simp only [isS, decide_eq_true_eq] at hq; simp [hq]
        have HQ := Lib.hid hq; clear hq
        go_wp2
        go_ret
        exact ⟨by rw [fidx_hit hlt HQ.out A1.out]; rfl, rfl⟩
      | false =>
        have hE : (x.toList == l[kk].toList) = false := by rw [str_eq]; simp only [isS, decide_eq_false_iff_not] at hq; simp; exact fun h => hq h.symm
        have HQ := Lib.hid hq; clear hq
        go_wp2
        go_roundg (l.length - (kk + 1))
        case measure => omega
        case rel => exact ⟨kk + 1, by omega, by omega, by go_num, rfl, (show Aside _ from seen_succ hlt HQ.out A1.out)⟩
    · have hltz : ¬ (kk : Int) < (l.length : Int) := by omega
      obtain rfl : kk = l.length := by omega
      go_wp2
      go_ret
      exact ⟨by rw [fidx_miss A1.out]; rfl, rfl⟩

set_option maxHeartbeats 400000 in
theorem contains_strs (v : Value) (l : List ByteArray) (F : Foot) (x : ByteArray) (w : World) (hv : SliceOf StrR 1 16 w F v l) :
    Calls Tryz.prog 96 #[v, .string x] w fun e w' => e = .returned (.bool (hasS l x)) ∧ w = w' := by
  have hcall := index_strs v l F x w hv
  have hn := Lib.hid (fidx_nonneg (isS x) l)
  generalize fidx (isS x) l = z at hcall hn
  clear hv
  have HC := Lib.hid hcall; clear hcall
  go_enter Tryz.func96, Tryz.ntmps96
  go_wp2_with fail
  refine HC.out.mono ?_
  rintro e w' ⟨rfl, rfl⟩
  go_wp2
  go_ret
  exact ⟨by unfold hasS; rw [← hn.out]; rfl, rfl⟩

set_option maxHeartbeats 1000000 in
theorem hasText_any (v : Value) (l : List ByteArray) (F : Foot) (x : ByteArray) (w : World) (hv : SliceOf StrR 1 16 w F v l) :
    Calls Tryz.prog 42 #[v, .string x] w fun e w' => e = .returned (.bool (hasS l x)) ∧ w = w' := by
  obtain ⟨A, cap, rfl, hlc, hcm, hl2, hl3⟩ := hv.form
  go_enter Tryz.func42, Tryz.ntmps42
  go_wp2
  go_loopg [5] l.length (fun gg s5 wr => ∃ kk : Nat, kk ≤ l.length ∧ l.length - kk ≤ gg ∧ s5 = .int .i64 kk ∧ wr = w ∧ Aside (∀ j, j < kk → ∀ y, l[j]? = some y → isS x y = false))
  case atStart => exact ⟨0, Nat.zero_le _, by omega, rfl, rfl, (show Aside _ from fun j hj => absurd hj (Nat.not_lt_zero _))⟩
  case round =>
    obtain ⟨kk, hkk, hg, rfl, rfl, A1⟩ := hrel
    by_cases hlt : kk < l.length
    · have hltz : (kk : Int) < (l.length : Int) := by omega
      obtain ⟨b, off, cs, rfl, hb, hcs, ⟨rfl, _⟩, hcell⟩ := hv.at_ hlt
      have hc0 := hcell 0 _ rfl
      simp only [Nat.mul_one, Nat.add_zero] at hc0
      clear hcell hv
      cases hq : isS x l[kk] with
      | true =>
        have hE : (l[kk].toList == x.toList) = true := by rw [str_eq]; simp only [isS, decide_eq_true_eq] at hq; simp [hq]
        have HQ := Lib.hid hq; clear hq
        go_wp2
        go_ret
        exact ⟨ret_bool (any_hit (List.getElem?_eq_getElem hlt) HQ.out).symm, rfl⟩
      | false =>
        have hE : (l[kk].toList == x.toList) = false := by rw [str_eq]; simp only [isS, decide_eq_false_iff_not] at hq; simp; exact hq
        have HQ := Lib.hid hq; clear hq
        go_wp2
        go_roundg (l.length - (kk + 1))
        case measure => omega
        case rel => exact ⟨kk + 1, by omega, by omega, by go_num, rfl, (show Aside _ from seen_succ hlt HQ.out A1.out)⟩
    · have hltz : ¬ (kk : Int) < (l.length : Int) := by omega
      obtain rfl : kk = l.length := by omega
      go_wp2
      go_ret
      exact ⟨ret_bool (any_miss (Nat.le_refl _) A1.out).symm, rfl⟩

end Go.Proofs.YtjaladhdnbhliaaGreatDoor
