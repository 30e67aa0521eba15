/- The reference's reader of bytes: (*ear).num, str. -/
import Derived.Test.YtoejhgbndehaiaaReader
namespace Go.Proofs.Ytoejhgbndehaiaa
open Go.RowKit Go.Shelf

/-- The reader at block b holds these bytes, stands at this place, and this is what is wrong. -/
abbrev Ear (w : World) (b : Nat) (s : ByteArray) (i : Nat) (e : Int) : Prop := Box w b 90 #[.string s, .int .i64 i, .int .i64 e]

/-- What is read behind a call. -/
def EarTo {α : Type} (b : Nat) (p : Rd α) (s : ByteArray) (i : Nat) (e : Int) (x : α) (w w' : World) : Prop :=
  ∃ (i' : Nat) (e' : Int), Ear w' b s i' e' ∧ Grew b w w' (some b) ∧ i' ≤ s.size ∧ I64 e' ∧ Reads p (s.data.toList.drop i) e x (s.data.toList.drop i') e'

def numTells (s : ByteArray) (i : Nat) (e : Int) : Nat := if h : e = 0 ∧ i < s.size then (s.data[i]'h.2).toNat else 0
def numAt (s : ByteArray) (i : Nat) (e : Int) : Nat := if e = 0 ∧ i < s.size then i + 1 else i
def numErr (s : ByteArray) (i : Nat) (e : Int) : Int := if e = 0 ∧ s.size ≤ i then 5 else e

set_option maxRecDepth 100000 in
set_option maxHeartbeats 2000000 in
theorem num_any (b : Nat) (s : ByteArray) (i : Nat) (e : Int) (w : World) (hs : s.size ≤ 60000) (hi : i ≤ s.size) (hB : Ear w b s i e) :
    Calls Try.prog 38 #[.pointer (some ⟨b, 0, none⟩)] w fun en w' => en = .returned (.int .i64 (numTells s i e)) ∧ Ear w' b s (numAt s i e) (numErr s i e) ∧ Grew b w w' (some b) := by
  have x0 := hB.at_ 0 _ rfl
  have x1 := hB.at_ 1 _ rfl
  have x2 := hB.at_ 2 _ rfl
  have g0 := hB.free 0
  have g1 := hB.free 1
  have g2 := hB.free 2
  have HB := Lib.hid hB
  clear hB
  by_cases he : e = 0
  · subst he
    by_cases hlt : i < s.size
    · have hltz : ¬ (i : Int) ≥ (s.size : Int) := by omega
      have hltz2 : ¬ (s.size : Int) ≤ (i : Int) := by omega
      go_enter Try.func38, Try.ntmps38
      go_wp2_with fail
      go_quiet (fail)
      go_wp2_with fail
      go_quiet (fail)
      go_wp2_with fail
      go_ret
      refine ⟨?_, ?_, (Grew.cell_ _ _ _).drewN_.endN⟩
      · exact ret_int (by unfold numTells; rw [dif_pos ⟨rfl, hlt⟩]; exact (show wrap64 ((s.data[i]'hlt).toNat : Int) = _ from IntWalk.wrap64_in _ (by have := (s.data[i]'hlt).toNat_lt; omega)))
      · unfold numAt numErr
        rw [if_pos ⟨rfl, hlt⟩, if_neg (by omega)]
        have h : Box (w.setCell ⟨b, 1, none⟩ (.int .i64 ((i : Int) + 1))) b 90 #[.string s, .int .i64 ((i + 1 : Nat) : Int), .int .i64 0] := by simpa using HB.out.put 1 (.int .i64 ((i : Int) + 1))
        exact h
    · have hltz : (i : Int) ≥ (s.size : Int) := by omega
      have hltz2 : (s.size : Int) ≤ (i : Int) := by omega
      go_enter Try.func38, Try.ntmps38
      go_wp2_with fail
      go_quiet (fail)
      go_wp2_with fail
      go_ret
      refine ⟨?_, ?_, (Grew.cell_ _ _ _).drewN_⟩
      · exact ret_int (by unfold numTells; rw [dif_neg (by simp; omega)]; simp)
      · unfold numAt numErr
        rw [if_neg (by omega), if_pos ⟨rfl, by omega⟩]
        have h : Box (w.setCell ⟨b, 2, none⟩ (.int .i64 5)) b 90 #[.string s, .int .i64 i, .int .i64 5] := by simpa using HB.out.put 2 (.int .i64 5)
        exact h
  · have hez : (e == 0) = false := by simp [he]
    have hez2 : (e != 0) = true := by simp [he]
    go_enter Try.func38, Try.ntmps38
    go_wp2_with fail
    go_quiet (fail)
    go_wp2_with fail
    go_ret
    refine ⟨?_, ?_, (Grew.refl_ _ _ _ some_le).endN⟩
    · exact ret_int (by unfold numTells; rw [dif_neg (by simp [he])]; simp)
    · unfold numAt numErr
      rw [if_neg (by simp [he]), if_neg (by simp [he])]
      exact HB.out

theorem drop_one {s : ByteArray} {i : Nat} (h : i < s.size) : s.data.toList.drop i = (s.data[i]'h) :: s.data.toList.drop (i + 1) := by
  have hl : i < s.data.toList.length := by rw [Array.length_toList]; exact h
  rw [List.drop_eq_getElem_cons hl, Array.getElem_toList]
theorem drop_none {s : ByteArray} {i : Nat} (h : s.size ≤ i) : s.data.toList.drop i = [] := by
  rw [List.drop_eq_nil_iff, Array.length_toList]; exact h

theorem num_reads (s : ByteArray) (i : Nat) (e : Int) : Reads rdNum (s.data.toList.drop i) e (numTells s i e) (s.data.toList.drop (numAt s i e)) (numErr s i e) := by
  unfold numTells numAt numErr
  by_cases he : e = 0
  · subst he
    by_cases hlt : i < s.size
    · rw [dif_pos ⟨rfl, hlt⟩, if_pos ⟨rfl, hlt⟩, if_neg (by omega)]
      exact .inl ⟨rfl, by rw [drop_one hlt]; rfl, rfl⟩
    · rw [dif_neg (by simp; omega), if_neg (by omega), if_pos ⟨rfl, by omega⟩]
      exact .inr (.inl ⟨rfl, by rw [drop_none (by omega)]; rfl, by decide⟩)
  · rw [dif_neg (by simp [he]), if_neg (by simp [he]), if_neg (by simp [he])]
    exact .inr (.inr ⟨he, rfl⟩)

theorem numAt_le {s : ByteArray} {i : Nat} {e : Int} (h : i ≤ s.size) : numAt s i e ≤ s.size := by
  unfold numAt
  split <;> omega
theorem numErr_I64 {s : ByteArray} {i : Nat} {e : Int} (h : I64 e) : I64 (numErr s i e) := by
  unfold numErr
  split
  · exact ⟨by decide, by decide⟩
  · exact h
theorem numTells_le (s : ByteArray) (i : Nat) (e : Int) : numTells s i e ≤ 255 := by
  unfold numTells
  split
  · rename_i h
    have := (s.data[i]'h.2).toNat_lt; omega
  · omega

theorem numE_any (b : Nat) (s : ByteArray) (i : Nat) (e : Int) (w : World) (hs : s.size ≤ 60000) (hi : i ≤ s.size) (hei : I64 e) (hB : Ear w b s i e) :
    Calls Try.prog 38 #[.pointer (some ⟨b, 0, none⟩)] w fun en w' => ∃ n : Nat, n ≤ 255 ∧ en = .returned (.int .i64 n) ∧ EarTo b rdNum s i e n w w' :=
  (num_any b s i e w hs hi hB).mono fun _ _ ⟨h1, h2, h3⟩ => ⟨_, numTells_le s i e, h1, _, _, h2, h3, numAt_le hi, numErr_I64 hei, num_reads s i e⟩

theorem str_short {s : ByteArray} {i : Nat} (h : s.size < i + 2) : rdStr (s.data.toList.drop i) = .error 5 := by
  by_cases h1 : i < s.size
  · rw [drop_one h1, drop_none (by omega)]; rfl
  · rw [drop_none (by omega)]; rfl
theorem str_long {s : ByteArray} {i n : Nat} (h : i + 2 ≤ s.size) (hn : n = (s.data[i]'(by show i < s.size; omega)).toNat * 256 + (s.data[i + 1]'(by show i + 1 < s.size; omega)).toNat) (hl : s.size < i + 2 + n) : rdStr (s.data.toList.drop i) = .error 5 := by
  rw [drop_one (by omega), drop_one (by omega)]
  unfold rdStr
  simp only
  rw [if_pos]
  rw [← hn, List.length_drop, Array.length_toList]
  show s.size - (i + 1 + 1) < n
  omega
theorem str_fine {s : ByteArray} {i n : Nat} (h : i + 2 ≤ s.size) (hn : n = (s.data[i]'(by show i < s.size; omega)).toNat * 256 + (s.data[i + 1]'(by show i + 1 < s.size; omega)).toNat) (hl : i + 2 + n ≤ s.size) :
    rdStr (s.data.toList.drop i) = .ok (s.extract (i + 2) (i + 2 + n), s.data.toList.drop (i + 2 + n)) := by
  rw [drop_one (by omega), drop_one (by omega)]
  unfold rdStr
  simp only
  rw [← hn, if_neg (by rw [List.length_drop, Array.length_toList]; show ¬ (s.size - (i + 1 + 1) < n); omega), List.drop_drop]
  have hx : s.extract (i + 2) (i + 2 + n) = ⟨((s.data.toList.drop (i + 1 + 1)).take n).toArray⟩ := by
    apply ByteArray.ext
    apply Array.ext'
    rw [ByteArray.data_extract, Array.toList_extract, List.extract_eq_take_drop, show i + 2 + n - (i + 2) = n by omega]
  rw [hx]

end Go.Proofs.Ytoejhgbndehaiaa
