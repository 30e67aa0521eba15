/- Texts put together. No program is named here. -/
import Derived.Test.YtjaladhdnbhliaaGreatDoorBase
import Derived.Lib.UnsafeStr
import Derived.Lib.AppendStr
import Derived.Lib.Join
namespace Go.Proofs.YtjaladhdnbhliaaGreatDoor
open Go.RowKit

theorem ba_ext {a b : ByteArray} (h : a.data.toList = b.data.toList) : a = b := Go.WideShapes.bytes_inj (by rw [h])
theorem ba_app (a b : ByteArray) : (a ++ b).data.toList = a.data.toList ++ b.data.toList := by simp
theorem ba_nil : (⟨#[]⟩ : ByteArray).data.toList = [] := rfl
theorem ba_of (l : List UInt8) : (⟨l.toArray⟩ : ByteArray).data.toList = l := by simp
theorem ba_assoc (a b c : ByteArray) : a ++ b ++ c = a ++ (b ++ c) := ba_ext (by simp only [ba_app, List.append_assoc])
theorem ba_nil_app (a : ByteArray) : ⟨#[]⟩ ++ a = a := ba_ext (by simp only [ba_app, List.nil_append])
theorem ba_app_nil (a : ByteArray) : a ++ ⟨#[]⟩ = a := ba_ext (by simp only [ba_app, List.append_nil])
theorem ba_size (s : ByteArray) : s.size = s.data.toList.length := by rw [Array.length_toList]; rfl
theorem ba_app_size (a b : ByteArray) : (a ++ b).size = a.size + b.size := by simp only [ba_size, ba_app, List.length_append]
theorem ba_back (s : ByteArray) : (⟨s.data.toList.toArray⟩ : ByteArray) = s := by cases s; simp

/-- Texts one behind the other. -/
def cat (l : List ByteArray) : ByteArray := l.foldl (· ++ ·) ⟨#[]⟩
theorem cat_nil : cat [] = ⟨#[]⟩ := rfl
theorem cat_snoc (l : List ByteArray) (x : ByteArray) : cat (l ++ [x]) = cat l ++ x := by simp [cat]
theorem cat_go {c : Nat} : ∀ (l : List ByteArray) (a : ByteArray), (∀ x ∈ l, x.size ≤ c) → (l.foldl (· ++ ·) a).size ≤ a.size + l.length * c
  | [], a, _ => by simp
  | x :: l, a, h => by
    have h1 := cat_go l (a ++ x) (fun y hy => h y (by simp [hy]))
    have h2 := h x (by simp)
    rw [ba_app_size] at h1
    rw [List.foldl_cons, List.length_cons, Nat.succ_mul]
    omega
theorem cat_size {c : Nat} (l : List ByteArray) (h : ∀ x ∈ l, x.size ≤ c) : (cat l).size ≤ l.length * c := by
  have := cat_go l ⟨#[]⟩ h
  rw [show (⟨#[]⟩ : ByteArray).size = 0 from rfl, Nat.zero_add] at this
  exact this
theorem take_snoc {α : Type} {l : List α} {k : Nat} {x : α} (h : l[k]? = some x) : l.take (k + 1) = l.take k ++ [x] := by
  rw [List.take_add_one, h]; rfl
theorem cat_take {α : Type} {f : α → ByteArray} {l : List α} {k : Nat} {x : α} (h : l[k]? = some x) : cat ((l.take (k + 1)).map f) = cat ((l.take k).map f) ++ f x := by
  rw [take_snoc h, List.map_append, List.map_singleton, cat_snoc]

/-- Texts with a comma between. -/
def joined (l : List ByteArray) : ByteArray := ⟨(Lib.join (l.map (·.data.toList)) [44, 32]).toArray⟩
theorem joined_nil : joined [] = ⟨#[]⟩ := rfl
theorem join_snoc (sep : List UInt8) (l : List (List UInt8)) (x : List UInt8) (h : l ≠ []) : Lib.join (l ++ [x]) sep = Lib.join l sep ++ (sep ++ x) := by
  cases l with
  | nil => exact absurd rfl h
  | cons y r =>
    rw [List.cons_append, Lib.join_cons, Lib.join_cons]
    simp [Lib.joinTail, List.append_assoc]
theorem joined_one (x : ByteArray) : joined [x] = x := ba_ext (by simp [joined, Lib.join_one])
theorem joined_snoc {l : List ByteArray} (x : ByteArray) (h : l ≠ []) : joined (l ++ [x]) = joined l ++ ⟨#[44, 32]⟩ ++ x := by
  refine ba_ext ?_
  have h2 : l.map (·.data.toList) ≠ [] := fun e => h (List.map_eq_nil_iff.1 e)
  simp only [joined, ba_app, List.map_append, List.map_singleton, join_snoc _ _ _ h2, List.append_assoc]
theorem joined_first {l : List ByteArray} {x : ByteArray} (h : l[0]? = some x) : joined (l.take 1) = x := by
  cases l with
  | nil => cases h
  | cons y r => simp at h; subst h; exact joined_one y
theorem joined_take {l : List ByteArray} {k : Nat} {x : ByteArray} (h : l[k]? = some x) (h0 : 0 < k) : joined (l.take (k + 1)) = joined (l.take k) ++ ⟨#[44, 32]⟩ ++ x := by
  rw [take_snoc h]
  refine joined_snoc x fun e => ?_
  have := (List.getElem?_eq_some_iff.1 h).1
  have h2 := congrArg List.length e
  rw [List.length_take, List.length_nil] at h2
  omega
theorem joinTail_size {c : Nat} : ∀ r : List ByteArray, (∀ x ∈ r, x.size ≤ c) → (Lib.joinTail [44, 32] (r.map (·.data.toList))).length ≤ r.length * (c + 2)
  | [], _ => by simp [Lib.joinTail]
  | x :: r, h => by
    have h1 := joinTail_size r (fun y hy => h y (by simp [hy]))
    have h2 := h x (by simp)
    rw [ba_size] at h2
    simp only [Lib.joinTail, List.map_cons, List.flatten_cons, List.length_append, List.length_cons, List.length_nil] at h1 ⊢
    rw [Nat.succ_mul]
    omega
theorem joined_size {c : Nat} (l : List ByteArray) (h : ∀ x ∈ l, x.size ≤ c) : (joined l).size ≤ l.length * (c + 2) := by
  cases l with
  | nil => rw [joined_nil]; exact Nat.zero_le _
  | cons x r =>
    have h1 := joinTail_size r (fun y hy => h y (by simp [hy]))
    have h2 := h x (by simp)
    rw [ba_size] at h2
    rw [ba_size, joined, ba_of, List.map_cons, Lib.join_cons, List.length_append, List.length_cons, Nat.succ_mul]
    omega

end Go.Proofs.YtjaladhdnbhliaaGreatDoor
