/- A face as text. Plain facts. -/
import Derived.Test.YtoejhgbndehaiaaBytes
import Derived.Test.YtoejhgbndehaiaaFaceFind
namespace Go.Proofs.Ytoejhgbndehaiaa
open Go.RowKit

def knownLine (x : Known) : ByteArray := ⟨#[116, 121, 112, 101, 32]⟩ ++ x.name ++ ⟨#[32, 61, 32]⟩ ++ x.is_ ++ ⟨#[10]⟩
def sigLine (x : Sig) : ByteArray := ⟨#[102, 117, 110, 99, 32]⟩ ++ x.name ++ ⟨#[40]⟩ ++ joined x.params ++ ⟨#[41, 58, 32]⟩ ++ x.result ++ ⟨#[10]⟩
def typesTxt (l : List Known) : ByteArray := cat (l.map knownLine)
def funcsTxt (l : List Sig) : ByteArray := cat (l.map sigLine)
def faceTxt (a : Face) : ByteArray := typesTxt a.types ++ funcsTxt a.funcs

theorem nameOk_size {s : ByteArray} (h : nameOk s = true) : s.size ≤ 8 := by
  unfold nameOk wordOk at h
  split at h
  · cases h
  · simp at h
    exact h.1.1
theorem kindErr_size {s : ByteArray} (h : kindErr s = 0) : s.size ≤ 600 := by
  unfold kindErr at h
  split at h
  · cases h
  · omega
theorem known_parts {x : Known} (h : knownBad x = 0) : x.name.size ≤ 8 ∧ x.is_.size ≤ 600 := by
  unfold knownBad at h
  split at h
  · next hh =>
    simp at hh
    exact ⟨nameOk_size hh.1, kindErr_size hh.2.1⟩
  · cases h
theorem known_small {x : Known} (h : knownBad x = 0) : (knownLine x).size ≤ 700 := by
  unfold knownBad at h
  split at h
  · next hh =>
    simp at hh
    have h1 := nameOk_size hh.1
    have h2 := kindErr_size hh.2.1
    simp only [knownLine, ba_app_size]
    simp only [show (⟨#[116, 121, 112, 101, 32]⟩ : ByteArray).size = 5 from rfl, show (⟨#[32, 61, 32]⟩ : ByteArray).size = 3 from rfl, show (⟨#[10]⟩ : ByteArray).size = 1 from rfl]
    omega
  · cases h
theorem sig_parts {x : Sig} (h : sigBad x = 0) : x.name.size ≤ 8 ∧ x.result.size ≤ 600 ∧ x.params.length ≤ 8 ∧ ∀ p ∈ x.params, p.size ≤ 600 := by
  unfold sigBad at h
  split at h
  · next hh =>
    simp [paramBad] at hh
    exact ⟨nameOk_size hh.1, kindErr_size hh.2.2.1, hh.2.1, fun p hp => kindErr_size (hh.2.2.2 p hp)⟩
  · cases h
theorem params_small {x : Sig} (h : sigBad x = 0) : (joined x.params).size ≤ 8 * 602 := by
  obtain ⟨_, _, h3, h4⟩ := sig_parts h
  have h5 := joined_size x.params h4
  exact Nat.le_trans h5 (Nat.mul_le_mul_right _ h3)
theorem sig_small {x : Sig} (h : sigBad x = 0) : (sigLine x).size ≤ 7000 := by
  obtain ⟨h1, h2, h3, h4⟩ := sig_parts h
  have h5 := params_small h
  simp only [sigLine, ba_app_size]
  simp only [show (⟨#[102, 117, 110, 99, 32]⟩ : ByteArray).size = 5 from rfl, show (⟨#[40]⟩ : ByteArray).size = 1 from rfl, show (⟨#[41, 58, 32]⟩ : ByteArray).size = 3 from rfl, show (⟨#[10]⟩ : ByteArray).size = 1 from rfl]
  omega
theorem types_small {a : Face} (h : faceErr a = 0) (k : Nat) : (typesTxt (a.types.take k)).size ≤ 24 * 700 := by
  have h24 : a.types.length + a.funcs.length ≤ 24 := by
    unfold faceErr at h
    split at h
    · cases h
    · omega
  have h1 := cat_size (c := 700) ((a.types.take k).map knownLine) (fun x hx => by
    obtain ⟨y, hy, rfl⟩ := List.mem_map.1 hx
    exact known_small ((face_rising h).2.2.1 y (List.mem_of_mem_take hy)))
  rw [List.length_map, List.length_take] at h1
  exact Nat.le_trans h1 (Nat.mul_le_mul_right _ (by omega))
theorem funcs_small {a : Face} (h : faceErr a = 0) (k : Nat) : (funcsTxt (a.funcs.take k)).size ≤ 24 * 7000 := by
  have h24 : a.types.length + a.funcs.length ≤ 24 := by
    unfold faceErr at h
    split at h
    · cases h
    · omega
  have h1 := cat_size (c := 7000) ((a.funcs.take k).map sigLine) (fun x hx => by
    obtain ⟨y, hy, rfl⟩ := List.mem_map.1 hx
    exact sig_small ((face_rising h).2.2.2 y (List.mem_of_mem_take hy)))
  rw [List.length_map, List.length_take] at h1
  exact Nat.le_trans h1 (Nat.mul_le_mul_right _ (by omega))
theorem typesTxt_succ {l : List Known} {k : Nat} {x : Known} (h : l[k]? = some x) : typesTxt (l.take (k + 1)) = typesTxt (l.take k) ++ knownLine x := cat_take h
theorem funcsTxt_succ {l : List Sig} {k : Nat} {x : Sig} (h : l[k]? = some x) : funcsTxt (l.take (k + 1)) = funcsTxt (l.take k) ++ sigLine x := cat_take h
theorem faceTxt_data (a : Face) : (⟨((typesTxt a.types).data.toList ++ (funcsTxt a.funcs).data.toList).toArray⟩ : ByteArray) = faceTxt a := ba_ext (by simp only [faceTxt, ba_app, ba_of])
/-- The text that is told. -/
def shownTxt (a : Face) : ByteArray := if faceErr a = 0 then faceTxt a else ⟨#[]⟩

end Go.Proofs.Ytoejhgbndehaiaa
