/- What is wrong with a face: the reference's FaceFault, IsOpen. -/
import Derived.Test.YtafhepilcmimlaaGreatDoorBase
import Derived.Test.YtafhepilcmimlaaGreatDoorName
import Derived.Test.YtafhepilcmimlaaGreatDoorKind
import Derived.Test.YtafhepilcmimlaaGreatDoorFaceEq2
import Derived.Deep.QuietTactic
import Derived.BigQuiet
import Derived.Deep.DeepCutAuto
import Derived.Deep.Light
import Derived.Handy
namespace Go.Proofs.YtafhepilcmimlaaGreatDoor
open Go.RowKit Go.Shelf

def starByte (c : UInt8) : Bool := decide (c.toNat = 42)
/-- Has a kind a variable? -/
def openB (s : ByteArray) : Bool := s.data.toList.any starByte

/-- What is wrong with one type, one function of a face. -/
def knownBad (x : Known) : Int := if nameOk x.name && (decide (kindErr x.is_ = 0) && !(openB x.is_)) then 0 else 4
def paramBad (s : ByteArray) : Bool := decide (kindErr s ≠ 0)
def sigBad (x : Sig) : Int := if nameOk x.name && (decide (x.params.length ≤ 8) && (decide (kindErr x.result = 0) && !(x.params.any paramBad))) then 0 else 4
def typesErr (l : List Known) : Int := firstErr (itemErr Known.name knownBad l) l.length
def funcsErr (l : List Sig) : Int := firstErr (itemErr Sig.name sigBad l) l.length
/-- What is wrong with a face; 0: nothing. -/
def faceErr (a : Face) : Int := if 24 < a.types.length + a.funcs.length then 1 else if typesErr a.types = 0 then funcsErr a.funcs else typesErr a.types

theorem typesErr_hit {l : List Known} {k : Nat} {e : Int} (hk : k < l.length) (hb : ∀ j, j < k → itemErr Known.name knownBad l j = 0) (h : itemErr Known.name knownBad l k = e) (h0 : e ≠ 0) : typesErr l = e := by
  rw [typesErr, firstErr_hit hk hb (by rw [h]; exact h0), h]
theorem funcsErr_hit {l : List Sig} {k : Nat} {e : Int} (hk : k < l.length) (hb : ∀ j, j < k → itemErr Sig.name sigBad l j = 0) (h : itemErr Sig.name sigBad l k = e) (h0 : e ≠ 0) : funcsErr l = e := by
  rw [funcsErr, firstErr_hit hk hb (by rw [h]; exact h0), h]
theorem faceErr_types {a : Face} {e : Int} (h24 : ¬ 24 < a.types.length + a.funcs.length) (h : typesErr a.types = e) (h0 : e ≠ 0) : faceErr a = e := by
  subst h
  unfold faceErr
  rw [if_neg h24, if_neg h0]
theorem faceErr_funcs {a : Face} {e : Int} (h24 : ¬ 24 < a.types.length + a.funcs.length) (h : typesErr a.types = 0) (he : funcsErr a.funcs = e) : faceErr a = e := by
  unfold faceErr
  rw [if_neg h24, if_pos h, he]
theorem knownBad_no {x : Known} (h : nameOk x.name = false ∨ kindErr x.is_ ≠ 0 ∨ openB x.is_ = true) : knownBad x = 4 := by
  unfold knownBad
  rcases h with h | h | h <;> simp [h]
theorem knownBad_ok {x : Known} (h1 : nameOk x.name = true) (h2 : kindErr x.is_ = 0) (h3 : openB x.is_ = false) : knownBad x = 0 := by
  unfold knownBad
  simp [h1, h2, h3]
theorem sigBad_no {x : Sig} (h : nameOk x.name = false ∨ kindErr x.result ≠ 0 ∨ 8 < x.params.length ∨ x.params.any paramBad = true) : sigBad x = 4 := by
  unfold sigBad
  rcases h with h | h | h | h
  · simp [h]
  · simp [h]
  · simp [show ¬ x.params.length ≤ 8 by omega]
  · rw [h]; simp
theorem sigBad_ok {x : Sig} (h1 : nameOk x.name = true) (h2 : kindErr x.result = 0) (h3 : x.params.length ≤ 8) (h4 : x.params.any paramBad = false) : sigBad x = 0 := by
  unfold sigBad
  simp [h1, h2, h3, h4]
theorem sigBad_eq (x : Sig) : sigBad x = if ((!(nameOk x.name) || (decide (kindErr x.result ≠ 0) || decide (8 < x.params.length))) || x.params.any paramBad) = true then 4 else 0 := by
  unfold sigBad
  by_cases h2 : kindErr x.result = 0 <;> by_cases h3 : x.params.length ≤ 8 <;> cases nameOk x.name <;> cases x.params.any paramBad <;> simp [h2, h3] <;> omega
theorem any_take_succ {α : Type} {p : α → Bool} {l : List α} {k : Nat} {x : α} (hx : l[k]? = some x) : (l.take (k + 1)).any p = ((l.take k).any p || p x) := by
  rw [List.take_add_one, hx]
  simp

end Go.Proofs.YtafhepilcmimlaaGreatDoor
