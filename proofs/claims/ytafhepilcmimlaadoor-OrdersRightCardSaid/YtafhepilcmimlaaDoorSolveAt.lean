/- What a type is: what (*alias.solver).solve is asked, and says. -/
import Derived.Test.YtafhepilcmimlaaDoorSolvePlain
import Derived.Test.YtafhepilcmimlaaDoorBase
import Derived.Test.YtafhepilcmimlaaDoorMay
import Derived.Test.YtafhepilcmimlaaDoorTreeChk4
import Derived.Deep.RegionHeld3
import Derived.Deep.DeepMust
import Derived.Deep.QuietTactic
import Derived.BigQuiet
import Derived.WalkSmall
import Derived.Handy
namespace Go.Proofs.YtafhepilcmimlaaDoor
open Go.RowKit Go.Shelf

theorem tyErr_cases {f : Nat} {k : Int} {o nm : ByteArray} {args : List Ty} (h : tyErr (f + 1) (.mk k o nm args) = 0) :
    k = 1 ∨ k = 2 ∨ (k = 3 ∧ ∃ a, args = [a] ∧ tyErr f a = 0) ∨ (k = 4 ∧ nameOk nm = true) := by
  unfold tyErr at h
  split at h
  · cases h
  · next hk =>
    split at h
    · next h3 =>
      right; right; left
      refine ⟨h3, ?_⟩
      match args, h with
      | [a], h =>
        simp only at h
        split at h
        · exact ⟨a, rfl, h⟩
        · cases h
      | [], h => cases h
      | _ :: _ :: _, h => cases h
    · next h3 =>
      split at h
      · cases h
      · split at h
        · next h4 =>
          right; right; right
          refine ⟨h4, ?_⟩
          split at h
          · next hh => exact hh.1
          · cases h
        · next h4 => omega
theorem nameOk_pos {s : ByteArray} (h : nameOk s = true) : s.size ≠ 0 := by
  intro h0
  rw [nameOk, wordOk_nil h0] at h; cases h
theorem ret_si {a b : ByteArray} {x y : Int} (h : a = b) (h2 : x = y) : Ending.returned (.tuple #[.string a, .int .i64 x]) = .returned (.tuple #[.string b, .int .i64 y]) := by rw [h, h2]

theorem SliceOf.mono_R {α : Type} {R R' : CR α} {sz by_ : Nat} {w : World} {F : Foot} {v : Value} {l : List α} (h : SliceOf R sz by_ w F v l) (hr : ∀ cs x, R w F cs x → R' w F cs x) : SliceOf R' sz by_ w F v l := by
  obtain ⟨A, cap, e, h1, h2, h3, h3', h4⟩ := h
  refine ⟨A, cap, e, h1, h2, h3, h3', fun hl => ?_⟩
  obtain ⟨b, off, hA, hb, hx⟩ := h4 hl
  refine ⟨b, off, hA, hb, fun i x hi => ?_⟩
  obtain ⟨cs, hc, hr', hcell⟩ := hx i x hi
  exact ⟨cs, hc, hr _ _ hr', hcell⟩
theorem from_rising {m : Module} {l : List Import} (h : importsErr l = 0) (o : ByteArray) : Rising Known.name (fromFace m l o).types := by
  unfold fromFace
  split
  · next x hx =>
    have hx := from_mem hx
    unfold importsErr at h
    by_cases h24 : 24 < l.length
    · rw [if_pos h24] at h; cases h
    · rw [if_neg h24] at h
      have hb := itemErr_good (firstErr_zero h) x hx
      have hf : faceErr x.face = 0 := by
        refine Classical.byContradiction fun hne => ?_
        by_cases hn : nameOk x.name = false
        · rw [importBad_name hn] at hb; exact absurd hb (by decide)
        · rw [importBad_face (by simpa using hn) rfl hne] at hb; exact hne hb
      exact (face_rising hf).1
  · intro i x y h; simp [noFace] at h

theorem mod_zero {m : Module} (h : modErr m = 0) : eachErr fieldErr m.types = 0 ∧ eachErr funErr m.funcs = 0 := by
  have hs := modErr_small h
  unfold modErr at h
  rw [if_neg (by omega)] at h
  by_cases h1 : eachErr useErr m.uses = 0
  · rw [if_neg (by simp [h1])] at h
    by_cases h2 : eachErr fieldErr m.types = 0
    · rw [if_neg (by simp [h2])] at h; exact ⟨h2, h⟩
    · rw [if_pos h2] at h; exact absurd h h2
  · rw [if_pos h1] at h; exact absurd h h1
theorem fieldErr_fine {x : Field} (h : fieldErr x = 0) : nameOk x.name = true ∧ tyErr 10 x.is_ = 0 := by
  unfold fieldErr at h
  split at h
  · next hn => exact ⟨hn, h⟩
  · cases h
theorem mod_types {m : Module} (h : modErr m = 0) : ∀ x ∈ m.types, tyErr 10 x.is_ = 0 := fun x hx => (fieldErr_fine (eachErr_zero (mod_zero h).1 x hx)).2
theorem find_of {α : Type} {p : α → Bool} {l : List α} {k : Nat} {x : α} (hx : l[k]? = some x) (h : p x = true) (hb : ∀ j, j < k → ∀ y, l[j]? = some y → p y = false) : l.find? p = some x := by
  rw [List.find?_eq_some_iff_getElem]
  obtain ⟨hk, rfl⟩ := List.getElem?_eq_some_iff.1 hx
  refine ⟨h, k, hk, rfl, fun j hj => ?_⟩
  simp [hb j hj _ (List.getElem?_eq_getElem (by omega))]
theorem find_no {α : Type} {p : α → Bool} {l : List α} (hb : ∀ j, j < l.length → ∀ y, l[j]? = some y → p y = false) : l.find? p = none := by
  rw [List.find?_eq_none]
  intro y hy
  obtain ⟨j, hj, rfl⟩ := List.mem_iff_getElem.1 hy
  simp [hb j hj _ (List.getElem?_eq_getElem hj)]

end Go.Proofs.YtafhepilcmimlaaDoor
