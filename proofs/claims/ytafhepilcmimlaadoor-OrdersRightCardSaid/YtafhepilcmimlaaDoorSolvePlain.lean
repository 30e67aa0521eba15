/- What a type is: as text, or what is wrong. Plain facts. -/
import Derived.Test.YtafhepilcmimlaaDoorAliasFrom
import Derived.Test.YtafhepilcmimlaaDoorFaceFind
import Derived.Test.YtafhepilcmimlaaDoorGraphPlain
import Derived.Test.YtafhepilcmimlaaDoorImpErr
namespace Go.Proofs.YtafhepilcmimlaaDoor
open Go.RowKit

def fieldIs (t : ByteArray) (x : Field) : Bool := eqB x.name t
def starS : ByteArray := ⟨#[42]⟩
/-- A type's text, or what is wrong; names that are being solved. -/
def solveN (m : Module) (l : List Import) : Nat → ByteArray → List ByteArray → Ty → ByteArray × Int
  | 0, _, _, _ => (⟨#[]⟩, 0)
  | n + 1, v, us, .mk k o nm args =>
    if k = 1 then (kwInt, 0)
    else if k = 2 then (kwText, 0)
    else if k = 3 then (match args with
      | [] => (⟨#[]⟩, 0)
      | a :: _ => if (solveN m l n v us a).2 ≠ 0 then (⟨#[]⟩, (solveN m l n v us a).2) else if listErr (solveN m l n v us a).1 ≠ 0 then (⟨#[]⟩, 5) else (listTxt (solveN m l n v us a).1, 0))
    else if o.size ≠ 0 then (if fromIs m l o = true ∧ (typeIn (fromFace m l o).types nm).2 = 0 then ((typeIn (fromFace m l o).types nm).1, 0) else (⟨#[]⟩, 5))
    else if nm = v then (starS, 0)
    else match m.types.find? (fieldIs nm) with
      | none => (⟨#[]⟩, 5)
      | some f => if hasS us nm = true then (⟨#[]⟩, 2) else solveN m l n ⟨#[]⟩ (us ++ [nm]) f.is_

section
variable {m : Module} {l : List Import} {n : Nat} {v nm o : ByteArray} {us : List ByteArray} {args : List Ty} {k : Int}
theorem solve_int : solveN m l (n + 1) v us (.mk 1 o nm args) = (kwInt, 0) := by unfold solveN; rw [if_pos rfl]
theorem solve_text : solveN m l (n + 1) v us (.mk 2 o nm args) = (kwText, 0) := by unfold solveN; rw [if_neg (by decide), if_pos rfl]
theorem solve_list (a : Ty) : solveN m l (n + 1) v us (.mk 3 o nm [a]) = if (solveN m l n v us a).2 ≠ 0 then (⟨#[]⟩, (solveN m l n v us a).2) else if listErr (solveN m l n v us a).1 ≠ 0 then (⟨#[]⟩, 5) else (listTxt (solveN m l n v us a).1, 0) := by
  conv => lhs; unfold solveN
  rw [if_neg (by decide), if_neg (by decide), if_pos rfl]
theorem solve_of (h : o.size ≠ 0) : solveN m l (n + 1) v us (.mk 4 o nm args) = if fromIs m l o = true ∧ (typeIn (fromFace m l o).types nm).2 = 0 then ((typeIn (fromFace m l o).types nm).1, 0) else (⟨#[]⟩, 5) := by
  conv => lhs; unfold solveN
  rw [if_neg (by decide), if_neg (by decide), if_neg (by decide), if_pos h]
theorem solve_var (h : o.size = 0) (hv : nm = v) : solveN m l (n + 1) v us (.mk 4 o nm args) = (starS, 0) := by
  conv => lhs; unfold solveN
  rw [if_neg (by decide), if_neg (by decide), if_neg (by decide), if_neg (by simp [h]), if_pos hv]
theorem solve_none (h : o.size = 0) (hv : nm ≠ v) (hf : m.types.find? (fieldIs nm) = none) : solveN m l (n + 1) v us (.mk 4 o nm args) = (⟨#[]⟩, 5) := by
  conv => lhs; unfold solveN
  rw [if_neg (by decide), if_neg (by decide), if_neg (by decide), if_neg (by simp [h]), if_neg hv, hf]
theorem solve_round {f : Field} (h : o.size = 0) (hv : nm ≠ v) (hf : m.types.find? (fieldIs nm) = some f) (hu : hasS us nm = true) : solveN m l (n + 1) v us (.mk 4 o nm args) = (⟨#[]⟩, 2) := by
  conv => lhs; unfold solveN
  rw [if_neg (by decide), if_neg (by decide), if_neg (by decide), if_neg (by simp [h]), if_neg hv, hf]
  simp only [hu, if_true]
theorem solve_next {f : Field} (h : o.size = 0) (hv : nm ≠ v) (hf : m.types.find? (fieldIs nm) = some f) (hu : hasS us nm = false) : solveN m l (n + 1) v us (.mk 4 o nm args) = solveN m l n ⟨#[]⟩ (us ++ [nm]) f.is_ := by
  conv => lhs; unfold solveN
  rw [if_neg (by decide), if_neg (by decide), if_neg (by decide), if_neg (by simp [h]), if_neg hv, hf]
  simp only [hu, Bool.false_eq_true, if_false]
end

/-- How many of a module's types are not being solved. -/
def freeOf (m : Module) (us : List ByteArray) : Nat := m.types.countP fun x => !(hasS us x.name)
theorem hasS_snoc (us : List ByteArray) (x y : ByteArray) : hasS (us ++ [x]) y = (hasS us y || isS y x) := by simp [hasS]
theorem free_less {m : Module} {us : List ByteArray} {nm : ByteArray} {f : Field} (hf : m.types.find? (fieldIs nm) = some f) (hu : hasS us nm = false) : freeOf m (us ++ [nm]) + 1 ≤ freeOf m us := by
  have hn : f.name = nm := by
    have h := List.find?_some hf
    unfold fieldIs at h
    rw [eqB_iff] at h
    exact of_decide_eq_true h
  refine countP_lt (fun x _ h => ?_) ⟨f, List.mem_of_find?_eq_some hf, ?_, ?_⟩
  · rw [hasS_snoc] at h
    cases hx : hasS us x.name
    · rfl
    · rw [hx] at h; cases h
  · rw [hasS_snoc, hn]; simp [isS]
  · rw [hn, hu]; rfl

/-- All texts of imports are small. -/
def SmallTexts (l : List Import) : Prop := ∀ x ∈ l, ∀ y ∈ x.face.types, y.is_.size ≤ 600
theorem small_of_err {l : List Import} (h : importsErr l = 0) : SmallTexts l := by
  intro x hx y hy
  unfold importsErr at h
  by_cases h24 : 24 < l.length
  · rw [if_pos h24] at h; cases h
  · rw [if_neg h24] at h
    have hb := itemErr_good (firstErr_zero h) x hx
    have hf : faceErr x.face = 0 := by
      refine Classical.byContradiction fun hne => ?_
      by_cases hn : nameOk x.name = false
      · rw [importBad_name hn] at hb; exact absurd hb (by decide)
      · rw [importBad_face (by simpa using hn) rfl hne] at hb; exact hne hb
    have hk := (face_rising hf).2.2.1 y hy
    unfold knownBad at hk
    by_cases h600 : 600 < y.is_.size
    · have : kindErr y.is_ = 1 := by unfold kindErr; rw [if_pos h600]
      rw [this] at hk
      simp at hk
    · omega
theorem listTxt_size {s : ByteArray} (h : listErr s = 0) : (listTxt s).size ≤ 600 := by
  unfold listErr at h
  unfold listTxt
  by_cases h0 : kindErr s = 0
  · rw [if_pos h0] at h ⊢
    by_cases h1 : 598 < s.size
    · rw [if_pos h1] at h; cases h
    · rw [if_neg h1]
      simp [listOf, ByteArray.size_append]
      show 1 + s.size + 1 ≤ 600
      omega
  · rw [if_neg h0] at h; exact absurd h h0
theorem from_mem {m : Module} {l : List Import} {t : ByteArray} {x : Import} (h : fromOf m l t = some x) : x ∈ l := by
  unfold fromOf at h
  split at h
  · exact List.mem_of_find?_eq_some h
  · cases h
theorem typeIn_small {m : Module} {l : List Import} (h : SmallTexts l) (o nm : ByteArray) : (typeIn (fromFace m l o).types nm).1.size ≤ 600 := by
  unfold typeIn
  split
  · next x hx =>
    unfold fromFace at hx
    split at hx
    · next y hy => exact h y (from_mem hy) x (List.mem_of_find?_eq_some hx)
    · cases hx
  · exact Nat.zero_le _
theorem solve_small {m : Module} {l : List Import} (h : SmallTexts l) : ∀ (n : Nat) (v : ByteArray) (us : List ByteArray) (t : Ty), (solveN m l n v us t).1.size ≤ 600
  | 0, _, _, _ => Nat.zero_le _
  | n + 1, v, us, .mk k o nm args => by
    unfold solveN
    split
    · decide
    · split
      · decide
      · split
        · split
          · exact Nat.zero_le _
          · split
            · exact Nat.zero_le _
            · next hh => split
                         · exact Nat.zero_le _
                         · next h3 => exact listTxt_size (by simpa using h3)
        · split
          · split
            · exact typeIn_small h o nm
            · exact Nat.zero_le _
          · split
            · decide
            · split
              · exact Nat.zero_le _
              · split
                · exact Nat.zero_le _
                · exact solve_small h n _ _ _

/-- What is solved is the same, however much room there is. -/
theorem solve_more {m : Module} {l : List Import} (hm : ∀ x ∈ m.types, tyErr 10 x.is_ = 0) : ∀ (n n' f : Nat) (v : ByteArray) (us : List ByteArray) (t : Ty), tyErr f t = 0 → f ≤ 10 → f + 11 * freeOf m us ≤ n → f + 11 * freeOf m us ≤ n' → solveN m l n v us t = solveN m l n' v us t
  | 0, _, 0, _, _, _, h, _, _, _ => by cases h
  | 0, _, f + 1, _, _, _, _, _, h, _ => by omega
  | _ + 1, 0, 0, _, _, _, h, _, _, _ => by cases h
  | _ + 1, 0, f + 1, _, _, _, _, _, _, h => by omega
  | _ + 1, _ + 1, 0, _, _, _, h, _, _, _ => by cases h
  | n + 1, n' + 1, f + 1, v, us, .mk k o nm args, h, hf, h1, h2 => by
    have ih := fun v a (h : tyErr f a = 0) => solve_more (l := l) hm n n' f v us a h (by omega) (by omega) (by omega)
    have hlist : k = 3 → ∀ a rs, args = a :: rs → solveN m l n v us a = solveN m l n' v us a := by
      rintro rfl a rs rfl
      refine ih v a ?_
      unfold tyErr at h
      rw [if_neg (by omega), if_pos rfl] at h
      cases rs with
      | nil =>
        simp only at h
        split at h
        · exact h
        · cases h
      | cons b rs => simp only at h; cases h
    unfold solveN
    split
    · rfl
    · split
      · rfl
      · split
        · next hk3 =>
          cases args with
          | nil => rfl
          | cons a rs => simp only [hlist hk3 a rs rfl]
        · split
          · rfl
          · split
            · rfl
            · cases hfd : m.types.find? (fieldIs nm) with
              | none => rfl
              | some fl =>
                simp only
                cases hu : hasS us nm with
                | true => rfl
                | false =>
                  simp only [Bool.false_eq_true, if_false]
                  have := free_less hfd hu
                  exact solve_more hm n n' 10 _ _ _ (hm fl (List.mem_of_find?_eq_some hfd)) (Nat.le_refl _) (by omega) (by omega)

end Go.Proofs.YtafhepilcmimlaaDoor
