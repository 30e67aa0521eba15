/- Rows that a function owns: from a row to the list that it stands for, and back. -/
import Derived.Test.YtejiaimcgmpliaaData
import Derived.Laws.OwnMore
import Derived.Maps.AppendAt
namespace Go.Proofs.Ytejiaimcgmpliaa
open Go.RowKit Go.Shelf

/-- Rows of one length, laid one after another. -/
theorem laid {n sz : Nat} (f : Nat → List Value) (hf : ∀ i, i < n → (f i).length = sz) :
    ((List.range n).flatMap f).length = n * sz ∧ ∀ i j, i < n → j < sz → ((List.range n).flatMap f)[i * sz + j]? = (f i)[j]? := by
  induction n with
  | zero => simp
  | succ n ih =>
    obtain ⟨h1, h2⟩ := ih (fun i hi => hf i (by omega))
    rw [List.range_succ, List.flatMap_append]
    simp only [List.flatMap_cons, List.flatMap_nil, List.append_nil]
    refine ⟨by rw [List.length_append, h1, hf n (by omega), Nat.succ_mul], fun i j hi hj => ?_⟩
    by_cases hin : i < n
    · have h3 : i * sz + j < n * sz := by
        have := Nat.mul_le_mul_right sz (show i + 1 ≤ n from hin)
        rw [Nat.succ_mul] at this; omega
      rw [List.getElem?_append_left (by rw [h1]; exact h3)]
      exact h2 i j hin hj
    · obtain rfl : i = n := by omega
      rw [List.getElem?_append_right (by rw [h1]; omega), h1, Nat.add_sub_cancel_left]

/-- Cells that stand for a list, an element after another. -/
def RowsR {α : Type} (R : CR α) (sz : Nat) (w : World) (F : Foot) (xs : List Value) (l : List α) : Prop :=
  xs.length = l.length * sz ∧ ∀ i x, l[i]? = some x → ∃ cs : List Value, cs.length = sz ∧ R w F cs x ∧ ∀ j u, cs[j]? = some u → xs[i * sz + j]? = some u

section
variable {α : Type} {R : CR α} {sz by_ : Nat} {F F' : Foot} {w w' : World} {v : Value} {l m : List α} {xs ys : List Value}

theorem RowsR.stays (hR : Stays R) (h : RowsR R sz w F xs l) (hF : ∀ k, F k → F' k) (hk : Keeps F w w') : RowsR R sz w' F' xs l :=
  ⟨h.1, fun i x hi => by obtain ⟨cs, h1, h2, h3⟩ := h.2 i x hi; exact ⟨cs, h1, hR _ _ _ _ _ _ h2 hF hk, h3⟩⟩
theorem RowsR.nil_ : RowsR R sz w F [] ([] : List α) := ⟨by simp, fun i x h => by simp at h⟩
theorem RowsR.one {cs : List Value} {x : α} (hl : cs.length = sz) (h : R w F cs x) : RowsR R sz w F cs [x] :=
  ⟨by simp [hl], fun i y hy => by
    cases i with
    | zero => simp at hy; subst hy; exact ⟨cs, hl, h, fun j u hj => by simpa using hj⟩
    | succ i => simp at hy⟩
theorem RowsR.append (h : RowsR R sz w F xs l) (k : RowsR R sz w F ys m) : RowsR R sz w F (xs ++ ys) (l ++ m) := by
  refine ⟨by rw [List.length_append, List.length_append, h.1, k.1, Nat.add_mul], fun i x hi => ?_⟩
  by_cases hil : i < l.length
  · rw [List.getElem?_append_left hil] at hi
    obtain ⟨cs, h1, h2, h3⟩ := h.2 i x hi
    refine ⟨cs, h1, h2, fun j u hj => ?_⟩
    have := h3 j u hj
    have hlt : i * sz + j < xs.length := (List.getElem?_eq_some_iff.1 this).1
    rw [List.getElem?_append_left hlt]; exact this
  · rw [List.getElem?_append_right (by omega)] at hi
    obtain ⟨cs, h1, h2, h3⟩ := k.2 _ x hi
    refine ⟨cs, h1, h2, fun j u hj => ?_⟩
    have hle : l.length * sz ≤ i * sz := Nat.mul_le_mul_right _ (by omega)
    rw [List.getElem?_append_right (by rw [h.1]; omega), h.1, show i * sz + j - l.length * sz = (i - l.length) * sz + j by rw [Nat.sub_mul]; omega]
    exact h3 j u hj

/-- The cells behind a slice, as a row. -/
theorem SliceOf.rows {ad : Addr} {n cap : Nat} (h : SliceOf R sz by_ w F (.slice (some ad) n cap) l) (hone : ∀ cs x, R w F cs x → ∀ u ∈ cs, u.oneCell' = true) :
    ∃ xs, RowsR R sz w F xs l ∧ (∀ j u, xs[j]? = some u → w.cell? (ad.add j) = some u) ∧ ∀ u ∈ xs, u.oneCell' = true := by
  obtain ⟨A, cap', e, h1, h2, h3, h3', h4⟩ := h
  injection e with e1 e2 e3
  subst e1
  by_cases hl : 0 < l.length
  · obtain ⟨b, off, hA, hb, hx⟩ := h4 hl
    injection hA with hA
    subst hA
    have hex : ∀ i, ∃ cs : List Value, ∀ x, l[i]? = some x → cs.length = sz ∧ R w F cs x ∧ ∀ j u, cs[j]? = some u → w.cell? ⟨b, off + i * sz + j, none⟩ = some u := fun i => by
      cases hi : l[i]? with
      | none => exact ⟨[], fun x h => by cases h⟩
      | some y => obtain ⟨cs, k1, k2, k3⟩ := hx i y hi; exact ⟨cs, fun x h => by injection h with h; subst h; exact ⟨k1, k2, k3⟩⟩
    obtain ⟨f, hf⟩ := Classical.axiomOfChoice hex
    have hlen : ∀ i, i < l.length → (f i).length = sz := fun i hi => (hf i _ (List.getElem?_eq_getElem hi)).1
    obtain ⟨q1, q2⟩ := laid f hlen
    refine ⟨(List.range l.length).flatMap f, ⟨q1, fun i x hi => ?_⟩, fun j u hj => ?_, fun u hu => ?_⟩
    · obtain ⟨k1, k2, k3⟩ := hf i x hi
      refine ⟨f i, k1, k2, fun j u hj => ?_⟩
      have hjs : j < sz := by have := (List.getElem?_eq_some_iff.1 hj).1; omega
      rw [q2 i j (List.getElem?_eq_some_iff.1 hi).1 hjs]; exact hj
    · have hj' : j < l.length * sz := by have := (List.getElem?_eq_some_iff.1 hj).1; omega
      have hsz : 0 < sz := Nat.pos_of_ne_zero (by rintro rfl; simp at hj')
      have hi : j / sz < l.length := Nat.div_lt_of_lt_mul (by rw [Nat.mul_comm]; exact hj')
      have hr : j % sz < sz := Nat.mod_lt _ hsz
      have hsum : j / sz * sz + j % sz = j := by rw [Nat.mul_comm]; exact Nat.div_add_mod j sz
      rw [← hsum, q2 _ _ hi hr] at hj
      have := (hf _ _ (List.getElem?_eq_getElem hi)).2.2 _ _ hj
      rw [Nat.add_assoc, hsum] at this
      unfold Addr.add
      split
      · next h0 => subst h0; exact this
      · exact this
    · obtain ⟨i, hi, hu⟩ := List.mem_flatMap.1 hu
      exact hone _ _ (hf i _ (List.getElem?_eq_getElem (List.mem_range.1 hi))).2.1 u hu
  · have hl0 : l = [] := List.length_eq_zero_iff.1 (by omega)
    subst hl0
    exact ⟨[], RowsR.nil_, fun j u hj => by simp at hj, fun u hu => by simp at hu⟩

/-- A row that the function owns stands for a list. -/
theorem sliceOf_own {base : Nat} {e : TypeId} {n : Nat} (h : w.ownsRow base e sz v n xs) (hn : n = l.length) (hr : RowsR R sz w F xs l) (hF : ∀ g, v.ownBlock = some g → F g)
    (hb : l.length * by_ ≤ 140737488355328) (hl : l.length ≤ 140737488355328) : SliceOf R sz by_ w F v l := by
  subst hn
  obtain ⟨h1, h2⟩ := h
  rcases h2 with ⟨rfl, h0⟩ | ⟨g, cap, cur, rfl, hg, hcell, hc, hm, hs, hxs⟩
  · have hl0 : l = [] := List.length_eq_zero_iff.1 h0
    subst hl0
    exact SliceOf.nil_
  · refine ⟨_, cap, rfl, hc, hm, hb, hl, fun _ => ⟨g, 0, rfl, hF g rfl, fun i x hi => ?_⟩⟩
    obtain ⟨cs, k1, k2, k3⟩ := hr.2 i x hi
    refine ⟨cs, k1, k2, fun j u hj => ?_⟩
    have hx := k3 j u hj
    rw [← hxs] at hx
    have hx' : cur.toList[i * sz + j]? = some u := by
      rw [List.getElem?_take] at hx
      split at hx
      · exact hx
      · cases hx
    simp only [World.cell?, hcell, Nat.zero_add]
    simpa using hx'
end

end Go.Proofs.Ytejiaimcgmpliaa
