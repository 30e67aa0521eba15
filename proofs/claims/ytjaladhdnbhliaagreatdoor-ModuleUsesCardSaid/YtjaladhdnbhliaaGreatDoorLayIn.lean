/- Texts that belong together: Insert, RowAt. -/
import Derived.Test.YtjaladhdnbhliaaGreatDoorBase
/- Things laid into a list by their names; a list that is sorted by its names is one. No program is named here. -/
namespace Go.Proofs.YtjaladhdnbhliaaGreatDoor

/-- A thing is laid into a list, by its name. -/
def insBy {α : Type} (f : α → ByteArray) (y : α) : List α → List α
  | [] => [y]
  | x :: xs => if ltS (f y) (f x) = true then y :: x :: xs else x :: insBy f y xs
/-- All of a list are laid in, one by one. -/
def sortBy {α : Type} (f : α → ByteArray) (l : List α) : List α := l.foldl (fun acc y => insBy f y acc) []
/-- One step of the scan that lays a thing in. -/
def insStep {α : Type} (f : α → ByteArray) (y : α) (p : List α × Bool) (x : α) : List α × Bool :=
  if p.2 = false ∧ ltS (f y) (f x) = true then (p.1 ++ [y, x], true) else (p.1 ++ [x], p.2)
def insTo {α : Type} (f : α → ByteArray) (y : α) (l : List α) (k : Nat) : List α × Bool := (l.take k).foldl (insStep f y) ([], false)
/-- Sorted by the names, each once. -/
def Sorted {α : Type} (f : α → ByteArray) (l : List α) : Prop := l.Pairwise fun a b => ltS (f a) (f b) = true

section
variable {α : Type} {f : α → ByteArray} {x y : α} {l l' : List α} {k : Nat}
theorem sortBy_nil : sortBy f ([] : List α) = [] := rfl
theorem sortBy_snoc : sortBy f (l ++ [y]) = insBy f y (sortBy f l) := by simp [sortBy, List.foldl_append]
theorem insTo_zero : insTo f y l 0 = ([], false) := rfl
theorem insTo_succ (hx : l[k]? = some x) : insTo f y l (k + 1) = insStep f y (insTo f y l k) x := by
  unfold insTo
  rw [List.take_add_one, hx, List.foldl_append]
  rfl
theorem insStep_hit (p : List α) (h : ltS (f y) (f x) = true) : insStep f y (p, false) x = (p ++ [y, x], true) := by unfold insStep; rw [if_pos ⟨rfl, h⟩]
theorem insStep_low (p : List α) (h : ltS (f y) (f x) = false) : insStep f y (p, false) x = (p ++ [x], false) := by unfold insStep; rw [if_neg (by simp [h])]
theorem insStep_done (p : List α) : insStep f y (p, true) x = (p ++ [x], true) := by unfold insStep; rw [if_neg (by simp)]
theorem ins_done (p : List α) : ∀ l : List α, l.foldl (insStep f y) (p, true) = (p ++ l, true)
  | [] => by simp
  | x :: l => by rw [List.foldl_cons, insStep_done, ins_done (p ++ [x]) l]; simp
theorem ins_all : ∀ (l p : List α), (if (l.foldl (insStep f y) (p, false)).2 = true then (l.foldl (insStep f y) (p, false)).1 else (l.foldl (insStep f y) (p, false)).1 ++ [y]) = p ++ insBy f y l
  | [], p => by simp [insBy]
  | x :: l, p => by
    rw [List.foldl_cons]
    cases h : ltS (f y) (f x) with
    | true => rw [insStep_hit p h, ins_done]; simp [insBy, h]
    | false => rw [insStep_low p h, ins_all l (p ++ [x])]; simp [insBy, h]
theorem insTo_end_done (h : (insTo f y l l.length).2 = true) : (insTo f y l l.length).1 = insBy f y l := by
  have := ins_all (f := f) (y := y) l []
  unfold insTo at h ⊢
  rw [List.take_length] at h ⊢
  rw [if_pos h] at this
  simpa using this
theorem insTo_end_not (h : (insTo f y l l.length).2 = false) : (insTo f y l l.length).1 ++ [y] = insBy f y l := by
  have := ins_all (f := f) (y := y) l []
  unfold insTo at h ⊢
  rw [List.take_length] at h ⊢
  rw [if_neg (by simp [h])] at this
  simpa using this
theorem insStep_length (p : List α × Bool) : (insStep f y p x).1.length ≤ p.1.length + 2 := by
  unfold insStep
  split <;> simp
theorem insTo_length : ∀ k, (insTo f y l k).1.length ≤ k + (if (insTo f y l k).2 = true then 1 else 0)
  | 0 => by simp [insTo]
  | k + 1 => by
    have ih := insTo_length k
    cases hx : l[k]? with
    | none =>
      have : insTo f y l (k + 1) = insTo f y l k := by
        unfold insTo
        rw [List.take_add_one, hx]
        simp
      rw [this]; omega
    | some x =>
      rw [insTo_succ hx]
      generalize insTo f y l k = p at ih ⊢
      obtain ⟨p, d⟩ := p
      cases d with
      | true => rw [insStep_done]; simp at ih ⊢; omega
      | false =>
        cases h : ltS (f y) (f x) with
        | true => rw [insStep_hit p h]; simp at ih ⊢; omega
        | false => rw [insStep_low p h]; simp at ih ⊢; omega
theorem insTo_small (k : Nat) : (insTo f y l k).1.length ≤ k + 1 := by
  have := insTo_length k (f := f) (y := y) (l := l)
  split at this <;> omega

theorem insBy_perm : ∀ l : List α, (insBy f y l).Perm (y :: l)
  | [] => List.Perm.refl _
  | x :: l => by
    unfold insBy
    split
    · exact List.Perm.refl _
    · exact ((insBy_perm l).cons x).trans (List.Perm.swap y x l)
theorem insBy_length : (insBy f y l).length = l.length + 1 := by rw [(insBy_perm l).length_eq]; rfl
theorem sortBy_perm_acc : ∀ l acc : List α, (l.foldl (fun acc y => insBy f y acc) acc).Perm (l ++ acc)
  | [], acc => List.Perm.refl _
  | x :: l, acc => by
    rw [List.foldl_cons]
    refine (sortBy_perm_acc l _).trans (((insBy_perm acc).append_left l).trans ?_)
    rw [List.cons_append]
    exact List.perm_middle
theorem sortBy_perm (l : List α) : (sortBy f l).Perm l := by
  have := sortBy_perm_acc (f := f) l []
  simpa [sortBy] using this
theorem sortBy_length (l : List α) : (sortBy f l).length = l.length := (sortBy_perm l).length_eq
theorem insBy_sorted : ∀ l : List α, Sorted f l → (∀ x ∈ l, f x ≠ f y) → Sorted f (insBy f y l)
  | [], _, _ => by simp [insBy, Sorted]
  | x :: l, h, hn => by
    have h1 := (List.pairwise_cons.1 h).1
    have h2 := (List.pairwise_cons.1 h).2
    unfold insBy
    split
    · next hh =>
      refine List.pairwise_cons.2 ⟨fun z hz => ?_, h⟩
      rcases List.mem_cons.1 hz with rfl | hz
      · exact hh
      · exact ltS_trans hh (h1 z hz)
    · next hh =>
      have hxy : ltS (f x) (f y) = true := by
        cases hq : ltS (f x) (f y) with
        | true => rfl
        | false => exact absurd (ltS_total hq (by simpa using hh)) (hn x (List.mem_cons_self ..))
      refine List.pairwise_cons.2 ⟨fun z hz => ?_, insBy_sorted l h2 fun z hz => hn z (List.mem_cons_of_mem _ hz)⟩
      rcases List.mem_cons.1 ((insBy_perm l).mem_iff.1 hz) with rfl | hz
      · exact hxy
      · exact h1 z hz
/-- No name twice. -/
def Apart_ {α : Type} (f : α → ByteArray) (l : List α) : Prop := l.Pairwise fun a b => f a ≠ f b
theorem sortBy_sorted_acc : ∀ l acc : List α, Sorted f acc → Apart_ f l → (∀ x ∈ l, ∀ z ∈ acc, f x ≠ f z) → Sorted f (l.foldl (fun acc y => insBy f y acc) acc)
  | [], _, h, _, _ => h
  | x :: l, acc, h, ha, hn => by
    have h1 := (List.pairwise_cons.1 ha).1
    have h2 := (List.pairwise_cons.1 ha).2
    rw [List.foldl_cons]
    refine sortBy_sorted_acc l _ (insBy_sorted acc h fun z hz => (hn x (List.mem_cons_self ..) z hz).symm) h2 fun z hz u hu => ?_
    rcases List.mem_cons.1 ((insBy_perm acc).mem_iff.1 hu) with rfl | hu
    · exact (h1 z hz).symm
    · exact hn z (List.mem_cons_of_mem _ hz) u hu
theorem sortBy_sorted (h : Apart_ f l) : Sorted f (sortBy f l) := sortBy_sorted_acc l [] List.Pairwise.nil h fun _ _ _ hz => absurd hz (List.not_mem_nil)
/-- A list of those things that is sorted, whichever it is, is the one. -/
theorem sorted_one (hp : l'.Perm l) (ha : Apart_ f l) (hs : l'.Pairwise fun a b => ltS (f b) (f a) = false) : l' = sortBy f l := by
  refine List.Perm.eq_of_pairwise (le := fun a b => ltS (f b) (f a) = false) (fun a b ha' hb' h1 h2 => ?_) hs ?_ (hp.trans (sortBy_perm l).symm)
  · have he : f a = f b := ltS_total h2 h1
    refine Classical.byContradiction fun hne => ?_
    have hb := (sortBy_perm (f := f) l).mem_iff.1 hb'
    have ha2 := hp.mem_iff.1 ha'
    obtain ⟨i, hi, rfl⟩ := List.getElem_of_mem ha2
    obtain ⟨j, hj, rfl⟩ := List.getElem_of_mem hb
    have hg := List.pairwise_iff_getElem.1 ha
    rcases Nat.lt_trichotomy i j with e | e | e
    · exact hg i j hi hj e he
    · subst e; exact hne rfl
    · exact hg j i hj hi e he.symm
  · exact (sortBy_sorted ha).imp fun h => ltS_asymm h
theorem Sorted.apart (h : Sorted f l) : Apart_ f l := List.Pairwise.imp (fun h => ltS_ne h) h
theorem Sorted.rising (h : Sorted f l) : Rising f l := fun i x y hx hy => by
  have h1 := (List.getElem?_eq_some_iff.1 hx)
  have h2 := (List.getElem?_eq_some_iff.1 hy)
  obtain ⟨i1, rfl⟩ := h1
  obtain ⟨i2, rfl⟩ := h2
  exact List.pairwise_iff_getElem.1 h i (i + 1) i1 i2 (by omega)
end

end Go.Proofs.YtjaladhdnbhliaaGreatDoor

/- An own row read at a place; the order of texts as the program asks for it. -/
namespace Go.Proofs.YtjaladhdnbhliaaGreatDoor
open Go.RowKit Go.Shelf

theorem gt_ltS (a b : ByteArray) : (!Op.bytesLess a.toList b.toList && !(a.toList == b.toList)) = ltS b a := by
  have h1 : Op.bytesLess a.toList b.toList = ltS a b := rfl
  rw [h1]
  cases h : ltS b a with
  | true =>
    have h2 := ltS_asymm h
    have h3 := ltS_ne h
    have h4 : (a.toList == b.toList) = false := by
      rw [beq_eq_false_iff_ne]
      intro e
      rw [ByteArray.toList_eq, ByteArray.toList_eq] at e
      exact h3 (data_inj e).symm
    rw [h2, h4]; rfl
  | false =>
    cases h2 : ltS a b with
    | true => rfl
    | false =>
      obtain rfl := ltS_total h2 h
      simp

theorem Owns.at_ {α : Type} {R : CR α} {sz base : Nat} {e : TypeId} {F : Foot} {w : World} {A : Option Addr} {n c : Nat} {l : List α} {k : Nat} (h : Owns R sz e base w F (.slice A n c) l) (hk : k < l.length) :
    ∃ b off cs, A = some ⟨b, off, none⟩ ∧ b < w.heap.size ∧ (Value.slice A n c).ownBlock = some b ∧ cs.length = sz ∧ R w F cs l[k] ∧ ∀ j u, cs[j]? = some u → w.cell? ⟨b, off + k * sz + j, none⟩ = some u := by
  obtain ⟨xs, h1, h2, _⟩ := h
  rcases h1.2 with ⟨_, h0⟩ | ⟨g, cap, cur, hv, hb, hcell, hlen, hcap, hcs, htk⟩
  · omega
  · injection hv with hv1 hv2 hv3
    subst hv1
    obtain ⟨cs, k1, k2, k3⟩ := h2.2 k l[k] (List.getElem?_eq_getElem hk)
    refine ⟨g, 0, cs, rfl, (Array.getElem?_eq_some_iff.1 hcell).1, rfl, k1, k2, fun j u hj => ?_⟩
    have h4 := k3 j u hj
    have hlt : k * sz + j < xs.length := (List.getElem?_eq_some_iff.1 h4).1
    rw [← htk, List.getElem?_take_of_lt (by rw [h1.1] at hlt; exact hlt)] at h4
    simp only [World.cell?, hcell, Nat.zero_add]
    simpa using h4

end Go.Proofs.YtjaladhdnbhliaaGreatDoor
