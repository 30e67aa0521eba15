/- Texts that belong together: Insert, Two, TypePlain, SortOwn, Facing. -/
import Derived.Test.YtafhepilcmimlaaDoorBase
import Derived.Test.YtafhepilcmimlaaDoorSigPlain
import Derived.Test.YtafhepilcmimlaaDoorSolveAt
import Derived.Shelf.SlSortCmp.WholeK
import Derived.Shelf.SlSortCmp.NoneTotal
/- Things laid into a list by their names; a list that is sorted by its names is one. No program is named here. -/
namespace Go.Proofs.YtafhepilcmimlaaDoor

/-- A thing is laid into a list, by its name. -/
def insBy {α : Type} (f : α → ByteArray) (y : α) : List α → List α
  | [] => [y]
  | x :: xs => if ltS (f y) (f x) = true then y :: x :: xs else x :: insBy f y xs
/-- All of a list are laid in, one by one. -/
def sortBy {α : Type} (f : α → ByteArray) (l : List α) : List α := l.foldl (fun acc y => insBy f y acc) []
/-- One step of the scan that lays a thing in. -/
def insStep {α : Type} (f : α → ByteArray) (y : α) (p : List α × Bool) (x : α) : List α × Bool :=
  if p.2 = false ∧ ltS (f y) (f x) = true then (p.1 ++ [y, x], true) else (p.1 ++ [x], p.2)
def insTo {α : Type} (f : α → ByteArray) (y : α) (l : List α) (k : Nat) : List α × Bool := (l.take k).foldl (insStep f y) ([], false)
/-- Sorted by the names, each once. -/
def Sorted {α : Type} (f : α → ByteArray) (l : List α) : Prop := l.Pairwise fun a b => ltS (f a) (f b) = true

section
variable {α : Type} {f : α → ByteArray} {x y : α} {l l' : List α} {k : Nat}
theorem sortBy_nil : sortBy f ([] : List α) = [] := rfl
theorem sortBy_snoc : sortBy f (l ++ [y]) = insBy f y (sortBy f l) := by simp [sortBy, List.foldl_append]
theorem insTo_zero : insTo f y l 0 = ([], false) := rfl
theorem insTo_succ (hx : l[k]? = some x) : insTo f y l (k + 1) = insStep f y (insTo f y l k) x := by
  unfold insTo
  rw [List.take_add_one, hx, List.foldl_append]
  rfl
theorem insStep_hit (p : List α) (h : ltS (f y) (f x) = true) : insStep f y (p, false) x = (p ++ [y, x], true) := by unfold insStep; rw [if_pos ⟨rfl, h⟩]
theorem insStep_low (p : List α) (h : ltS (f y) (f x) = false) : insStep f y (p, false) x = (p ++ [x], false) := by unfold insStep; rw [if_neg (by simp [h])]
theorem insStep_done (p : List α) : insStep f y (p, true) x = (p ++ [x], true) := by unfold insStep; rw [if_neg (by simp)]
theorem ins_done (p : List α) : ∀ l : List α, l.foldl (insStep f y) (p, true) = (p ++ l, true)
  | [] => by simp
  | x :: l => by rw [List.foldl_cons, insStep_done, ins_done (p ++ [x]) l]; simp
theorem ins_all : ∀ (l p : List α), (if (l.foldl (insStep f y) (p, false)).2 = true then (l.foldl (insStep f y) (p, false)).1 else (l.foldl (insStep f y) (p, false)).1 ++ [y]) = p ++ insBy f y l
  | [], p => by simp [insBy]
  | x :: l, p => by
    rw [List.foldl_cons]
    cases h : ltS (f y) (f x) with
    | true => rw [insStep_hit p h, ins_done]; simp [insBy, h]
    | false => rw [insStep_low p h, ins_all l (p ++ [x])]; simp [insBy, h]
theorem insTo_end_done (h : (insTo f y l l.length).2 = true) : (insTo f y l l.length).1 = insBy f y l := by
  have := ins_all (f := f) (y := y) l []
  unfold insTo at h ⊢
  rw [List.take_length] at h ⊢
  rw [if_pos h] at this
  simpa using this
theorem insTo_end_not (h : (insTo f y l l.length).2 = false) : (insTo f y l l.length).1 ++ [y] = insBy f y l := by
  have := ins_all (f := f) (y := y) l []
  unfold insTo at h ⊢
  rw [List.take_length] at h ⊢
  rw [if_neg (by simp [h])] at this
  simpa using this
theorem insStep_length (p : List α × Bool) : (insStep f y p x).1.length ≤ p.1.length + 2 := by
  unfold insStep
  split <;> simp
theorem insTo_length : ∀ k, (insTo f y l k).1.length ≤ k + (if (insTo f y l k).2 = true then 1 else 0)
  | 0 => by simp [insTo]
  | k + 1 => by
    have ih := insTo_length k
    cases hx : l[k]? with
    | none =>
      have : insTo f y l (k + 1) = insTo f y l k := by
        unfold insTo
        rw [List.take_add_one, hx]
        simp
      rw [this]; omega
    | some x =>
      rw [insTo_succ hx]
      generalize insTo f y l k = p at ih ⊢
      obtain ⟨p, d⟩ := p
      cases d with
      | true => rw [insStep_done]; simp at ih ⊢; omega
      | false =>
        cases h : ltS (f y) (f x) with
        | true => rw [insStep_hit p h]; simp at ih ⊢; omega
        | false => rw [insStep_low p h]; simp at ih ⊢; omega
theorem insTo_small (k : Nat) : (insTo f y l k).1.length ≤ k + 1 := by
  have := insTo_length k (f := f) (y := y) (l := l)
  split at this <;> omega

theorem insBy_perm : ∀ l : List α, (insBy f y l).Perm (y :: l)
  | [] => List.Perm.refl _
  | x :: l => by
    unfold insBy
    split
    · exact List.Perm.refl _
    · exact ((insBy_perm l).cons x).trans (List.Perm.swap y x l)
theorem insBy_length : (insBy f y l).length = l.length + 1 := by rw [(insBy_perm l).length_eq]; rfl
theorem sortBy_perm_acc : ∀ l acc : List α, (l.foldl (fun acc y => insBy f y acc) acc).Perm (l ++ acc)
  | [], acc => List.Perm.refl _
  | x :: l, acc => by
    rw [List.foldl_cons]
    refine (sortBy_perm_acc l _).trans (((insBy_perm acc).append_left l).trans ?_)
    rw [List.cons_append]
    exact List.perm_middle
theorem sortBy_perm (l : List α) : (sortBy f l).Perm l := by
  have := sortBy_perm_acc (f := f) l []
  simpa [sortBy] using this
theorem sortBy_length (l : List α) : (sortBy f l).length = l.length := (sortBy_perm l).length_eq
theorem insBy_sorted : ∀ l : List α, Sorted f l → (∀ x ∈ l, f x ≠ f y) → Sorted f (insBy f y l)
  | [], _, _ => by simp [insBy, Sorted]
  | x :: l, h, hn => by
    have h1 := (List.pairwise_cons.1 h).1
    have h2 := (List.pairwise_cons.1 h).2
    unfold insBy
    split
    · next hh =>
      refine List.pairwise_cons.2 ⟨fun z hz => ?_, h⟩
      rcases List.mem_cons.1 hz with rfl | hz
      · exact hh
      · exact ltS_trans hh (h1 z hz)
    · next hh =>
      have hxy : ltS (f x) (f y) = true := by
        cases hq : ltS (f x) (f y) with
        | true => rfl
        | false => exact absurd (ltS_total hq (by simpa using hh)) (hn x (List.mem_cons_self ..))
      refine List.pairwise_cons.2 ⟨fun z hz => ?_, insBy_sorted l h2 fun z hz => hn z (List.mem_cons_of_mem _ hz)⟩
      rcases List.mem_cons.1 ((insBy_perm l).mem_iff.1 hz) with rfl | hz
      · exact hxy
      · exact h1 z hz
/-- No name twice. -/
def Apart_ {α : Type} (f : α → ByteArray) (l : List α) : Prop := l.Pairwise fun a b => f a ≠ f b
theorem sortBy_sorted_acc : ∀ l acc : List α, Sorted f acc → Apart_ f l → (∀ x ∈ l, ∀ z ∈ acc, f x ≠ f z) → Sorted f (l.foldl (fun acc y => insBy f y acc) acc)
  | [], _, h, _, _ => h
  | x :: l, acc, h, ha, hn => by
    have h1 := (List.pairwise_cons.1 ha).1
    have h2 := (List.pairwise_cons.1 ha).2
    rw [List.foldl_cons]
    refine sortBy_sorted_acc l _ (insBy_sorted acc h fun z hz => (hn x (List.mem_cons_self ..) z hz).symm) h2 fun z hz u hu => ?_
    rcases List.mem_cons.1 ((insBy_perm acc).mem_iff.1 hu) with rfl | hu
    · exact (h1 z hz).symm
    · exact hn z (List.mem_cons_of_mem _ hz) u hu
theorem sortBy_sorted (h : Apart_ f l) : Sorted f (sortBy f l) := sortBy_sorted_acc l [] List.Pairwise.nil h fun _ _ _ hz => absurd hz (List.not_mem_nil)
/-- A list of those things that is sorted, whichever it is, is the one. -/
theorem sorted_one (hp : l'.Perm l) (ha : Apart_ f l) (hs : l'.Pairwise fun a b => ltS (f b) (f a) = false) : l' = sortBy f l := by
  refine List.Perm.eq_of_pairwise (le := fun a b => ltS (f b) (f a) = false) (fun a b ha' hb' h1 h2 => ?_) hs ?_ (hp.trans (sortBy_perm l).symm)
  · have he : f a = f b := ltS_total h2 h1
    refine Classical.byContradiction fun hne => ?_
    have hb := (sortBy_perm (f := f) l).mem_iff.1 hb'
    have ha2 := hp.mem_iff.1 ha'
    obtain ⟨i, hi, rfl⟩ := List.getElem_of_mem ha2
    obtain ⟨j, hj, rfl⟩ := List.getElem_of_mem hb
    have hg := List.pairwise_iff_getElem.1 ha
    rcases Nat.lt_trichotomy i j with e | e | e
    · exact hg i j hi hj e he
    · subst e; exact hne rfl
    · exact hg j i hj hi e he.symm
  · exact (sortBy_sorted ha).imp fun h => ltS_asymm h
theorem Sorted.apart (h : Sorted f l) : Apart_ f l := List.Pairwise.imp (fun h => ltS_ne h) h
theorem Sorted.rising (h : Sorted f l) : Rising f l := fun i x y hx hy => by
  have h1 := (List.getElem?_eq_some_iff.1 hx)
  have h2 := (List.getElem?_eq_some_iff.1 hy)
  obtain ⟨i1, rfl⟩ := h1
  obtain ⟨i2, rfl⟩ := h2
  exact List.pairwise_iff_getElem.1 h i (i + 1) i1 i2 (by omega)
end

end Go.Proofs.YtafhepilcmimlaaDoor

/- Two lists that a function builds side by side. No program is named here. -/
namespace Go.Proofs.YtafhepilcmimlaaDoor
open Go.RowKit Go.Shelf

/-- Two rows in two blocks. -/
def Apart (v v' : Value) : Prop := ∀ g, v.ownBlock = some g → v'.ownBlock ≠ some g
theorem Apart.symm {v v' : Value} (h : Apart v v') : Apart v' v := fun g h1 h2 => h g h2 h1
theorem Apart.push {v v2 v' : Value} {n : Nat} (h : Apart v v') (hv : v2.ownBlock = v.ownBlock ∨ ∃ g, v2.ownBlock = some g ∧ n ≤ g) (hl : ∀ g, v'.ownBlock = some g → g < n) : Apart v2 v' := by
  intro g h1 h2
  rcases hv with hv | ⟨g', hv, hg⟩
  · exact h g (hv.symm.trans h1) h2
  · rw [h1] at hv; injection hv with hv; subst hv
    have := hl g h2
    omega
theorem Owns.grew {α : Type} {R : CR α} {sz base b2 : Nat} {e : TypeId} {w w' : World} {v v' : Value} {l : List α} (hR : Stays R) (h : Owns R sz e base w none_ v l) (hg : Grew b2 w w' v'.ownBlock) (ha : Apart v v') : Owns R sz e base w' none_ v l :=
  h.kept hR hg.size fun k hk hor => hg.block k hk (fun e => hor.elim id fun h1 => ha k h1 e.symm)

theorem SliceOf.caps {α : Type} {R : CR α} {sz by_ : Nat} {F : Foot} {w : World} {A : Option Addr} {n c : Nat} {l : List α} (h : SliceOf R sz by_ w F (.slice A n c) l) : n ≤ c ∧ c ≤ 9223372036854775807 := by
  obtain ⟨A', c', e, h1, h2, _⟩ := h
  injection e with e1 e2 e3
  subst e2; subst e3
  exact ⟨h1, by unfold maxLen at h2; omega⟩

end Go.Proofs.YtafhepilcmimlaaDoor

/- A module's types, by their names; what is wrong with others. Plain facts. -/
namespace Go.Proofs.YtafhepilcmimlaaDoor
open Go.RowKit

/-- A type's name, as a type. -/
def nameTy (nm : ByteArray) : Ty := .mk 4 ⟨#[]⟩ nm []
/-- What is wrong with a type of a module; 0: nothing. -/
def typeCode (m : Module) (l : List Import) (k : Nat) : Int := match m.types[k]? with
  | some f => if (m.types.take k).any (fieldIs f.name) = true then 4 else (solveOf m l ⟨#[]⟩ (nameTy f.name)).2
  | none => 0
def typeKnown (m : Module) (l : List Import) (k : Nat) : List Known := match m.types[k]? with
  | some f => if typeCode m l k = 0 then [⟨f.name, (solveOf m l ⟨#[]⟩ (nameTy f.name)).1⟩] else []
  | none => []
def typeDiag (m : Module) (l : List Import) (k : Nat) : List Diag := match m.types[k]? with
  | some f => if typeCode m l k = 0 then [] else [⟨f.name, typeCode m l k⟩]
  | none => []
def goodTo (m : Module) (l : List Import) (n : Nat) : List Known := (List.range n).flatMap (typeKnown m l)
def badTo (m : Module) (l : List Import) (n : Nat) : List Diag := (List.range n).flatMap (typeDiag m l)
def typesOf (m : Module) (l : List Import) : List Known := sortBy Known.name (goodTo m l m.types.length)
def typesBad (m : Module) (l : List Import) : List Diag := badTo m l m.types.length

section
variable {m : Module} {l : List Import} {k n : Nat} {f : Field}
theorem range_snoc {α : Type} (g : Nat → List α) (n : Nat) : (List.range (n + 1)).flatMap g = (List.range n).flatMap g ++ g n := by
  rw [List.range_succ, List.flatMap_append]; simp
theorem range_le {α : Type} (g : Nat → List α) (h : ∀ i, (g i).length ≤ 1) : ∀ n, ((List.range n).flatMap g).length ≤ n
  | 0 => by simp
  | n + 1 => by
    rw [range_snoc, List.length_append]
    have := range_le g h n
    have := h n
    omega
theorem typeKnown_le (k : Nat) : (typeKnown m l k).length ≤ 1 := by
  unfold typeKnown
  split
  · split <;> simp
  · simp
theorem typeDiag_le (k : Nat) : (typeDiag m l k).length ≤ 1 := by
  unfold typeDiag
  split
  · split <;> simp
  · simp
theorem goodTo_le (n : Nat) : (goodTo m l n).length ≤ n := range_le _ typeKnown_le n
theorem badTo_le (n : Nat) : (badTo m l n).length ≤ n := range_le _ typeDiag_le n
theorem typeCode_seen (hf : m.types[k]? = some f) (h : (m.types.take k).any (fieldIs f.name) = true) : typeCode m l k = 4 := by
  unfold typeCode; rw [hf]; simp only; rw [if_pos h]
theorem typeCode_new (hf : m.types[k]? = some f) (h : (m.types.take k).any (fieldIs f.name) = false) : typeCode m l k = (solveOf m l ⟨#[]⟩ (nameTy f.name)).2 := by
  unfold typeCode; rw [hf]; simp only; rw [if_neg (by simp [h])]
theorem goodTo_bad (hf : m.types[k]? = some f) (h : typeCode m l k ≠ 0) : goodTo m l (k + 1) = goodTo m l k := by
  unfold goodTo; rw [range_snoc]; unfold typeKnown; rw [hf]; simp [h]
theorem badTo_bad (hf : m.types[k]? = some f) (h : typeCode m l k ≠ 0) : badTo m l (k + 1) = badTo m l k ++ [⟨f.name, typeCode m l k⟩] := by
  unfold badTo; rw [range_snoc]; unfold typeDiag; rw [hf]; simp [h]
theorem goodTo_good (hf : m.types[k]? = some f) (h : typeCode m l k = 0) : goodTo m l (k + 1) = goodTo m l k ++ [⟨f.name, (solveOf m l ⟨#[]⟩ (nameTy f.name)).1⟩] := by
  unfold goodTo; rw [range_snoc]; unfold typeKnown; rw [hf]; simp [h]
theorem badTo_good (hf : m.types[k]? = some f) (h : typeCode m l k = 0) : badTo m l (k + 1) = badTo m l k := by
  unfold badTo; rw [range_snoc]; unfold typeDiag; rw [hf]; simp [h]
theorem goodTo_of (n : Nat) : ∀ x ∈ goodTo m l n, ∃ i f, i < n ∧ m.types[i]? = some f ∧ typeCode m l i = 0 ∧ x = ⟨f.name, (solveOf m l ⟨#[]⟩ (nameTy f.name)).1⟩ := by
  intro x hx
  unfold goodTo at hx
  obtain ⟨i, hi, hx⟩ := List.mem_flatMap.1 hx
  refine ⟨i, ?_⟩
  unfold typeKnown at hx
  split at hx
  · next f hf =>
    split at hx
    · next h0 => exact ⟨f, List.mem_range.1 hi, hf, h0, by simpa using hx⟩
    · simp at hx
  · simp at hx
theorem goodTo_apart : ∀ n, Apart_ Known.name (goodTo m l n)
  | 0 => List.Pairwise.nil
  | n + 1 => by
    have ih := goodTo_apart n
    cases hf : m.types[n]? with
    | none =>
      have : goodTo m l (n + 1) = goodTo m l n := by unfold goodTo; rw [range_snoc]; unfold typeKnown; rw [hf]; simp
      rw [this]; exact ih
    | some f =>
      by_cases h0 : typeCode m l n = 0
      · rw [goodTo_good hf h0]
        refine List.pairwise_append.2 ⟨ih, by simp, fun x hx y hy => ?_⟩
        obtain ⟨i, g, hi, hg, _, rfl⟩ := goodTo_of n x hx
        obtain rfl : y = _ := by simpa using hy
        intro he
        simp only at he
        have hs : (m.types.take n).any (fieldIs f.name) = true := by
          rw [List.any_eq_true]
          refine ⟨g, ?_, ?_⟩
          · exact List.mem_of_getElem? (i := i) (by rw [List.getElem?_take_of_lt hi]; exact hg)
          · unfold fieldIs eqB; simp [he]
        rw [typeCode_seen hf hs] at h0
        cases h0
      · rw [goodTo_bad hf h0]; exact ih
theorem fidx_seen (hk : k ≤ m.types.length) (p : Field → Bool) : decide (fidx p m.types < (k : Int)) = true → (∃ i f, i < k ∧ m.types[i]? = some f ∧ p f = true) ∨ fidx p m.types = -1 := by
  intro h
  unfold fidx at h ⊢
  cases hi : m.types.findIdx? p with
  | none => exact .inr rfl
  | some i =>
    rw [hi] at h
    obtain ⟨h1, h2, _⟩ := List.findIdx?_eq_some_iff_getElem.1 hi
    exact .inl ⟨i, _, by simpa using h, List.getElem?_eq_getElem h1, h2⟩
/-- Where a name stands first: ahead of a place, or there. -/
theorem fidx_lt (hf : m.types[k]? = some f) : decide (fidx (fieldIs f.name) m.types < (k : Int)) = (m.types.take k).any (fieldIs f.name) := by
  have hself : fieldIs f.name f = true := by unfold fieldIs eqB; simp
  have hk := (List.getElem?_eq_some_iff.1 hf).1
  unfold fidx
  cases hi : m.types.findIdx? (fieldIs f.name) with
  | none =>
    rw [List.findIdx?_eq_none_iff] at hi
    have := hi f (List.mem_of_getElem? hf)
    rw [hself] at this; cases this
  | some i =>
    obtain ⟨h1, h2, h3⟩ := List.findIdx?_eq_some_iff_getElem.1 hi
    rw [Bool.eq_iff_iff]
    simp only [decide_eq_true_eq, List.any_eq_true]
    constructor
    · intro h
      refine ⟨m.types[i], List.mem_of_getElem? (i := i) ?_, h2⟩
      rw [List.getElem?_take_of_lt (by omega)]
      exact List.getElem?_eq_getElem h1
    · rintro ⟨g, hg, hp⟩
      obtain ⟨j, hj, rfl⟩ := List.getElem_of_mem hg
      rw [List.length_take] at hj
      rw [List.getElem_take] at hp
      refine Classical.byContradiction fun hn => ?_
      exact h3 j (by omega) hp
theorem solve_code : ∀ (n : Nat) (v : ByteArray) (us : List ByteArray) (t : Ty), 0 ≤ (solveN m l n v us t).2 ∧ (solveN m l n v us t).2 ≤ 5
  | 0, _, _, _ => ⟨by unfold solveN; decide, by unfold solveN; decide⟩
  | n + 1, v, us, .mk k o nm args => by
    unfold solveN
    repeat' split
    all_goals first | (dsimp only; exact solve_code n _ _ _) | exact solve_code n _ _ _ | (constructor <;> (dsimp only; omega))
theorem typeCode_i64 (v : ByteArray) (t : Ty) : I64 (solveOf m l v t).2 := by
  have := solve_code (m := m) (l := l) 300 v [] t
  unfold solveOf I64; omega
theorem nameTy_fine (h : nameOk f.name = true) : tyErr 10 (nameTy f.name) = 0 := by
  unfold nameTy tyErr
  rw [if_neg (by decide), if_neg (by decide), if_neg (by simp), if_pos rfl, if_pos ⟨h, .inl rfl⟩]
theorem typeTxt_small (hs : SmallTexts l) (nm : ByteArray) : (solveOf m l ⟨#[]⟩ (nameTy nm)).1.size ≤ 600 := solve_small hs 300 _ _ _
end

end Go.Proofs.YtafhepilcmimlaaDoor

/- slices.SortFunc on a list that a function owns: its things by their names. No program is named here. -/
namespace Go.Proofs.YtafhepilcmimlaaDoor
open Go.RowKit Go.Shelf Go.Sort

theorem ltS_ntrans {a b c : ByteArray} (h : ltS a b = false) (k : ltS b c = false) : ltS a c = false := by
  have h1 : ¬ a.data.toList < b.data.toList := fun e => by rw [(ltS_iff a b).2 e] at h; cases h
  have h2 : ¬ b.data.toList < c.data.toList := fun e => by rw [(ltS_iff b c).2 e] at k; cases k
  rw [Bool.eq_false_iff]
  intro e
  exact List.not_lt.2 (List.le_trans (List.not_lt.1 h2) (List.not_lt.1 h1)) ((ltS_iff a c).1 e)

/-- How two things compare, by their names. -/
def cmpBy {β : Type} (nm : β → ByteArray) (x y : β) : Int := Lib.compareBytes (nm x).data.toList (nm y).data.toList
theorem ltOf_cmpBy {β : Type} (nm : β → ByteArray) (x y : β) : ltOf (cmpBy nm) x y = ltS (nm x) (nm y) := cmpS_neg _ _
theorem swo_cmpBy {β : Type} (nm : β → ByteArray) : SWO (ltOf (cmpBy nm)) where
  irrefl x := by rw [ltOf_cmpBy]; exact ltS_irrefl _
  trans x y z h1 h2 := by rw [ltOf_cmpBy] at *; exact ltS_trans h1 h2
  ntrans x y z h1 h2 := by rw [ltOf_cmpBy] at *; exact ltS_ntrans h1 h2

/-- A cell of a row laid flat. -/
theorem flat_cell {β : Type} [Inhabited β] (enc : β → List Value) (sz : Nat) (d : Array β) (henc : ∀ x, (enc x).length = sz) {i j : Nat} (hi : i < d.size) (hj : j < sz) : (flatK enc sz d)[i * sz + j]? = (enc d[i]!)[j]? := by
  have hlt : i * sz + j < d.size * sz := by
    have := Nat.mul_le_mul_right sz (show i + 1 ≤ d.size from hi); rw [Nat.add_mul, Nat.one_mul] at this; omega
  have e1 : (i * sz + j) / sz = i := (blk_iff sz i _ (by omega)).1 ⟨by omega, by omega⟩
  have e2 : (i * sz + j) % sz = j := by rw [Nat.mod_eq_sub_div_mul, e1]; omega
  have hs : i * sz + j < (flatK enc sz d).size := by rw [size_flatK]; exact hlt
  rw [Array.getElem?_eq_getElem hs, ← getElem!_pos (flatK enc sz d) _ hs, get_flatK _ _ _ _ hlt, e1, e2]
  have hj' : j < (enc d[i]!).length := by rw [henc]; exact hj
  rw [List.getElem?_eq_getElem hj', getElem!_pos (enc d[i]!) _ hj']

section
variable {α : Type} {R : CR α} {P : Program} {ρ : Ren}

set_option maxHeartbeats 1000000 in
theorem sort_owned (hR : Stays R) (nm : α → ByteArray) (good : List Value → ByteArray → Prop) (sz : Nat) (hg : ∀ cs s, good cs s → cs.length = sz ∧ ∀ v ∈ cs, v.oneCell' = true) (hRg : ∀ w F cs x, R w F cs x → good cs (nm x))
    (L : SlLaysF0.n6 P ρ) (aE : ∀ w, (isAgg (ρ.t 24)).run P w = .ok true w) (zE : ∀ w, (Go.sizeOf (ρ.t 24)).run P w = .ok sz w) (g : Nat) (eg : ∀ args w, (callFunc g args).run P w = .ok (.enter g args) w)
    (hcl : ∀ cs ds s t W, good cs s → good ds t → Calls P g #[.agg cs.toArray, .agg ds.toArray] W fun e w' => e = .returned (.int .i64 (Lib.compareBytes s.data.toList t.data.toList)) ∧ ∃ q os, w' = grow (W.drewN q) os)
    {base : Nat} {e : TypeId} {F : Foot} {w : World} {v : Value} {l : List α} (h : Owns R sz e base w F v l) (hsz : l.length < 4611686018427387904) :
    Calls P (ρ.f 6) #[v, .func (.func g) #[] #[]] w fun en w' => en = .returned (.tuple #[]) ∧ ∃ l' : List α, l'.Perm l ∧ (l'.Pairwise fun a b => ltS (nm b) (nm a) = false) ∧ Owns R sz e base w' F v l' ∧ Grew base w w' v.ownBlock := by
  obtain ⟨xs, hrow, hrows, hf⟩ := h
  have hempty : l = [] → ∀ p cap, v = .slice p 0 cap → Calls P (ρ.f 6) #[v, .func (.func g) #[] #[]] w fun en w' => en = .returned (.tuple #[]) ∧ ∃ l' : List α, l'.Perm l ∧ (l'.Pairwise fun a b => ltS (nm b) (nm a) = false) ∧ Owns R sz e base w' F v l' ∧ Grew base w w' v.ownBlock := by
    rintro rfl p cap rfl
    refine (AnyF.slices_SortFunc_none L p cap _ w).mono ?_
    rintro en w' ⟨he, rfl⟩
    exact ⟨he, [], List.Perm.refl _, List.Pairwise.nil, ⟨xs, hrow, hrows, hf⟩, ⟨rfl, rfl, rfl, Nat.le_refl _, fun _ _ _ => rfl, fun k hk => by
      rcases hrow.2 with ⟨hv, _⟩ | ⟨g', cap', cur, hv, hb, _⟩
      · rw [hv] at hk; cases hk
      · rw [hv] at hk; have hk2 : some g' = some k := hk; injection hk2 with hk2; omega⟩⟩
  obtain ⟨hxl, hrow'⟩ := hrow
  rcases hrow' with ⟨hv, h0⟩ | ⟨g', cap, cur, rfl, hb, hcell, hc1, hc2, hcs, htake⟩
  · exact hempty (List.length_eq_zero_iff.1 h0) none 0 hv
  by_cases hl : l = []
  · subst hl
    exact hempty rfl _ cap rfl
  have hlpos : 0 < l.length := List.length_pos_iff.2 hl
  -- the things with the cells that stand for them
  have hex : ∀ i : Fin l.length, ∃ b : {p : α × List Value // R w F p.2 p.1}, b.1.1 = l[i] ∧ b.1.2.length = sz ∧ ∀ j u, b.1.2[j]? = some u → xs[i.1 * sz + j]? = some u := fun i => by
    obtain ⟨cs, k1, k2, k3⟩ := hrows.2 i.1 l[i] (List.getElem?_eq_getElem i.2)
    exact ⟨⟨(l[i], cs), k2⟩, rfl, k1, k3⟩
  obtain ⟨fb, hfb⟩ := Classical.axiomOfChoice hex
  have : Inhabited {p : α × List Value // R w F p.2 p.1} := ⟨fb ⟨0, hlpos⟩⟩
  obtain ⟨d, hd⟩ : ∃ d : Array {p : α × List Value // R w F p.2 p.1}, d = Array.ofFn fb := ⟨_, rfl⟩
  have hds : d.size = l.length := by rw [hd]; simp
  have hdi : ∀ i, (hi : i < l.length) → d[i]! = fb ⟨i, hi⟩ := fun i hi => by
    have hi' : i < d.size := by rw [hds]; exact hi
    rw [getElem!_pos d i hi']
    simp [hd]
  have hdl : d.toList.map (fun b => b.1.1) = l := by
    refine List.ext_getElem (by simp [hds]) fun i h1 h2 => ?_
    have h3 := hdi i h2
    rw [getElem!_pos d i (by rw [hds]; exact h2)] at h3
    rw [List.getElem_map, Array.getElem_toList, h3]
    exact (hfb ⟨i, h2⟩).1
  let enc : {p : α × List Value // R w F p.2 p.1} → List Value := fun b => b.1.2
  let nb : {p : α × List Value // R w F p.2 p.1} → ByteArray := fun b => nm b.1.1
  have hk : ∀ b, (enc b).length = sz := fun b => (hg _ _ (hRg _ _ _ _ b.2)).1
  have h1 : ∀ b, ∀ u ∈ enc b, u.oneCell' = true := fun b => (hg _ _ (hRg _ _ _ _ b.2)).2
  have hflat : (flatK enc sz d).toList = xs := by
    refine List.ext_getElem? fun t => ?_
    by_cases ht : t < d.size * sz
    · have hsz0 : 0 < sz := Nat.pos_of_ne_zero (by rintro rfl; simp at ht)
      have hi : t / sz < l.length := by rw [← hds]; exact Nat.div_lt_of_lt_mul (by rw [Nat.mul_comm]; exact ht)
      have hr : t % sz < sz := Nat.mod_lt _ hsz0
      have hsum : t / sz * sz + t % sz = t := by rw [Nat.mul_comm]; exact Nat.div_add_mod t sz
      rw [← hsum, Array.getElem?_toList, flat_cell enc sz d hk (by rw [hds]; exact hi) hr]
      have hj : t % sz < (enc d[t / sz]!).length := by rw [hk]; exact hr
      rw [List.getElem?_eq_getElem hj]
      have := (hfb ⟨t / sz, hi⟩).2.2 (t % sz) (enc d[t / sz]!)[t % sz] (by rw [← hdi _ hi]; exact List.getElem?_eq_getElem hj)
      exact this.symm
    · rw [List.getElem?_eq_none (by simp; omega), List.getElem?_eq_none (by rw [hxl, ← hds]; omega)]
  have hcur : ∀ t, t < l.length * sz → cur[t]? = (flatK enc sz d)[t]? := fun t ht => by
    have h2 : xs[t]? = cur.toList[t]? := by rw [← htake, List.getElem?_take_of_lt ht]
    rw [← hflat] at h2
    simpa using h2.symm
  have hgl : g' < w.heap.size := (Array.getElem?_eq_some_iff.1 hcell).1
  have hH : HoldsK enc sz w g' 0 d := fun t ht => by
    have ht' : t < l.length * sz := by rw [size_flatK, hds] at ht; exact ht
    refine ⟨?_, by simp [World.frozen?, hcell]⟩
    simp only [World.cell?, hcell, Nat.zero_add]
    rw [if_neg (by simp), hcur t ht', Array.getElem?_eq_getElem ht, id, getElem!_pos (flatK enc sz d) _ ht]
  have hcmp : CmpLays P g #[] enc sz (cmpBy nb) g' 0 d.size w := fun m os dk _ x y => hcl _ _ _ _ _ (hRg _ _ _ _ x.2) (hRg _ _ _ _ y.2)
  have hcon := AnyQ.slices_SortFunc L sz aE zE enc hk h1 (cmpBy nb) (swo_cmpBy nb) g #[] g' 0 cap d w eg hcmp hH hgl (by rw [hds]; exact hsz)
  rw [hds] at hcon
  refine hcon.mono ?_
  rintro en w' ⟨he, d', n, os, hp, hs, rfl⟩
  refine ⟨he, d'.toList.map (fun b => b.1.1), ?_, ?_, ?_, ?_⟩
  · obtain ⟨hsz', _, hperm⟩ := hp
    have e1 : d'.extract 0 l.length = d' := by rw [← hds, ← hsz']; exact Array.extract_size
    have e2 : d.extract 0 l.length = d := by rw [← hds]; exact Array.extract_size
    rw [e1, e2] at hperm
    have := hperm.map (fun b => b.1.1)
    rw [hdl] at this
    exact this
  · rw [List.pairwise_map, List.pairwise_iff_getElem]
    intro i j hi hj hij
    have hi' : i < d'.size := by simpa using hi
    have hj' : j < d'.size := by simpa using hj
    have h2 := hs i j (Nat.zero_le _) hij (by rw [← hds, ← hp.1]; exact hj')
    rw [getElem!_pos d' j hj', getElem!_pos d' i hi', ltOf_cmpBy] at h2
    simpa using h2
  · have hsz' : d'.size = l.length := by rw [hp.1, hds]
    have hblk : (sortWorldK enc sz w g' 0 n d' os).heap[g']? = some (.cells (putCells id 0 (flatK enc sz d') cur) e (0, 0)) := by
      unfold sortWorldK
      rw [heap_grow_old _ _ (by rw [size_putRowK]; exact hgl)]
      simp only [putRowK, putRow, mapBlock, Array.getElem?_modify, if_true]
      show Option.map _ w.heap[g']? = _
      rw [hcell]
      rfl
    have hkeep : ∀ k, F k → (sortWorldK enc sz w g' 0 n d' os).heap[k]? = w.heap[k]? := fun k hk => by
      have hne : g' ≠ k := fun e => (hf k hk).2 (by rw [← e]; rfl)
      unfold sortWorldK
      rw [heap_grow_old _ _ (by rw [size_putRowK]; exact (hf k hk).1)]
      simp only [putRowK, putRow, mapBlock, Array.getElem?_modify, if_neg hne]
      rfl
    refine ⟨(flatK enc sz d').toList, ⟨by simp [hsz'], .inr ⟨g', cap, putCells id 0 (flatK enc sz d') cur, by simp [hsz'], hb, hblk, by simp [hsz', hc1], hc2, by simp [putCells, hcs], ?_⟩⟩, ⟨by simp, fun i x hx => ?_⟩, fun k hk => ⟨Nat.lt_of_lt_of_le (hf k hk).1 ?_, (hf k hk).2⟩⟩
    · refine List.ext_getElem? fun t => ?_
      have hcap : l.length * sz ≤ cur.size := by rw [hcs]; exact Nat.mul_le_mul_right _ hc1
      have hfs : (flatK enc sz d').size = l.length * sz := by rw [size_flatK, hsz']
      simp only [List.length_map, Array.length_toList, hsz']
      rw [List.getElem?_take]
      split
      · next ht =>
        have ht2 : t < cur.size := by omega
        simp only [putCells, Array.getElem?_toList, Array.getElem?_mapIdx, Array.getElem?_eq_getElem ht2, Option.map_some, Nat.zero_add, hfs, Nat.zero_le, true_and, ht, if_true, Nat.sub_zero, id]
        rw [Array.getElem?_eq_getElem (by rw [hfs]; exact ht), getElem!_pos (flatK enc sz d') _ (by rw [hfs]; exact ht)]
      · next ht => rw [List.getElem?_eq_none (by simp [hsz']; omega)]
    · rw [List.getElem?_map] at hx
      obtain ⟨b, hbx, rfl⟩ := Option.map_eq_some_iff.1 hx
      rw [Array.getElem?_toList] at hbx
      obtain ⟨hi, hbi⟩ := Array.getElem?_eq_some_iff.1 hbx
      refine ⟨b.1.2, hk b, hR _ _ _ _ _ _ b.2 (fun _ h => h) (keeps_of_heap hkeep), fun j u hj => ?_⟩
      have hj' : j < sz := by have := (List.getElem?_eq_some_iff.1 hj).1; rw [← hk b]; exact this
      rw [Array.getElem?_toList, flat_cell enc sz d' hk hi hj', getElem!_pos d' i hi, hbi]
      exact hj
    · unfold sortWorldK
      rw [size_grow, size_putRowK]
      exact Nat.le_add_right _ _
  · refine ⟨rfl, rfl, rfl, size_sortWorldK_c enc sz w g' 0 n d' os, fun k hk hne => ?_, fun k hk => by have hk2 : some g' = some k := hk; injection hk2 with hk2; omega⟩
    have hne' : g' ≠ k := fun e => hne (by rw [← e]; rfl)
    unfold sortWorldK
    rw [heap_grow_old _ _ (by rw [size_putRowK]; exact hk)]
    simp only [putRowK, putRow, mapBlock, Array.getElem?_modify, if_neg hne']
    rfl
end

end Go.Proofs.YtafhepilcmimlaaDoor

/- The face that a module shows; what is wrong with what its functions take, and tell. Plain facts; and where its loops stand. -/
namespace Go.Proofs.YtafhepilcmimlaaDoor
open Go.RowKit Go.Shelf

def sigGood (m : Module) (l : List Import) (k : Nat) : List Sig := match m.funcs[k]? with
  | some _ => if (sigOne m l k).2 = 0 then [(sigOne m l k).1] else []
  | none => []
def sigDiag (m : Module) (l : List Import) (k : Nat) : List Diag := match m.funcs[k]? with
  | some f => if (sigOne m l k).2 = 0 then [] else [⟨f.name, (sigOne m l k).2⟩]
  | none => []
def sigsTo (m : Module) (l : List Import) (n : Nat) : List Sig := (List.range n).flatMap (sigGood m l)
def sigBadTo (m : Module) (l : List Import) (n : Nat) : List Diag := (List.range n).flatMap (sigDiag m l)
def faceOf (m : Module) (l : List Import) : Face := ⟨typesOf m l, sortBy Sig.name (sigsTo m l m.funcs.length)⟩
def faceBad (m : Module) (l : List Import) : List Diag := sigBadTo m l m.funcs.length

section
variable {m : Module} {l : List Import} {k n : Nat} {f : Func}
theorem sigGood_le (k : Nat) : (sigGood m l k).length ≤ 1 := by
  unfold sigGood
  split
  · split <;> simp
  · simp
theorem sigDiag_le (k : Nat) : (sigDiag m l k).length ≤ 1 := by
  unfold sigDiag
  split
  · split <;> simp
  · simp
theorem sigsTo_le (n : Nat) : (sigsTo m l n).length ≤ n := range_le _ sigGood_le n
theorem sigBadTo_le (n : Nat) : (sigBadTo m l n).length ≤ n := range_le _ sigDiag_le n
theorem sigsTo_bad (hf : m.funcs[k]? = some f) (h : (sigOne m l k).2 ≠ 0) : sigsTo m l (k + 1) = sigsTo m l k := by
  unfold sigsTo; rw [range_snoc]; unfold sigGood; rw [hf]; simp [h]
theorem sigBadTo_bad (hf : m.funcs[k]? = some f) (h : (sigOne m l k).2 ≠ 0) : sigBadTo m l (k + 1) = sigBadTo m l k ++ [⟨f.name, (sigOne m l k).2⟩] := by
  unfold sigBadTo; rw [range_snoc]; unfold sigDiag; rw [hf]; simp [h]
theorem sigsTo_good (hf : m.funcs[k]? = some f) (h : (sigOne m l k).2 = 0) : sigsTo m l (k + 1) = sigsTo m l k ++ [(sigOne m l k).1] := by
  unfold sigsTo; rw [range_snoc]; unfold sigGood; rw [hf]; simp [h]
theorem sigBadTo_good (hf : m.funcs[k]? = some f) (h : (sigOne m l k).2 = 0) : sigBadTo m l (k + 1) = sigBadTo m l k := by
  unfold sigBadTo; rw [range_snoc]; unfold sigDiag; rw [hf]; simp [h]
theorem sigOne_name (hf : m.funcs[k]? = some f) (h : (sigOne m l k).2 = 0) : (sigOne m l k).1.name = f.name ∧ (m.funcs.take k).any (fnIs f.name) = false := by
  unfold sigOne at h ⊢
  rw [hf] at h ⊢
  simp only at h ⊢
  by_cases h1 : (m.funcs.take k).any (fnIs f.name) = true
  · rw [if_pos h1] at h; cases h
  · rw [if_neg h1] at h ⊢
    by_cases h2 : firstErr (parErr m l f) f.params.length ≠ 0
    · rw [if_pos h2] at h; exact absurd h h2
    · rw [if_neg h2] at h ⊢
      by_cases h3 : (solveOf m l f.var_ f.result).2 ≠ 0
      · rw [if_pos h3] at h; exact absurd h h3
      · rw [if_neg h3] at h ⊢
        exact ⟨rfl, by simpa using h1⟩
theorem sigsTo_of (n : Nat) : ∀ x ∈ sigsTo m l n, ∃ i f, i < n ∧ m.funcs[i]? = some f ∧ x.name = f.name := by
  intro x hx
  unfold sigsTo at hx
  obtain ⟨i, hi, hx⟩ := List.mem_flatMap.1 hx
  refine ⟨i, ?_⟩
  unfold sigGood at hx
  split at hx
  · next f hf =>
    split at hx
    · next h0 =>
      obtain rfl : x = _ := by simpa using hx
      exact ⟨f, List.mem_range.1 hi, hf, (sigOne_name hf h0).1⟩
    · simp at hx
  · simp at hx
theorem sigsTo_apart : ∀ n, Apart_ Sig.name (sigsTo m l n)
  | 0 => List.Pairwise.nil
  | n + 1 => by
    have ih := sigsTo_apart n
    cases hf : m.funcs[n]? with
    | none =>
      have : sigsTo m l (n + 1) = sigsTo m l n := by unfold sigsTo; rw [range_snoc]; unfold sigGood; rw [hf]; simp
      rw [this]; exact ih
    | some f =>
      by_cases h0 : (sigOne m l n).2 = 0
      · rw [sigsTo_good hf h0]
        obtain ⟨hn, hs⟩ := sigOne_name hf h0
        refine List.pairwise_append.2 ⟨ih, by simp, fun x hx y hy => ?_⟩
        obtain ⟨i, g, hi, hg, hxn⟩ := sigsTo_of n x hx
        obtain rfl : y = _ := by simpa using hy
        intro he
        rw [hxn, hn] at he
        have : (m.funcs.take n).any (fnIs f.name) = true := by
          rw [List.any_eq_true]
          refine ⟨g, ?_, ?_⟩
          · exact List.mem_of_getElem? (i := i) (by rw [List.getElem?_take_of_lt hi]; exact hg)
          · unfold fnIs eqB; simp [he]
        rw [hs] at this; cases this
      · rw [sigsTo_bad hf h0]; exact ih
theorem firstErr_in {P : Int → Prop} (h0 : P 0) {g : Nat → Int} (h : ∀ i, P (g i)) (n : Nat) : P (firstErr g n) := by
  by_cases hz : firstErr g n = 0
  · rw [hz]; exact h0
  · refine Classical.byContradiction fun hn => ?_
    have : ∀ i, i < n → g i = 0 ∨ g i ≠ 0 := fun i _ => Classical.em _
    clear this
    by_cases hall : ∀ i, i < n → g i = 0
    · exact hz (firstErr_none hall)
    · have hex : ∃ j, j < n ∧ g j ≠ 0 ∧ ∀ i, i < j → g i = 0 := by
        refine Classical.byContradiction fun hne => hall fun i hi => ?_
        induction i using Nat.strongRecOn with
        | ind i ih =>
          refine Classical.byContradiction fun hgi => hne ⟨i, hi, hgi, fun j hj => ih j hj (by omega)⟩
      obtain ⟨j, hj, hgj, hb⟩ := hex
      rw [firstErr_hit hj hb hgj] at hn
      exact hn (h j)
theorem sigOne_i64 (k : Nat) : I64 (sigOne m l k).2 := by
  have h4 : I64 4 := ⟨by decide, by decide⟩
  have h0 : I64 0 := ⟨by decide, by decide⟩
  unfold sigOne
  split
  · next f hf =>
    split
    · exact h4
    · split
      · refine firstErr_in h0 (fun i => ?_) _
        unfold parErr
        split
        · split
          · exact h4
          · exact typeCode_i64 _ _
        · exact h0
      · split
        · exact typeCode_i64 _ _
        · exact h0
  · exact h0
end

theorem sig_one {a b : ByteArray} {A : Option Addr} {n c : Nat} : ∀ u ∈ [Value.string a, .slice A n c, .string b], u.oneCell' = true := by
  intro u hu
  simp only [List.mem_cons, List.not_mem_nil, or_false] at hu
  rcases hu with rfl | rfl | rfl <;> rfl
theorem SigR.form {w : World} {F : Foot} {cs : List Value} {x : Sig} (h : SigR w F cs x) : ∃ A c, cs = [.string x.name, .slice A x.params.length c, .string x.result] ∧ okS x.name ∧ okS x.result ∧ SliceOf StrR 1 16 w F (.slice A x.params.length c) x.params := by
  obtain ⟨pv, rfl, h1, h2, h3⟩ := h
  obtain ⟨A, c, rfl, _⟩ := h3.form
  exact ⟨A, c, rfl, h1, h2, h3⟩

section
variable {w W W' : World} {B : Nat} {mc : Array Value} {E : List Known} {tv s b s' b' : Value} {G G' : Foot} {sl sl' : List Sig} {bl bl' : List Diag}
end

end Go.Proofs.YtafhepilcmimlaaDoor
