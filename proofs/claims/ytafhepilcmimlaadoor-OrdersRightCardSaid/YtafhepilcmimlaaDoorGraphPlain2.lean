/- Nodes by their names: what leads to what, as the document's answer reckons it; the order. Plain facts. -/
import Derived.Test.YtafhepilcmimlaaDoorGraphErr
import Derived.Test.YtafhepilcmimlaaDoorGraphPlain
namespace Go.Proofs.YtafhepilcmimlaaDoor
open Go.RowKit

theorem hasS_iff {l : List ByteArray} {x : ByteArray} : hasS l x = true ↔ x ∈ l := by
  unfold hasS
  rw [List.any_eq_true]
  exact ⟨fun ⟨y, hy, h⟩ => by simp [isS] at h; rw [← h]; exact hy, fun h => ⟨x, h, by simp [isS]⟩⟩
theorem nodes_rising {l : List Node} (h : nodesErr l = 0) : l.length ≤ 10 ∧ Rising Node.name l ∧ ∀ x ∈ l, x.uses.length ≤ 24 := by
  unfold nodesErr at h
  by_cases h10 : 10 < l.length
  · rw [if_pos h10] at h; cases h
  · rw [if_neg h10] at h
    have hz := firstErr_zero h
    refine ⟨by omega, itemErr_rising hz, fun x hx => ?_⟩
    have hb := itemErr_good hz x hx
    unfold nodeBad at hb
    by_cases h24 : x.uses.length ≤ 24
    · exact h24
    · simp [h24] at hb

/-- The name at a place. -/
def nameAt (l : List Node) (i : Nat) : ByteArray := match l[i]? with | some x => x.name | none => ⟨#[]⟩
theorem nameAt_some {l : List Node} {i : Nat} {x : Node} (h : l[i]? = some x) : nameAt l i = x.name := by unfold nameAt; rw [h]
/-- The place of a name. -/
def placeOf (l : List Node) (t : ByteArray) : Option Nat := l.findIdx? fun x => decide (x.name = t)
/-- Does a node use one? -/
def usesN (l : List Node) (i k : Nat) : Bool := match l[i]?, l[k]? with | some x, some y => hasS x.uses y.name | _, _ => false
theorem name_one {l : List Node} (hR : Rising Node.name l) {i j : Nat} {x y : Node} (hx : l[i]? = some x) (hy : l[j]? = some y) (h : x.name = y.name) : i = j := by
  refine Classical.byContradiction fun hne => ?_
  rcases Nat.lt_or_gt_of_ne hne with hl | hl
  · exact ltS_ne (hR.lt hl hx hy) h
  · exact ltS_ne (hR.lt hl hy hx) h.symm
theorem placeOf_some {l : List Node} (hR : Rising Node.name l) {t : ByteArray} {k : Nat} : placeOf l t = some k ↔ ∃ x, l[k]? = some x ∧ x.name = t := by
  unfold placeOf
  rw [List.findIdx?_eq_some_iff_getElem]
  constructor
  · rintro ⟨hk, h, _⟩
    exact ⟨l[k], List.getElem?_eq_getElem hk, by simpa using h⟩
  · rintro ⟨x, hx, rfl⟩
    obtain ⟨hk, he⟩ := List.getElem?_eq_some_iff.1 hx
    refine ⟨hk, by simp [he], fun j hj => ?_⟩
    simp only [decide_eq_true_eq]
    intro hn
    have := name_one hR (List.getElem?_eq_getElem (by omega)) hx hn
    omega
theorem placeOf_lt {l : List Node} {t : ByteArray} {k : Nat} (h : placeOf l t = some k) : k < l.length := by
  unfold placeOf at h
  rw [List.findIdx?_eq_some_iff_getElem] at h
  exact h.1
theorem placeOf_none {l : List Node} {t : ByteArray} (h : placeOf l t = none) : ∀ x ∈ l, x.name ≠ t := by
  unfold placeOf at h
  rw [List.findIdx?_eq_none_iff] at h
  intro x hx
  have := h x hx
  simpa using this
/-- The mask of a node's uses. -/
theorem uses_mask {l : List Node} (hR : Rising Node.name l) {i : Nat} {x : Node} (hx : l[i]? = some x) (j : Nat) : (maskOf (placeOf l) x.uses).testBit j = usesN l i j := by
  rw [maskOf_bit]
  unfold usesN
  rw [hx]
  cases hy : l[j]? with
  | none =>
    simp only
    rw [List.any_eq_false]
    intro s _
    simp only [decide_eq_true_eq]
    intro h
    have := placeOf_lt h
    rw [List.getElem?_eq_getElem this] at hy; cases hy
  | some y =>
    simp only
    apply Bool.eq_iff_iff.2
    rw [List.any_eq_true, hasS_iff]
    constructor
    · rintro ⟨s, hs, h⟩
      obtain ⟨z, hz, rfl⟩ := (placeOf_some hR).1 (by simpa using h)
      rw [hy] at hz; injection hz with hz; subst hz
      exact hs
    · intro h
      exact ⟨_, h, by simpa using (placeOf_some hR).2 ⟨y, hy, rfl⟩⟩
theorem uses_lt {l : List Node} {i j : Nat} (h : usesN l i j = true) : i < l.length ∧ j < l.length := by
  unfold usesN at h
  split at h
  · next x y hx hy => exact ⟨(List.getElem?_eq_some_iff.1 hx).1, (List.getElem?_eq_some_iff.1 hy).1⟩
  · cases h

/-- What follows on texts that are seen. -/
def nextOf (l : List Node) (S : ByteArray → Bool) (t : ByteArray) : Bool := l.any fun x => S x.name && hasS x.uses t
/-- What is seen, from a name on, behind so many steps. -/
def seenT (l : List Node) (f : ByteArray) : Nat → ByteArray → Bool
  | 0, t => decide (t = f)
  | 1, t => nextOf l (fun t => decide (t = f)) t
  | s + 2, t => seenT l f (s + 1) t || nextOf l (seenT l f (s + 1)) t
theorem seenT_one (l : List Node) (f t : ByteArray) : seenT l f 1 t = nextOf l (seenT l f 0) t := rfl
theorem seenT_more (l : List Node) (f t : ByteArray) (s : Nat) : seenT l f (s + 2) t = (seenT l f (s + 1) t || nextOf l (seenT l f (s + 1)) t) := rfl
/-- Does a name lead to one in so many steps? -/
def leadsB (l : List Node) (f t : ByteArray) (n : Nat) : Bool := (List.range n).any fun s => nextOf l (seenT l f s) t
theorem leads_hit {l : List Node} {f t : ByteArray} {n s : Nat} (hs : s < n) (h : nextOf l (seenT l f s) t = true) : leadsB l f t n = true := List.any_eq_true.2 ⟨s, List.mem_range.2 hs, h⟩
theorem leads_miss {l : List Node} {f t : ByteArray} {n : Nat} (h : ∀ s, s < n → nextOf l (seenT l f s) t = false) : leadsB l f t n = false := by
  unfold leadsB
  rw [List.any_eq_false]
  intro s hs
  simp [h s (List.mem_range.1 hs)]
theorem leads_seen {l : List Node} {f t : ByteArray} : ∀ n, leadsB l f t (n + 1) = seenT l f (n + 1) t
  | 0 => by unfold leadsB; simp [seenT_one]
  | n + 1 => by
    have ih := leads_seen (l := l) (f := f) (t := t) n
    unfold leadsB at ih ⊢
    rw [List.range_succ, List.any_append, ih, seenT_more]
    simp
theorem any_range {l : List Node} {p : Node → Bool} : l.any p = (List.range l.length).any fun m => match l[m]? with | some x => p x | none => false := by
  apply Bool.eq_iff_iff.2
  rw [List.any_eq_true, List.any_eq_true]
  constructor
  · rintro ⟨x, hx, h⟩
    obtain ⟨m, hm, rfl⟩ := List.mem_iff_getElem.1 hx
    exact ⟨m, List.mem_range.2 hm, by rw [List.getElem?_eq_getElem hm]; exact h⟩
  · rintro ⟨m, hm, h⟩
    have hm := List.mem_range.1 hm
    rw [List.getElem?_eq_getElem hm] at h
    exact ⟨_, List.getElem_mem hm, h⟩
theorem seen_step {l : List Node} (hR : Rising Node.name l) {i : Nat} {x : Node} (hx : l[i]? = some x) : ∀ (s j : Nat) (y : Node), l[j]? = some y → seenT l x.name (s + 1) y.name = stepTo (usesN l) l.length i s j
  | 0, j, y, hy => by
    show nextOf l (fun t => decide (t = x.name)) y.name = usesN l i j
    unfold nextOf usesN
    rw [hx, hy]
    simp only
    apply Bool.eq_iff_iff.2
    rw [List.any_eq_true]
    constructor
    · rintro ⟨z, hz, h⟩
      rw [Bool.and_eq_true] at h
      obtain ⟨m, hm, rfl⟩ := List.mem_iff_getElem.1 hz
      have := name_one hR (List.getElem?_eq_getElem hm) hx (by simpa using h.1)
      subst this
      rw [List.getElem?_eq_getElem hm] at hx; injection hx with hx; subst hx
      exact h.2
    · intro h
      exact ⟨x, List.mem_of_getElem? hx, by rw [h]; simp⟩
  | s + 1, j, y, hy => by
    rw [seenT_more, stepTo_succ, seen_step hR hx s j y hy]
    congr 1
    unfold nextOf
    rw [any_range]
    apply Bool.eq_iff_iff.2
    rw [List.any_eq_true, List.any_eq_true]
    constructor
    · rintro ⟨m, hm, h⟩
      refine ⟨m, hm, ?_⟩
      have hml := List.mem_range.1 hm
      rw [List.getElem?_eq_getElem hml] at h
      simp only at h
      rw [seen_step hR hx s m _ (List.getElem?_eq_getElem hml)] at h
      unfold usesN
      rw [List.getElem?_eq_getElem hml, hy]
      exact h
    · rintro ⟨m, hm, h⟩
      refine ⟨m, hm, ?_⟩
      have hml := List.mem_range.1 hm
      rw [List.getElem?_eq_getElem hml]
      simp only
      rw [seen_step hR hx s m _ (List.getElem?_eq_getElem hml)]
      unfold usesN at h
      rw [List.getElem?_eq_getElem hml, hy] at h
      exact h

/-- Is a node in a round? -/
def inRound (l : List Node) (i : Nat) : Bool := stepTo (usesN l) l.length i 11 i
theorem round_leads {l : List Node} (hR : Rising Node.name l) {i : Nat} {x : Node} (hx : l[i]? = some x) : leadsB l x.name x.name 12 = inRound l i := by
  rw [leads_seen 11, seen_step hR hx 11 i x hx]; rfl
theorem round_via {l : List Node} (h10 : l.length ≤ 10) {i : Nat} (hi : i < l.length) : inRound l i = true ↔ Via (usesN l) l.length i i := step_via hi (by omega)
/-- The names of the rounds' nodes, up to a place. -/
def roundsTo (l : List Node) (k : Nat) : List ByteArray := ((List.range k).filter (inRound l)).map (nameAt l)
def roundsOf (l : List Node) : List ByteArray := roundsTo l l.length
theorem roundsTo_succ (l : List Node) (k : Nat) : roundsTo l (k + 1) = roundsTo l k ++ if inRound l k then [nameAt l k] else [] := by
  unfold roundsTo
  rw [List.range_succ, List.filter_append, List.map_append]
  congr 1
  cases h : inRound l k <;> simp [h]
theorem roundsTo_le (l : List Node) (k : Nat) : (roundsTo l k).length ≤ k := by
  unfold roundsTo
  rw [List.length_map]
  exact Nat.le_trans (List.length_filter_le _ _) (by simp)
/-- The order's names, behind so many turns. -/
def orderTo (l : List Node) (k : Nat) : List ByteArray := (orderN (usesN l) (inRound l) l.length k).map (nameAt l)
def orderOf (l : List Node) : List ByteArray := orderTo l l.length
theorem orderTo_le (l : List Node) (k : Nat) : (orderTo l k).length ≤ k := by
  unfold orderTo
  rw [List.length_map]
  exact (orderN_lt k).2

theorem names_has {l : List Node} (hR : Rising Node.name l) {is : List Nat} (his : ∀ i ∈ is, i < l.length) {j : Nat} {y : Node} (hy : l[j]? = some y) : hasS (is.map (nameAt l)) y.name = is.contains j := by
  apply Bool.eq_iff_iff.2
  rw [hasS_iff, List.contains_eq_mem, decide_eq_true_eq, List.mem_map]
  constructor
  · rintro ⟨i, hi, h⟩
    have hil := his i hi
    rw [nameAt_some (List.getElem?_eq_getElem hil)] at h
    rw [← name_one hR (List.getElem?_eq_getElem hil) hy h]; exact hi
  · intro h
    exact ⟨j, h, nameAt_some hy⟩
theorem rounds_has {l : List Node} (hR : Rising Node.name l) {j : Nat} {y : Node} (hy : l[j]? = some y) : hasS (roundsOf l) y.name = inRound l j := by
  have hj := (List.getElem?_eq_some_iff.1 hy).1
  unfold roundsOf roundsTo
  rw [names_has hR (fun i hi => List.mem_range.1 (List.mem_filter.1 hi).1) hy, List.contains_eq_mem]
  apply Bool.eq_iff_iff.2
  rw [decide_eq_true_eq, List.mem_filter]
  exact ⟨fun h => h.2, fun h => ⟨List.mem_range.2 hj, h⟩⟩
/-- May a use be, as the document's answer asks? -/
def useFine (l : List Node) (os : List ByteArray) (u : ByteArray) : Bool := !(hasS (l.map Node.name) u) || (hasS (roundsOf l) u || hasS os u)
def readyR (l : List Node) (os : List ByteArray) (x : Node) : Bool := (!(hasS (roundsOf l) x.name) && !(hasS os x.name)) && x.uses.all (useFine l os)
theorem ready_ref {l : List Node} (hR : Rising Node.name l) {ds : List Nat} (hds : ∀ i ∈ ds, i < l.length) {i : Nat} {x : Node} (hx : l[i]? = some x) :
    readyR l (ds.map (nameAt l)) x = readyN (usesN l) (inRound l) l.length ds i := by
  unfold readyR readyN
  rw [rounds_has hR hx, names_has hR hds hx]
  congr 1
  · cases inRound l i <;> cases ds.contains i <;> rfl
  · apply Bool.eq_iff_iff.2
    rw [List.all_eq_true, List.all_eq_true]
    constructor
    · intro h k hk
      have hkl := List.mem_range.1 hk
      have hy := List.getElem?_eq_getElem hkl
      cases hu : usesN l i k with
      | false => rfl
      | true =>
        unfold usesN at hu
        rw [hx, hy] at hu
        have := h _ (hasS_iff.1 hu)
        unfold useFine at this
        rw [rounds_has hR hy, names_has hR hds hy, hasS_iff.2 (List.mem_map.2 ⟨_, List.getElem_mem hkl, rfl⟩)] at this
        simpa using this
    · intro h u hu
      unfold useFine
      cases hp : hasS (l.map Node.name) u with
      | false => rfl
      | true =>
        obtain ⟨y, hy, rfl⟩ := List.mem_map.1 (hasS_iff.1 hp)
        obtain ⟨k, hk, rfl⟩ := List.mem_iff_getElem.1 hy
        have hy := List.getElem?_eq_getElem hk
        rw [rounds_has hR hy, names_has hR hds hy]
        have := h k (List.mem_range.2 hk)
        have hE : usesN l i k = true := by unfold usesN; rw [hx, hy]; exact hasS_iff.2 hu
        rw [hE] at this
        simpa using this
theorem order_step {l : List Node} {s i : Nat} {x : Node} (hR : Rising Node.name l) (hx : l[i]? = some x) (h : readyR l (orderTo l s) x = true) (hb : ∀ j, j < i → ∀ y, l[j]? = some y → readyR l (orderTo l s) y = false) : orderTo l (s + 1) = orderTo l s ++ [x.name] := by
  have hlt := (orderN_lt (E := usesN l) (R := inRound l) (n := l.length) s).1
  have hi := (List.getElem?_eq_some_iff.1 hx).1
  unfold orderTo
  show (nextN _ _ _ _).map _ = _
  rw [nextN_hit hi (by rw [← ready_ref hR hlt hx]; exact h) (fun j hj => by rw [← ready_ref hR hlt (List.getElem?_eq_getElem (show j < l.length by omega))]; exact hb j hj _ (List.getElem?_eq_getElem _)), List.map_append]
  simp [nameAt_some hx]
theorem order_stop {l : List Node} {s : Nat} (hR : Rising Node.name l) (hb : ∀ j, j < l.length → ∀ y, l[j]? = some y → readyR l (orderTo l s) y = false) : orderTo l (s + 1) = orderTo l s := by
  have hlt := (orderN_lt (E := usesN l) (R := inRound l) (n := l.length) s).1
  unfold orderTo
  show (nextN _ _ _ _).map _ = _
  rw [nextN_none (fun j hj => by rw [← ready_ref hR hlt (List.getElem?_eq_getElem hj)]; exact hb j hj _ (List.getElem?_eq_getElem _))]

end Go.Proofs.YtafhepilcmimlaaDoor
