/- Texts that belong together: OrdPlain, OrdLaw, StrSort, Concat. -/
import Derived.Test.YtafhepilcmimlaaDoorGraphPlain2
import Derived.Test.YtafhepilcmimlaaDoorGraphErr
import Derived.Test.YtafhepilcmimlaaDoorStrs
import Derived.Test.YtafhepilcmimlaaDoorShelf
import Derived.Test.YtafhepilcmimlaaDoorSortLays
import Derived.Test.YtafhepilcmimlaaDoorBase
import Derived.Lib.SlicesCompact
import Derived.Sort.OwnSorted
import Derived.Sort.Grow
import Derived.Lib.OwnBridge
import Derived.Handy
/- Who uses stands behind what it uses; each node is told once. Plain facts. -/
namespace Go.Proofs.YtafhepilcmimlaaDoor
open Go.RowKit

section
variable {E : Nat → Nat → Bool} {R : Nat → Bool} {n : Nat}
theorem ready_iff {ds : List Nat} {i : Nat} : readyN E R n ds i = true ↔ R i = false ∧ i ∉ ds ∧ ∀ k, k < n → E i k = true → R k = true ∨ k ∈ ds := by
  have hcon : ∀ k, ds.contains k = true ↔ k ∈ ds := fun k => List.contains_iff_mem
  unfold readyN
  rw [Bool.and_eq_true, Bool.not_eq_true', List.all_eq_true]
  constructor
  · rintro ⟨h1, h3⟩
    rw [Bool.or_eq_false_iff] at h1
    refine ⟨h1.1, fun e => ?_, fun k hk he => ?_⟩
    · rw [(hcon i).2 e] at h1; cases h1.2
    · have h := h3 k (List.mem_range.2 hk)
      rw [he, Bool.not_true, Bool.false_or, Bool.or_eq_true] at h
      exact h.imp id (hcon k).1
  · rintro ⟨h1, h2, h3⟩
    refine ⟨?_, fun k hk => ?_⟩
    · rw [h1, Bool.false_or, Bool.eq_false_iff]; exact fun e => h2 ((hcon i).1 e)
    · cases he : E i k with
      | false => rfl
      | true =>
        rw [Bool.not_true, Bool.false_or, Bool.or_eq_true]
        exact (h3 k (List.mem_range.1 hk) he).imp id (hcon k).2

/-- Each stands once, none is in a round, and what it uses is in a round or stands ahead of it. -/
def Good (E : Nat → Nat → Bool) (R : Nat → Bool) (n : Nat) (ds : List Nat) : Prop :=
  ds.Nodup ∧ (∀ i ∈ ds, i < n ∧ R i = false) ∧ ∀ (a i : Nat), ds[a]? = some i → ∀ k, k < n → E i k = true → R k = true ∨ ∃ b : Nat, b < a ∧ ds[b]? = some k
theorem good_next {ds : List Nat} (h : Good E R n ds) : Good E R n (nextN E R n ds) := by
  unfold nextN
  split
  · next i hi =>
    have hin : i < n := List.mem_range.1 (List.mem_of_find?_eq_some hi)
    obtain ⟨h1, h2, h3⟩ := ready_iff.1 (List.find?_some hi)
    obtain ⟨g1, g2, g3⟩ := h
    refine ⟨?_, ?_, ?_⟩
    · rw [List.nodup_append]
      refine ⟨g1, by simp, ?_⟩
      intro a ha b hb e
      simp at hb
      subst hb; subst e
      exact h2 ha
    · intro j hj
      rcases List.mem_append.1 hj with hj | hj
      · exact g2 j hj
      · simp at hj; subst hj; exact ⟨hin, h1⟩
    · intro a j ha k hk he
      by_cases hal : a < ds.length
      · rw [List.getElem?_append_left hal] at ha
        rcases g3 a j ha k hk he with h | ⟨b, hb, hx⟩
        · exact .inl h
        · exact .inr ⟨b, hb, by rw [List.getElem?_append_left (by omega)]; exact hx⟩
      · rw [List.getElem?_append_right (by omega)] at ha
        have h0 : a - ds.length = 0 := by
          have := (List.getElem?_eq_some_iff.1 ha).1
          simp at this; omega
        rw [h0] at ha
        simp at ha
        subst ha
        rcases h3 k hk he with h | h
        · exact .inl h
        · obtain ⟨b, hb, hx⟩ := List.mem_iff_getElem.1 h
          exact .inr ⟨b, by omega, by rw [List.getElem?_append_left hb, List.getElem?_eq_getElem hb, hx]⟩
  · exact h
theorem good_order : ∀ s, Good E R n (orderN E R n s)
  | 0 => ⟨List.nodup_nil, fun i h => by simp [orderN] at h, fun a i h => by simp [orderN] at h⟩
  | s + 1 => by
    unfold orderN
    exact good_next (good_order s)

open Classical in
/-- Where none is ready, all are told. -/
theorem none_left {ds : List Nat} (hR : ∀ i, i < n → Via E n i i → R i = true) (hno : ∀ j, j < n → readyN E R n ds j = false) : ∀ i, i < n → R i = false → i ∈ ds := by
  have key : ∀ (c i : Nat), (List.range n).countP (fun j => decide (Via E n i j)) = c → i < n → R i = false → i ∉ ds → False := by
    intro c
    induction c using Nat.strongRecOn with
    | ind c ih =>
      intro i hc hi hr hd
      have h1 := hno i hi
      have h2 : ¬ ∀ k, k < n → E i k = true → R k = true ∨ k ∈ ds := fun h => by
        rw [ready_iff.2 ⟨hr, hd, h⟩] at h1; cases h1
      obtain ⟨k, h3⟩ := Classical.not_forall.1 h2
      obtain ⟨hk, h4⟩ := Classical.not_imp.1 h3
      obtain ⟨he, h5⟩ := Classical.not_imp.1 h4
      have hkr : R k = false := by
        rw [Bool.eq_false_iff]; exact fun e => h5 (.inl e)
      have hkd : k ∉ ds := fun e => h5 (.inr e)
      refine ih _ ?_ k rfl hk hkr hkd
      rw [← hc]
      refine countP_lt (fun j _ hj => ?_) ⟨k, List.mem_range.2 hk, ?_, ?_⟩
      · rw [decide_eq_true_eq] at hj ⊢
        exact .cat (.one he) hk hj
      · rw [decide_eq_false_iff_not]
        intro hv
        rw [hR k hk hv] at hkr; cases hkr
      · rw [decide_eq_true_eq]; exact .one he
  intro i hi hr
  exact Classical.byContradiction fun hd => key _ i rfl hi hr hd
theorem order_all (hR : ∀ i, i < n → Via E n i i → R i = true) : ∀ s, (orderN E R n s).length = s ∨ ∀ i, i < n → R i = false → i ∈ orderN E R n s
  | 0 => .inl rfl
  | s + 1 => by
    cases hf : (List.range n).find? (readyN E R n (orderN E R n s)) with
    | some i =>
      have hx : orderN E R n (s + 1) = orderN E R n s ++ [i] := by show nextN E R n _ = _; unfold nextN; rw [hf]
      rw [hx]
      rcases order_all hR s with h | h
      · left; rw [List.length_append, h]; rfl
      · right; intro j hj hr; exact List.mem_append_left _ (h j hj hr)
    | none =>
      have hx : orderN E R n (s + 1) = orderN E R n s := by show nextN E R n _ = _; unfold nextN; rw [hf]
      rw [hx]
      right
      refine none_left hR fun j hj => ?_
      rw [Bool.eq_false_iff]
      exact List.find?_eq_none.1 hf j (List.mem_range.2 hj)
theorem pigeon : ∀ (n : Nat) (l : List Nat), l.Nodup → (∀ i ∈ l, i < n) → l.length ≤ n
  | 0, l, _, h => by
    cases l with
    | nil => exact Nat.le_refl _
    | cons a r => exact absurd (h a (by simp)) (Nat.not_lt_zero _)
  | n + 1, l, hn, h => by
    by_cases hm : n ∈ l
    · have h1 := pigeon n (l.erase n) (hn.erase n) fun i hi => by
        have h2 := (hn.mem_erase_iff).1 hi
        have := h i h2.2
        have := h2.1
        omega
      rw [List.length_erase_of_mem hm] at h1
      omega
    · exact Nat.le_succ_of_le (pigeon n l hn fun i hi => by
        have := h i hi
        have : i ≠ n := fun e => hm (e ▸ hi)
        omega)
theorem pigeon2 : ∀ (n : Nat) (l : List Nat), l.Nodup → (∀ i, i < n → i ∈ l) → n ≤ l.length
  | 0, _, _, _ => Nat.zero_le _
  | n + 1, l, hn, h => by
    have hm := h n (by omega)
    have h1 := pigeon2 n (l.erase n) (hn.erase n) fun i hi => (hn.mem_erase_iff).2 ⟨by omega, h i (by omega)⟩
    have h2 : 0 < l.length := List.length_pos_of_mem hm
    rw [List.length_erase_of_mem hm] at h1
    omega
theorem nodup_map_on {α β : Type} (f : α → β) : ∀ l : List α, l.Nodup → (∀ a ∈ l, ∀ b ∈ l, f a = f b → a = b) → (l.map f).Nodup
  | [], _, _ => List.nodup_nil
  | x :: l, hn, h => by
    rw [List.nodup_cons] at hn
    rw [List.map_cons, List.nodup_cons]
    refine ⟨fun hm => ?_, nodup_map_on f l hn.2 fun a ha b hb => h a (by simp [ha]) b (by simp [hb])⟩
    obtain ⟨y, hy, he⟩ := List.mem_map.1 hm
    have := h y (by simp [hy]) x (by simp) he
    subst this
    exact hn.1 hy
/-- All that is in no round is told. -/
theorem order_full (hR : ∀ i, i < n → Via E n i i → R i = true) : ∀ i, i < n → R i = false → i ∈ orderN E R n n := by
  rcases order_all hR n with h | h
  · obtain ⟨g1, g2, _⟩ := good_order (E := E) (R := R) (n := n) n
    intro i hi _
    refine Classical.byContradiction fun hd => ?_
    have hl := pigeon n (i :: orderN E R n n) (List.nodup_cons.2 ⟨hd, g1⟩) fun j hj => by
      rcases List.mem_cons.1 hj with rfl | hj
      · exact hi
      · exact (g2 j hj).1
    rw [List.length_cons, h] at hl
    omega
  · exact h
end

end Go.Proofs.YtafhepilcmimlaaDoor

/- Who uses stands behind what it uses, in the order of fitting nodes. Plain facts. -/
namespace Go.Proofs.YtafhepilcmimlaaDoor
open Go.RowKit

theorem nodup_at {α : Type} {l : List α} (h : l.Nodup) {i j : Nat} {x : α} (hi : l[i]? = some x) (hj : l[j]? = some x) : i = j := by
  obtain ⟨hi1, hi2⟩ := List.getElem?_eq_some_iff.1 hi
  obtain ⟨hj1, hj2⟩ := List.getElem?_eq_some_iff.1 hj
  have hp := List.pairwise_iff_getElem.1 h
  rcases Nat.lt_trichotomy i j with e | e | e
  · exact absurd (hi2.trans hj2.symm) (hp i j hi1 hj1 e)
  · exact e
  · exact absurd (hj2.trans hi2.symm) (hp j i hj1 hi1 e)
/-- Nodes that fit: six, sorted, that use nothing but each other. -/
structure NodesFit (l : List Node) : Prop where
  len : l.length = 6
  rising : Rising Node.name l
  fine : ∀ x ∈ l, nameOk x.name = true ∧ x.uses.length ≤ 24 ∧ ∀ u ∈ x.uses, nameOk u = true ∧ ∃ y ∈ l, y.name = u

/-- Where a name is told. -/
theorem order_place {l : List Node} {t : ByteArray} (a : Nat) (ht : fidx (isS t) (orderOf l) = a) : ∃ i, (orderN (usesN l) (inRound l) l.length l.length)[a]? = some i ∧ nameAt l i = t := by
  unfold fidx at ht
  split at ht
  · next b hb =>
    obtain rfl : b = a := by omega
    obtain ⟨hk, hp, _⟩ := List.findIdx?_eq_some_iff_getElem.1 hb
    have hk2 : b < (orderN (usesN l) (inRound l) l.length l.length).length := by
      have : (orderOf l).length = (orderN (usesN l) (inRound l) l.length l.length).length := by unfold orderOf orderTo; rw [List.length_map]
      omega
    refine ⟨_, List.getElem?_eq_getElem hk2, ?_⟩
    unfold isS at hp
    rw [decide_eq_true_eq] at hp
    rw [← hp]
    exact (List.getElem_map (nameAt l) (l := orderN (usesN l) (inRound l) l.length l.length) (i := b)).symm
  · omega
section
variable {l : List Node} (h : NodesFit l)
include h
theorem fit_bad {x : Node} (hx : x ∈ l) : nodeBad x = 0 := by
  obtain ⟨h1, h2, h3⟩ := h.fine x hx
  unfold nodeBad
  have h4 : x.uses.any useBad = false := by
    rw [List.any_eq_false]
    intro u hu
    unfold useBad
    rw [(h3 u hu).1]
    simp
  rw [h1, h4, decide_eq_true h2]
  rfl
theorem fit_err : nodesErr l = 0 := by
  unfold nodesErr
  rw [if_neg (by rw [h.len]; decide)]
  refine firstErr_none fun j hj => ?_
  have hx := List.getElem?_eq_getElem hj
  have hb := fit_bad h (List.getElem_mem hj)
  by_cases h0 : j = 0
  · subst h0
    exact itemErr_first hx hb
  · have hj1 : j - 1 < l.length := by omega
    have hy := List.getElem?_eq_getElem hj1
    rw [itemErr_next (by omega) hx hy hb]
    have := h.rising (j - 1) _ _ hy (by rw [show j - 1 + 1 = j by omega]; exact hx)
    rw [if_pos this]
theorem name_inj {i j : Nat} (hi : i < l.length) (hj : j < l.length) (he : nameAt l i = nameAt l j) : i = j := by
  have hx := List.getElem?_eq_getElem hi
  have hy := List.getElem?_eq_getElem hj
  rw [nameAt_some hx, nameAt_some hy] at he
  exact name_one h.rising hx hy he
theorem round_of : ∀ i, i < l.length → Via (usesN l) l.length i i → inRound l i = true := fun i hi hv => (round_via (by rw [h.len]; decide) hi).2 hv

/-- The places of all that is told, then of all that is in rounds. -/
theorem all_places : (orderN (usesN l) (inRound l) l.length l.length ++ (List.range l.length).filter (inRound l)).Nodup ∧ (orderN (usesN l) (inRound l) l.length l.length ++ (List.range l.length).filter (inRound l)).length = 6 ∧
    ∀ i ∈ orderN (usesN l) (inRound l) l.length l.length ++ (List.range l.length).filter (inRound l), i < l.length := by
  obtain ⟨g1, g2, _⟩ := good_order (E := usesN l) (R := inRound l) (n := l.length) l.length
  have hf := order_full (E := usesN l) (R := inRound l) (n := l.length) (round_of h)
  have hn : (orderN (usesN l) (inRound l) l.length l.length ++ (List.range l.length).filter (inRound l)).Nodup := by
    rw [List.nodup_append]
    refine ⟨g1, List.Pairwise.filter _ List.nodup_range, ?_⟩
    intro a ha b hb e
    subst e
    have h1 := (g2 a ha).2
    have h2 := (List.mem_filter.1 hb).2
    rw [h1] at h2; cases h2
  have hlt : ∀ i ∈ orderN (usesN l) (inRound l) l.length l.length ++ (List.range l.length).filter (inRound l), i < l.length := by
    intro i hi
    rcases List.mem_append.1 hi with hi | hi
    · exact (g2 i hi).1
    · exact List.mem_range.1 (List.mem_filter.1 hi).1
  refine ⟨hn, ?_, hlt⟩
  have h1 := pigeon _ _ hn hlt
  have h2 : l.length ≤ (orderN (usesN l) (inRound l) l.length l.length ++ (List.range l.length).filter (inRound l)).length := by
    refine pigeon2 _ _ hn fun i hi => ?_
    cases hr : inRound l i with
    | true => exact List.mem_append_right _ (List.mem_filter.2 ⟨List.mem_range.2 hi, hr⟩)
    | false => exact List.mem_append_left _ (hf i hi hr)
  have := h.len
  omega
theorem all_names : (orderOf l ++ roundsOf l).Nodup ∧ (orderOf l ++ roundsOf l).length = 6 := by
  obtain ⟨h1, h2, h3⟩ := all_places h
  have he : orderOf l ++ roundsOf l = (orderN (usesN l) (inRound l) l.length l.length ++ (List.range l.length).filter (inRound l)).map (nameAt l) := by
    rw [List.map_append]; rfl
  rw [he, List.length_map]
  exact ⟨nodup_map_on _ _ h1 fun a ha b hb e => name_inj h (h3 a ha) (h3 b hb) e, h2⟩
/-- Rounds stand sorted. -/
theorem rounds_sorted : (roundsOf l).Pairwise fun a b => ltS a b = true := by
  unfold roundsOf roundsTo
  rw [List.pairwise_map]
  refine List.Pairwise.imp_of_mem (R := (· < ·)) ?_ (List.Pairwise.filter _ List.pairwise_lt_range)
  intro a b ha hb hab
  have hb1 := List.mem_range.1 (List.mem_filter.1 hb).1
  have ha1 := List.mem_range.1 (List.mem_filter.1 ha).1
  have hx := List.getElem?_eq_getElem ha1
  have hy := List.getElem?_eq_getElem hb1
  rw [nameAt_some hx, nameAt_some hy]
  exact h.rising.lt hab hx hy
/-- Who uses stands behind what it uses. -/
theorem uses_ahead {x : Node} {u : ByteArray} {a : Nat} (hx : x ∈ l) (hu : u ∈ x.uses) (ha : fidx (isS x.name) (orderOf l) = a) : fidx (isS u) (orderOf l) < a := by
  obtain ⟨g1, g2, g3⟩ := good_order (E := usesN l) (R := inRound l) (n := l.length) l.length
  obtain ⟨i, hi, hn⟩ := order_place a ha
  have him := g2 i (List.mem_of_getElem? hi)
  have hxi := List.getElem?_eq_getElem him.1
  rw [nameAt_some hxi] at hn
  have hxe : l[i] = x := by
    obtain ⟨j, hj, rfl⟩ := List.mem_iff_getElem.1 hx
    have := name_one h.rising hxi (List.getElem?_eq_getElem hj) hn
    subst this; rfl
  obtain ⟨_, y, hy, hyu⟩ := (h.fine x hx).2.2 u hu
  obtain ⟨m, hm, hym⟩ := List.mem_iff_getElem.1 hy
  have hE : usesN l i m = true := by
    unfold usesN
    rw [hxi, List.getElem?_eq_getElem hm]
    simp only
    rw [hxe, hasS_iff, hym, hyu]
    exact hu
  cases hk : fidx (isS u) (orderOf l) with
  | negSucc k => omega
  | ofNat k =>
    obtain ⟨j, hj, hjn⟩ := order_place k hk
    have hjm := g2 j (List.mem_of_getElem? hj)
    have hjm2 : j = m := by
      refine name_inj h hjm.1 hm ?_
      rw [hjn, nameAt_some (List.getElem?_eq_getElem hm), hym, hyu]
    subst hjm2
    rcases g3 a i hi j hm hE with hr | ⟨b, hb, hbj⟩
    · rw [hjm.2] at hr; cases hr
    · have : k = b := by
        exact nodup_at g1 hj hbj
      show ((k : Nat) : Int) < a
      omega
end

theorem compact_nodup {zs : List (List UInt8)} (h : zs.Nodup) : (Lib.compact zs).length = zs.length := by
  unfold Lib.compact Lib.compactUpTo
  rw [List.length_map]
  have hk : ∀ j ∈ List.range zs.length, Lib.keeps zs.toArray j = true := by
    intro j hj
    have hjl := List.mem_range.1 hj
    by_cases h0 : j = 0
    · exact Lib.keeps_lt_one _ j (by omega)
    · refine Lib.keeps_pos fun e => ?_
      have hj1 : j - 1 < zs.length := by omega
      have e1 : zs.toArray[j]! = zs[j] := by rw [getElem!_pos _ _ (by simpa using hjl)]; simp
      have e2 : zs.toArray[j - 1]! = zs[j - 1] := by rw [getElem!_pos _ _ (by simpa using hj1)]; simp
      rw [e1, e2] at e
      have := nodup_at h (List.getElem?_eq_getElem hjl) (e ▸ List.getElem?_eq_getElem hj1)
      omega
  rw [List.filter_eq_self.2 hk, List.length_range]

end Go.Proofs.YtafhepilcmimlaaDoor

/- slices.Sort, slices.Compact, slices.IsSorted at strings; slices.Concat of two lists. -/
namespace Go.Proofs.YtafhepilcmimlaaDoor
open Go.RowKit Go.Shelf

/-- The bytes of texts. -/
def bytesL (L : List ByteArray) : List (List UInt8) := L.map (·.data.toList)
theorem rows_enc {w : World} {F : Foot} {xs : List Value} {L : List ByteArray} (h : RowsR StrR 1 w F xs L) : xs = (bytesL L).map encStr := by
  refine List.ext_getElem? fun i => ?_
  cases hx : L[i]? with
  | none =>
    have h1 : L.length ≤ i := List.getElem?_eq_none_iff.1 hx
    rw [List.getElem?_eq_none (by rw [h.1]; omega), List.getElem?_eq_none (by simp [bytesL]; omega)]
  | some s =>
    obtain ⟨cs, _, ⟨rfl, _⟩, h3⟩ := h.2 i s hx
    have h4 := h3 0 _ rfl
    rw [Nat.mul_one, Nat.add_zero] at h4
    rw [h4]
    unfold bytesL
    rw [List.getElem?_map, List.getElem?_map, hx]
    simp [encStr]

theorem sortStr_any {base : Nat} {w : World} {v : Value} {L : List ByteArray} (h : Owns StrR 1 9 base w none_ v L) (h0 : 0 < L.length) (h6 : L.length ≤ 1000000) (hb : base ≤ w.heap.size) :
    Calls Tryd.prog 10 #[v] w fun e w' => e = .returned (.tuple #[]) ∧ Below base w w' ∧ ∃ zs : List (List UInt8), zs.Perm (bytesL L) ∧ w'.ownsRow base 9 1 v L.length (zs.map encStr) := by
  obtain ⟨xs, hrow, hrows, _⟩ := h
  have hx := rows_enc hrows
  subst hx
  rcases hrow.2 with ⟨rfl, hz⟩ | ⟨g, cap, cur, rfl, hbg, hcell, hlc, hcm, hcs, htk⟩
  · omega
  obtain ⟨g', cap', e1, _, hgl, hnc, _, hlen, hH⟩ := Lib.holds_of_ownsRow hrow (by simp)
  injection e1 with e1 _ e2
  injection e1 with e1
  injection e1 with e1
  subst e1; subst e2
  have hs := Tryd.slices_Sort_string g 0 cap (bytesL L) w hH hgl (by omega)
  rw [hlen] at hs
  refine hs.mono ?_
  rintro e w' ⟨he, n, os, rfl⟩
  have hl2 : ((bytesL L).mergeSort fun x y => decide (x ≤ y)).length = (bytesL L).length := List.length_mergeSort _
  refine ⟨he, (Below.refl base w).grown (grownBy_sorted _) hb (fun j hj => by cases hj; exact hbg), (bytesL L).mergeSort (fun x y => decide (x ≤ y)), List.mergeSort_perm (bytesL L) (fun x y => decide (x ≤ y)), ?_⟩
  have ho := ownsRow_sorted (n := n) (os := os) (ts := (bytesL L).mergeSort fun x y => decide (x ≤ y)) hl2 hbg hcell (by omega) hcm hcs
  rw [hlen] at ho
  exact ho
theorem compactStr_any {base : Nat} {w : World} {g n cap : Nat} {zs : List (List UInt8)} (h : w.ownsRow base 9 1 (.slice (some ⟨g, 0, none⟩) n cap) n (zs.map encStr)) (hn : zs.Nodup) (h6 : n ≤ 1000000) (hb : base ≤ w.heap.size) (hcap : n ≤ cap) :
    Calls Tryd.prog 12 #[.slice (some ⟨g, 0, none⟩) n cap] w fun e w' => e = .returned (.slice (some ⟨g, 0, none⟩) n cap) ∧ Below base w w' := by
  obtain ⟨g', cap', e1, hbg, hgl, hnc, _, hlen, hH⟩ := Lib.holds_of_ownsRow h (by simp)
  injection e1 with e1 _ e2
  injection e1 with e1
  injection e1 with e1
  subst e1; subst e2
  have hc := Tryd.slices_Compact_string g 0 cap zs w hH (by omega) (by omega)
  rw [compact_nodup hn, hlen] at hc
  refine hc.mono ?_
  rintro e w' ⟨he, q, rfl⟩
  exact ⟨he, Lib.below_putRow (Below.refl base w) hbg⟩
theorem sortedStr_any {w : World} {F : Foot} {v : Value} {L : List ByteArray} (hv : SliceOf StrR 1 16 w F v L) (h6 : L.length ≤ 1000000) (hp : L.Pairwise fun a b => ltS a b = true) :
    Calls Tryd.prog 11 #[v] w fun e w' => e = .returned (.bool true) ∧ Below w.heap.size w w' := by
  obtain ⟨A, cap, rfl, h1, h2, h3, h3', h4⟩ := hv
  cases L with
  | nil => exact (AnyO.slices_IsSorted_string_none Tryd.sortedStr A cap w).mono fun e w' ⟨he, hw⟩ => ⟨he, hw ▸ Below.refl _ _⟩
  | cons x r =>
    obtain ⟨b, off, rfl, hb, hx⟩ := h4 (by simp)
    have hc := AnyO.slices_IsSorted_string Tryd.sortedStr b off cap (x :: r).toArray w (fun i hi => ?_) (by simp at h6 ⊢; omega)
    · have hd : Lib.downOK (fun x y : ByteArray => decide (x.data.toList < y.data.toList)) (x :: r).toArray ((x :: r).toArray.size - 1) = true := by
        rw [Lib.downOK_iff]
        intro i hi
        have hi1 : i + 1 < (x :: r).length := by simp at hi ⊢; omega
        have hi0 : i < (x :: r).length := by omega
        rw [getElem!_pos _ _ (by simpa using hi1), getElem!_pos _ _ (by simpa using hi0)]
        have h5 := List.pairwise_iff_getElem.1 hp i (i + 1) hi0 hi1 (by omega)
        have h6 := ltS_asymm h5
        rw [decide_eq_false_iff_not]
        intro hlt
        rw [List.getElem_toArray, List.getElem_toArray] at hlt
        rw [(ltS_iff _ _).2 hlt] at h6; cases h6
      rw [hd] at hc
      refine (show Calls Tryd.prog _ #[.slice (some ⟨b, off, none⟩) (x :: r).length cap] w _ from hc).mono ?_
      rintro e w' ⟨he, q, rfl⟩
      exact ⟨he, below_drewN (Below.refl _ _) q⟩
    · have hi' : i < (x :: r).length := by simpa using hi
      obtain ⟨cs, hl, ⟨rfl, _⟩, h5⟩ := hx i ((x :: r)[i]'hi') (List.getElem?_eq_getElem hi')
      have h6 := h5 0 _ rfl
      rw [Nat.mul_one, Nat.add_zero] at h6
      rw [h6, getElem!_pos (x :: r).toArray i hi, List.getElem_toArray]

end Go.Proofs.YtafhepilcmimlaaDoor

/- slices.Concat of two lists of texts. -/
namespace Go.Proofs.YtafhepilcmimlaaDoor
open Go.RowKit Go.Shelf

theorem strR_one {w : World} {F : Foot} (cs : List Value) (x : ByteArray) (h : StrR w F cs x) : ∀ u ∈ cs, u.oneCell' = true := by
  obtain ⟨rfl, _⟩ := h
  intro u hu
  simp only [List.mem_cons, List.not_mem_nil, or_false] at hu
  subst hu
  rfl
theorem Owns.bare {e : TypeId} {base : Nat} {w : World} {F : Foot} {v : Value} {l : List ByteArray} (h : Owns StrR 1 e base w F v l) : Owns StrR 1 e base w none_ v l := by
  obtain ⟨xs, h1, h2, _⟩ := h
  exact ⟨xs, h1, ⟨h2.1, fun i x hi => by obtain ⟨cs, a, b, c⟩ := h2.2 i x hi; exact ⟨cs, a, b, c⟩⟩, fun k hk => hk.elim⟩

theorem growStr_any (n : Nat) (w : World) (h0 : 0 < n) (h6 : n ≤ 1000000) :
    Calls Tryd.prog 21 #[.slice none 0 0, .int .i64 n] w fun e w' => ∃ cap, e = .returned (.slice (some ⟨w.heap.size, 0, none⟩) 0 cap) ∧ Below w.heap.size w w' ∧ Owns StrR 1 9 w.heap.size w' none_ (.slice (some ⟨w.heap.size, 0, none⟩) 0 cap) ([] : List ByteArray) := by
  obtain ⟨i0, hi, hz0, hz1, hz2⟩ := info_parts (show (Tryd.prog.info? 9).map (fun i => (i.zero, i.size, i.bytes)) = some (some (.string ⟨#[]⟩), 1, 16) by kernel_rfl)
  have hg := Any8.slices_Grow_grow Tryd.growStr i0 (.string ⟨#[]⟩) hi hz0 (by rw [hz1]; decide) none 0 0 n [] w (Nat.le_refl _) (by omega) (by rw [hz2]; omega) (by omega) (by simp) (fun _ => rfl) (fun a h => by cases h)
  refine (show Calls Tryd.prog 21 #[.slice none 0 0, .int .i64 n] w _ from hg).mono ?_
  rintro e w' ⟨he, hw⟩
  subst hw
  refine ⟨_, he, by go_grown, [], ⟨rfl, .inr ⟨w.heap.size, _, _, rfl, Nat.le_refl _, heap_alloc_new w.drew _, Nat.zero_le _, grownCap_le_maxLen _ _ _ _ (by unfold maxLen; omega), ?_, by simp⟩⟩, RowsR.nil_, fun k hk => hk.elim⟩
  have hge := grownCap_ge w (0 + n) 0 9
  show (([] : List Value).toArray ++ Builtin.zeroCells (Value.string ⟨#[]⟩).cells (0 + n - 0) ++ Builtin.zeroCells (Value.string ⟨#[]⟩).cells (grownCap w (0 + n) 0 9 - (0 + n))).size = grownCap w (0 + n) 0 9 * 1
  rw [Array.size_append, Array.size_append, size_zeroCells, size_zeroCells, show (Value.string ⟨#[]⟩).cells.size = 1 from rfl]
  simp only [Nat.zero_add, List.size_toArray, List.length_nil, Nat.mul_one, Nat.sub_zero] at hge ⊢
  omega

set_option maxRecDepth 100000 in
set_option maxHeartbeats 4000000 in
theorem concat_any (n : Nat) (t : TypeId) (A1 : Option Addr) (c1 : Nat) (A2 : Option Addr) (c2 : Nat) (L1 L2 : List ByteArray) (F : Foot) (w : World) (hB : Box w n t #[.slice A1 L1.length c1, .slice A2 L2.length c2]) (hF : ∀ k, F k → k < w.heap.size)
    (h1 : SliceOf StrR 1 16 w F (.slice A1 L1.length c1) L1) (h2 : SliceOf StrR 1 16 w F (.slice A2 L2.length c2) L2) (h0 : 0 < L1.length + L2.length) (h6 : L1.length + L2.length ≤ 1000000) :
    Calls Tryd.prog 9 #[.slice (some ⟨n, 0, none⟩) 2 2] w fun e w' => ∃ v, e = .returned v ∧ Below w.heap.size w w' ∧ Owns StrR 1 9 w.heap.size w' none_ v (L1 ++ L2) := by
  have x0 := hB.at_ 0 _ rfl
  have x1 := hB.at_ 1 _ rfl
  have hgr := growStr_any (L1.length + L2.length) w h0 h6
  rw [show ((L1.length + L2.length : Nat) : Int) = (L1.length : Int) + (L2.length : Int) by omega] at hgr
  have hlt := hB.lt
  have HB := Lib.hid hB; have H1 := Lib.hid h1; have H2 := Lib.hid h2; have HG := Lib.hid hgr
  clear hB h1 h2 hgr
  clear h0
  go_enter Tryd.func9, Tryd.ntmps9
  go_wp2_with fail
  go_loopg [3, 5, 11] 2 (fun gg s3 _ s11 wr => ∃ kk m : Nat, kk ≤ 2 ∧ 2 - kk ≤ gg ∧ s11 = .int .i64 kk ∧ s3 = .int .i64 m ∧ w = wr ∧ Aside ((kk = 0 → m = 0) ∧ (kk = 1 → m = L1.length) ∧ (kk = 2 → m = L1.length + L2.length)))
  case atStart => exact ⟨0, 0, by omega, by omega, rfl, rfl, rfl, aside ⟨fun _ => rfl, fun h => by omega, fun h => by omega⟩⟩
  case round =>
    obtain ⟨kk, m, hkk, hg, rfl, rfl, rfl, hm⟩ := hrel
    have hc : kk = 0 ∨ kk = 1 ∨ kk = 2 := by omega
    rcases hc with rfl | rfl | rfl
    · obtain rfl := hm.out.1 rfl
      go_wp2_with fail
      go_roundg (2 - 1)
      case measure => omega
      case rel => exact ⟨1, L1.length, by omega, by omega, by first | rfl | go_num, by first | rfl | simp, rfl, aside ⟨fun h => by omega, fun _ => rfl, fun h => by omega⟩⟩
    · obtain rfl := hm.out.2.1 rfl
      go_wp2_with fail
      go_roundg (2 - 2)
      case measure => omega
      case rel => exact ⟨2, L1.length + L2.length, by omega, by omega, by first | rfl | go_num, by first | rfl | (simp; done) | (congr 1; omega), rfl, aside ⟨fun h => by omega, fun h => by omega, fun _ => rfl⟩⟩
    · obtain rfl := hm.out.2.2 rfl
      rw [show ((L1.length + L2.length : Nat) : Int) = (L1.length : Int) + (L2.length : Int) by omega]
      go_wp2_with fail
      refine HG.out.mono ?_
      rintro e W2 ⟨cap, rfl, hb2, hO⟩
      have hB2 := HB.out.later hb2 hlt
      clear x0 x1
      have x0 := hB2.at_ 0 _ rfl
      have x1 := hB2.at_ 1 _ rfl
      have HB2 := Lib.hid hb2; have HO := Lib.hid hO; have HBx := Lib.hid hB2
      clear hb2 hO hB2
      go_wp2_with fail
      go_loopg [6, 8, 27] 2 (fun gg s6 _ s27 wr => ∃ (kk n c : Nat) (A : Option Addr) (L : List ByteArray), kk ≤ 2 ∧ 2 - kk ≤ gg ∧ s27 = .int .i64 kk ∧ s6 = .slice A n c ∧ Aside (n = L.length) ∧ Aside ((kk = 0 → L = []) ∧ (kk = 1 → L = L1) ∧ (kk = 2 → L = L1 ++ L2)) ∧ Aside (Below w.heap.size w wr) ∧ Aside (Owns StrR 1 9 w.heap.size wr none_ (.slice A n c) L))
      case atStart => exact ⟨0, 0, cap, some ⟨w.heap.size, 0, none⟩, [], by omega, by omega, rfl, rfl, aside rfl, aside ⟨fun _ => rfl, fun h => by omega, fun h => by omega⟩, aside HB2.out, aside HO.out⟩
      case round =>
        obtain ⟨kk, n', c', A', L, hkk, hg, rfl, rfl, hn, hm, BW, hO⟩ := hrel
        have hB3 := HB.out.later BW.out hlt
        clear x0 x1
        have x0 := hB3.at_ 0 _ rfl
        have x1 := hB3.at_ 1 _ rfl
        have hs1 := H1.out.up StrR.stays hF BW.out
        have hs2 := H2.out.up StrR.stays hF BW.out
        have hfr : ∀ k, F k → k < wr.heap.size ∧ some k ≠ (Value.slice A' n' c').ownBlock := fun k hk => ⟨foot_up hF BW.out k hk, fun e => by
          have h3 := hO.out.row e.symm
          have := hF k hk
          omega⟩
        have hc : kk = 0 ∨ kk = 1 ∨ kk = 2 := by omega
        rcases hc with rfl | rfl | rfl
        · obtain rfl := hm.out.1 rfl
          obtain rfl : n' = 0 := hn.out
          have HS1 := Lib.hid hs1; have HFR := Lib.hid hfr
          clear hs1 hfr
          clear hs2 hB3
          go_wp2_with (at_builtin; go_must ((refine wpList_push_list (F := none_) (l := ([] : List ByteArray)) StrR.stays (strR_one (w := wr) (F := F)) (.string ⟨#[]⟩) _ _ _ rfl rfl Tryd.underlying25 (bytes := 16) (by kernel_rfl) hO.out rfl rfl (by decide) rfl HS1.out HFR.out (by unfold maxLen; simp; omega) (by simp; omega) BW.out.size ?_); (intro A6 c6 W7 hO6 hgr _; have hb6 := BW.out.trans (hgr.below (B := w.heap.size) (Nat.le_refl _) BW.out.size); have HO6 := Lib.hid hO6; have HB6 := Lib.hid hb6; clear hO6 hgr hb6)))
          go_roundg (2 - 1)
          case measure => omega
          case rel => exact ⟨1, _, c6, A6, L1, by omega, by omega, by first | rfl | go_num, rfl, aside (by simp), aside ⟨fun h => by omega, fun _ => rfl, fun h => by omega⟩, aside HB6.out, aside (by
            have h := HO6.out.bare
            simpa using h)⟩
        · obtain rfl := hm.out.2.1 rfl
          obtain rfl : n' = L.length := hn.out
          have HS2 := Lib.hid hs2; have HFR := Lib.hid hfr
          clear hs2 hfr
          clear hs1 hB3
          go_wp2_with (at_builtin; go_must ((refine wpList_push_list (F := none_) (l := L) StrR.stays (strR_one (w := wr) (F := F)) (.string ⟨#[]⟩) _ _ _ rfl rfl Tryd.underlying25 (bytes := 16) (by kernel_rfl) hO.out rfl rfl (by decide) rfl HS2.out HFR.out (by unfold maxLen; omega) (by omega) BW.out.size ?_); (intro A6 c6 W7 hO6 hgr _; have hb6 := BW.out.trans (hgr.below (B := w.heap.size) (Nat.le_refl _) BW.out.size); have HO6 := Lib.hid hO6; have HB6 := Lib.hid hb6; clear hO6 hgr hb6)))
          go_roundg (2 - 2)
          case measure => omega
          case rel => exact ⟨2, _, c6, A6, L ++ L2, by omega, by omega, by first | rfl | go_num, rfl, aside (by simp), aside ⟨fun h => by omega, fun h => by omega, fun _ => rfl⟩, aside HB6.out, aside HO6.out.bare⟩
        · obtain rfl := hm.out.2.2 rfl
          clear hs1 hs2 hB3 hfr
          go_wp2_with fail
          go_ret
          obtain rfl : n' = _ := hn.out
          exact ⟨_, rfl, BW.out, hO.out⟩

end Go.Proofs.YtafhepilcmimlaaDoor
