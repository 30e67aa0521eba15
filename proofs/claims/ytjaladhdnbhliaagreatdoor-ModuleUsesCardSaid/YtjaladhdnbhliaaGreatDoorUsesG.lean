/- Texts that belong together: UsedPlain, UsesSort, ModUses. -/
import Derived.Test.YtjaladhdnbhliaaGreatDoorLayIn
import Derived.Test.YtjaladhdnbhliaaGreatDoorTokCutG
import Derived.Test.YtjaladhdnbhliaaGreatDoorStrs
import Derived.Test.YtjaladhdnbhliaaGreatDoorShelf
import Derived.Test.YtjaladhdnbhliaaGreatDoorBase
import Derived.Test.YtjaladhdnbhliaaGreatDoorGrew
import Derived.Test.YtjaladhdnbhliaaGreatDoorTreeRead
import Derived.Lib.SlicesCompact
import Derived.Sort.LotA
import Derived.Sort.OwnSorted
import Derived.Sort.Grow
import Derived.Lib.OwnBridge
import Derived.Lib.RowBridge
import Derived.Handy
/- The names that a source uses, each once, sorted. Plain facts. -/
namespace Go.Proofs.YtjaladhdnbhliaaGreatDoor
open Go.RowKit

/-- A name is laid into a list, if it is not there. -/
def insU (acc : List ByteArray) (y : ByteArray) : List ByteArray := if hasS acc y = true then acc else insBy id y acc
def usedOf (us : List ByteArray) : List ByteArray := us.foldl insU []
/-- What a source uses. -/
def usedR (s : ByteArray) : List ByteArray := usedOf (readR s).1.uses
theorem usedOf_nil : usedOf [] = [] := rfl
theorem usedOf_snoc (us : List ByteArray) (y : ByteArray) : usedOf (us ++ [y]) = insU (usedOf us) y := by simp [usedOf, List.foldl_append]
theorem usedOf_take {us : List ByteArray} {k : Nat} {y : ByteArray} (h : us[k]? = some y) : usedOf (us.take (k + 1)) = insU (usedOf (us.take k)) y := by rw [List.take_add_one, h]; exact usedOf_snoc _ _
theorem hasU_iff {l : List ByteArray} {x : ByteArray} : hasS l x = true ↔ x ∈ l := by
  unfold hasS
  rw [List.any_eq_true]
  constructor
  · rintro ⟨y, hy, h⟩
    unfold isS at h
    have : y = x := by simpa using h
    exact this ▸ hy
  · exact fun h => ⟨x, h, by simp [isS]⟩
theorem insU_fine {acc : List ByteArray} {y : ByteArray} (h : Sorted id acc) : Sorted id (insU acc y) ∧ ∀ x, x ∈ insU acc y ↔ x ∈ acc ∨ x = y := by
  unfold insU
  cases hq : hasS acc y with
  | true =>
    rw [if_pos rfl]
    refine ⟨h, fun x => ⟨.inl, fun hx => hx.elim id fun e => ?_⟩⟩
    rw [e]; exact hasU_iff.1 hq
  | false =>
    rw [if_neg (by decide)]
    refine ⟨insBy_sorted acc h fun x hx e => ?_, fun x => ?_⟩
    · have he : x = y := e
      subst he
      rw [hasU_iff.2 hx] at hq; cases hq
    · rw [(insBy_perm (f := id) (y := y) acc).mem_iff, List.mem_cons]
      exact Or.comm
theorem used_go : ∀ (us acc : List ByteArray), Sorted id acc → Sorted id (us.foldl insU acc) ∧ ∀ x, x ∈ us.foldl insU acc ↔ x ∈ us ∨ x ∈ acc
  | [], acc, h => ⟨h, fun x => by simp⟩
  | y :: us, acc, h => by
    obtain ⟨h1, h2⟩ := insU_fine (y := y) h
    obtain ⟨h3, h4⟩ := used_go us _ h1
    refine ⟨h3, fun x => ?_⟩
    rw [List.foldl_cons, h4, h2, List.mem_cons]
    constructor
    · rintro (h | h | h)
      · exact .inl (.inr h)
      · exact .inr h
      · exact .inl (.inl h)
    · rintro ((h | h) | h)
      · exact .inr (.inr h)
      · exact .inl h
      · exact .inr (.inl h)
theorem usedOf_sorted (us : List ByteArray) : Sorted id (usedOf us) := (used_go us [] (by simp [Sorted])).1
theorem usedOf_mem {us : List ByteArray} {x : ByteArray} : x ∈ usedOf us ↔ x ∈ us := by
  have := (used_go us [] (by simp [Sorted])).2 x
  simpa [usedOf] using this
theorem insU_length (acc : List ByteArray) (y : ByteArray) : (insU acc y).length ≤ acc.length + 1 := by
  unfold insU
  split
  · omega
  · rw [insBy_length]; omega
theorem used_length : ∀ (us acc : List ByteArray), (us.foldl insU acc).length ≤ us.length + acc.length
  | [], acc => by simp
  | y :: us, acc => by
    have h1 := used_length us (insU acc y)
    have h2 := insU_length acc y
    rw [List.foldl_cons, List.length_cons]
    omega
theorem usedOf_length (us : List ByteArray) : (usedOf us).length ≤ us.length := used_length us []

/-- Lists that rise strictly and hold the same are the same. -/
theorem strict_eq {α : Type} {r : α → α → Prop} (hi : ∀ a, ¬ r a a) (ht : ∀ a b c, r a b → r b c → r a c) : ∀ {l m : List α}, l.Pairwise r → m.Pairwise r → (∀ x, x ∈ l ↔ x ∈ m) → l = m
  | [], [], _, _, _ => rfl
  | [], b :: m, _, _, h => by have := (h b).2 (by simp); cases this
  | a :: l, [], _, _, h => by have := (h a).1 (by simp); cases this
  | a :: l, b :: m, hl, hm, h => by
    rw [List.pairwise_cons] at hl hm
    have hab : a = b := by
      rcases List.mem_cons.1 ((h a).1 (by simp)) with e | e
      · exact e
      · rcases List.mem_cons.1 ((h b).2 (by simp)) with e2 | e2
        · exact e2.symm
        · exact absurd (ht _ _ _ (hm.1 _ e) (hl.1 _ e2)) (hi _)
    subst hab
    refine congrArg _ (strict_eq hi ht hl.2 hm.2 fun x => ⟨fun hx => ?_, fun hx => ?_⟩)
    · rcases List.mem_cons.1 ((h x).1 (List.mem_cons_of_mem _ hx)) with e | e
      · subst e; exact absurd (hl.1 _ hx) (hi _)
      · exact e
    · rcases List.mem_cons.1 ((h x).2 (List.mem_cons_of_mem _ hx)) with e | e
      · subst e; exact absurd (hm.1 _ hx) (hi _)
      · exact e

/-! The sort's order on lists of bytes. -/
theorem lt_lit (a b : List UInt8) : a < b ↔ ltS (lit a) (lit b) = true := by rw [ltS_iff, lit_list, lit_list]
theorem le_lit (a b : List UInt8) : a ≤ b ↔ ltS (lit b) (lit a) = false := by
  rw [← Bool.not_eq_true, ← lt_lit]
  exact Iff.rfl
theorem lit_inj {a b : List UInt8} (h : lit a = lit b) : a = b := by
  have := congrArg (·.data.toList) h
  simpa [lit_list] using this
theorem ltS_step {a b c : ByteArray} (h : ltS b a = false) (k : ltS c b = false) : ltS c a = false := by
  cases e : ltS c a with
  | false => rfl
  | true =>
    cases e2 : ltS a b with
    | true => rw [ltS_trans e e2] at k; cases k
    | false =>
      obtain rfl := ltS_total e2 h
      rw [e] at k; cases k
theorem le_trans' {a b c : List UInt8} (h : a ≤ b) (k : b ≤ c) : a ≤ c := by
  rw [le_lit] at *
  exact ltS_step h k
theorem le_all (a b : List UInt8) : a ≤ b ∨ b ≤ a := by
  rw [le_lit, le_lit]
  cases h : ltS (lit b) (lit a) with
  | false => exact .inl rfl
  | true => exact .inr (ltS_asymm h)
theorem merge_rises (zs : List (List UInt8)) : (zs.mergeSort fun x y => decide (x ≤ y)).Pairwise fun a b => a ≤ b := by
  have h := List.pairwise_mergeSort (le := fun x y : List UInt8 => decide (x ≤ y)) (fun a b c h1 h2 => by
    rw [decide_eq_true_eq] at *
    exact le_trans' h1 h2) (fun a b => by
    rw [Bool.or_eq_true, decide_eq_true_eq, decide_eq_true_eq]
    exact le_all a b) zs
  exact h.imp fun h => by simpa using h

theorem compact_fine {d : Array (List UInt8)} (hs : ∀ i j, i ≤ j → j < d.size → d[i]! ≤ d[j]!) : ∀ m, m ≤ d.size → (Lib.compactUpTo d m).Pairwise (fun a b => a < b) ∧ ∀ x, x ∈ Lib.compactUpTo d m ↔ ∃ j, j < m ∧ d[j]! = x
  | 0, _ => ⟨by simp [Lib.compactUpTo], fun x => by simp [Lib.compactUpTo]⟩
  | m + 1, hm => by
    obtain ⟨h1, h2⟩ := compact_fine hs m (by omega)
    rw [Lib.compactUpTo_succ]
    by_cases hk : Lib.keeps d m = true
    · rw [if_pos hk]
      refine ⟨List.pairwise_append.2 ⟨h1, by simp, fun a ha b hb => ?_⟩, fun x => ?_⟩
      · simp only [List.mem_singleton] at hb
        subst hb
        obtain ⟨j, hj, rfl⟩ := (h2 a).1 ha
        unfold Lib.keeps at hk
        rw [decide_eq_true_eq] at hk
        have hne := hk.resolve_left (by omega)
        have h3 := hs j (m - 1) (by omega) (by omega)
        have h4 := hs (m - 1) m (by omega) (by omega)
        rw [lt_lit]
        rw [le_lit] at h3 h4
        cases e : ltS (lit d[j]!) (lit d[m]!) with
        | true => rfl
        | false =>
          have h5 := ltS_step e h3
          exact absurd (lit_inj (ltS_total h4 h5)) hne
      · rw [List.mem_append, h2, List.mem_singleton]
        constructor
        · rintro (⟨j, hj, e⟩ | e)
          · exact ⟨j, by omega, e⟩
          · exact ⟨m, by omega, e.symm⟩
        · rintro ⟨j, hj, e⟩
          by_cases hjm : j = m
          · subst hjm; exact .inr e.symm
          · exact .inl ⟨j, by omega, e⟩
    · rw [if_neg hk, List.append_nil]
      refine ⟨h1, fun x => ?_⟩
      rw [h2]
      unfold Lib.keeps at hk
      rw [decide_eq_true_eq, not_or, Classical.not_not] at hk
      constructor
      · rintro ⟨j, hj, e⟩
        exact ⟨j, by omega, e⟩
      · rintro ⟨j, hj, e⟩
        by_cases hjm : j = m
        · subst hjm; exact ⟨j - 1, by omega, hk.2.symm.trans e⟩
        · exact ⟨j, by omega, e⟩
/-- A sorted list without its copies: what is used. -/
theorem compact_used {zs : List (List UInt8)} {us : List ByteArray} (hp : zs.Perm (us.map (·.data.toList))) (hs : zs.Pairwise fun a b => a ≤ b) : Lib.compact zs = (usedOf us).map (·.data.toList) := by
  have hle : ∀ a : List UInt8, a ≤ a := fun a => by rw [le_lit]; exact ltS_irrefl _
  have hget : ∀ j (h : j < zs.length), zs.toArray[j]! = zs[j] := fun j h => by rw [getElem!_pos zs.toArray j (by simpa using h), List.getElem_toArray]
  have hs2 : ∀ i j, i ≤ j → j < zs.toArray.size → zs.toArray[i]! ≤ zs.toArray[j]! := fun i j hij hj => by
    have hj' : j < zs.length := by simpa using hj
    rw [hget i (by omega), hget j hj']
    by_cases e : i = j
    · subst e; exact hle _
    · exact List.pairwise_iff_getElem.1 hs i j (by omega) hj' (by omega)
  obtain ⟨h1, h2⟩ := compact_fine hs2 zs.length (by simp)
  refine strict_eq (r := fun a b : List UInt8 => a < b) (fun a h => ?_) (fun a b c h k => ?_) h1 ?_ fun x => ?_
  · rw [lt_lit, ltS_irrefl] at h; cases h
  · rw [lt_lit] at *; exact ltS_trans h k
  · rw [List.pairwise_map]
    exact (usedOf_sorted us).imp fun h => (ltS_iff _ _).1 h
  · show x ∈ Lib.compactUpTo zs.toArray zs.length ↔ _
    rw [h2, List.mem_map]
    constructor
    · rintro ⟨j, hj, e⟩
      rw [hget j hj] at e
      have hx : x ∈ us.map (·.data.toList) := hp.mem_iff.1 (e ▸ List.getElem_mem hj)
      obtain ⟨u, hu, e2⟩ := List.mem_map.1 hx
      exact ⟨u, usedOf_mem.2 hu, e2⟩
    · rintro ⟨u, hu, rfl⟩
      have hx : u.data.toList ∈ zs := hp.mem_iff.2 (List.mem_map.2 ⟨u, usedOf_mem.1 hu, rfl⟩)
      obtain ⟨j, hj, e⟩ := List.mem_iff_getElem.1 hx
      exact ⟨j, hj, (hget j hj).trans e⟩

end Go.Proofs.YtjaladhdnbhliaaGreatDoor

/- slices.Sort and slices.Compact at the names that a module uses: each once, sorted. -/
namespace Go.Proofs.YtjaladhdnbhliaaGreatDoor
open Go.RowKit Go.Shelf

theorem rows_texts {w : World} {F : Foot} {xs : List Value} {L : List ByteArray} (h : RowsR StrR 1 w F xs L) : xs = (L.map (·.data.toList)).map encStr := by
  refine List.ext_getElem? fun i => ?_
  cases hx : L[i]? with
  | none =>
    have h1 : L.length ≤ i := List.getElem?_eq_none_iff.1 hx
    rw [List.getElem?_eq_none (by rw [h.1]; omega), List.getElem?_eq_none (by simp; omega)]
  | some s =>
    obtain ⟨cs, _, ⟨rfl, _⟩, h3⟩ := h.2 i s hx
    have h4 := h3 0 _ rfl
    rw [Nat.mul_one, Nat.add_zero] at h4
    rw [h4, List.getElem?_map, List.getElem?_map, hx]
    simp [encStr]
theorem texts_rows {w : World} {F : Foot} {L : List ByteArray} (h : ∀ s ∈ L, okS s) : RowsR StrR 1 w F ((L.map (·.data.toList)).map encStr) L := by
  refine ⟨by simp, fun i x hi => ⟨[.string x], rfl, ⟨rfl, h x (List.mem_of_getElem? hi)⟩, fun j u hj => ?_⟩⟩
  have hj0 : j = 0 := by
    have := (List.getElem?_eq_some_iff.1 hj).1
    simp at this; exact this
  subst hj0
  simp only [List.getElem?_cons_zero, Option.some.injEq] at hj
  subst hj
  rw [Nat.mul_one, Nat.add_zero, List.getElem?_map, List.getElem?_map, hi]
  simp [encStr]
theorem grew_sorted {base : Nat} {w : World} {g n : Nat} {os : Array Obj} (hbg : base ≤ g) (d : Array (List UInt8)) : Grew base w (Go.Sort.grow (Go.Sort.putRow encStr (Go.Sort.ahead w n) g 0 d) os) (some g) :=
  have hg := grownBy_sorted (w := w) (g := g) (n := n) (os := os) d
  ⟨hg.os, hg.tape, hg.output, hg.size, hg.block, fun j hj => by cases hj; exact hbg⟩
theorem sortUses_any {base : Nat} {w : World} {v : Value} {L : List ByteArray} (h : Owns StrR 1 9 base w none_ v L) (h6 : L.length ≤ 1000000) :
    Calls Tryz.prog 39 #[v] w fun e w' => e = .returned (.tuple #[]) ∧ Grew base w w' v.ownBlock ∧ ∃ zs : List (List UInt8), zs.Perm (L.map (·.data.toList)) ∧ zs.Pairwise (fun a b => a ≤ b) ∧ w'.ownsRow base 9 1 v L.length (zs.map encStr) := by
  obtain ⟨xs, hrow, hrows, _⟩ := h
  have hx := rows_texts hrows
  subst hx
  rcases hrow.2 with ⟨rfl, hz⟩ | ⟨g, cap, cur, rfl, hbg, hcell, hlc, hcm, hcs, htk⟩
  · obtain rfl := List.length_eq_zero_iff.1 hz
    refine (Tryz.slices_Sort_string_none none 0 w).mono ?_
    rintro e w' ⟨he, rfl⟩
    exact ⟨he, Grew.refl_ _ _ _ (fun k hk => by cases hk), [], by simp, by simp, hrow⟩
  · obtain ⟨g', cap', e1, _, hgl, hnc, _, hlen, hH⟩ := Lib.holds_of_ownsRow hrow (by simp)
    injection e1 with e1 _ e2
    injection e1 with e1
    injection e1 with e1
    subst e1; subst e2
    have hs := Tryz.slices_Sort_string g 0 cap (L.map (·.data.toList)) w hH hgl (by omega)
    rw [hlen] at hs
    refine hs.mono ?_
    rintro e w' ⟨he, n, os, rfl⟩
    have hl2 : ((L.map (·.data.toList)).mergeSort fun x y => decide (x ≤ y)).length = (L.map (·.data.toList)).length := List.length_mergeSort _
    refine ⟨he, grew_sorted hbg _, (L.map (·.data.toList)).mergeSort (fun x y => decide (x ≤ y)), List.mergeSort_perm _ _, merge_rises _, ?_⟩
    have ho := ownsRow_sorted (n := n) (os := os) (ts := (L.map (·.data.toList)).mergeSort fun x y => decide (x ≤ y)) hl2 hbg hcell (by omega) hcm hcs
    rw [hlen] at ho
    exact ho
theorem compactUses_any {base : Nat} {w : World} {v : Value} {n : Nat} {zs : List (List UInt8)} (h : w.ownsRow base 9 1 v n (zs.map encStr)) (h6 : n ≤ 1000000) :
    Calls Tryz.prog 40 #[v] w fun e w' => ∃ v', e = .returned v' ∧ Below base w w' ∧ w'.ownsRow base 9 1 v' (Lib.compact zs).length ((Lib.compact zs).map encStr) := by
  rcases h.2 with ⟨rfl, hz⟩ | ⟨g, cap, cur, rfl, hbg, hcell, hlc, hcm, hcs, htk⟩
  · subst hz
    have hz : zs = [] := by have := h.1; simpa using this
    subst hz
    refine (Tryz.slices_Compact_string_empty none 0 w).mono ?_
    rintro e w' ⟨he, rfl⟩
    exact ⟨_, he, Below.refl _ _, h⟩
  · obtain ⟨g', cap', e1, _, hgl, hnc, _, hlen, hH⟩ := Lib.holds_of_ownsRow h (by simp)
    injection e1 with e1 _ e2
    injection e1 with e1
    injection e1 with e1
    subst e1; subst e2
    have hc := Tryz.slices_Compact_string g 0 cap zs w hH (by omega) (by omega)
    rw [hlen] at hc
    refine hc.mono ?_
    rintro e w' ⟨he, q, rfl⟩
    have hcl := Lib.compact_length_le zs
    refine ⟨_, he, Lib.below_putRow (Below.refl base w) hbg, ?_⟩
    have ho := Lib.ownsRow_putRow (q := q) (ys := Lib.compact zs ++ List.replicate (n - (Lib.compact zs).length) []) h (by rw [List.length_append, List.length_replicate]; omega) (show (Lib.compact zs).length ≤ n by omega)
    rw [List.take_left'] at ho
    · exact ho
    · rfl

end Go.Proofs.YtjaladhdnbhliaaGreatDoor

/- The names that a source uses: module.Uses. -/
namespace Go.Proofs.YtjaladhdnbhliaaGreatDoor
open Go.RowKit Go.Shelf

theorem mod_few {m : Module} (h : modErr m = 0) : m.uses.length + m.types.length + m.funcs.length ≤ 24 := by
  unfold modErr at h
  by_cases h24 : 24 < m.uses.length + m.types.length + m.funcs.length
  · rw [if_pos h24] at h; cases h
  · omega
theorem mod_uses {m : Module} (h : modErr m = 0) : m.uses.length ≤ 24 ∧ ∀ s ∈ m.uses, nameOk s = true := by
  have h24 := mod_few h
  refine ⟨by omega, fun s hs => ?_⟩
  unfold modErr at h
  rw [if_neg (by omega)] at h
  split at h
  · next hu => exact absurd h hu
  · next hu =>
    have := eachErr_zero (Classical.not_not.1 hu) s hs
    unfold useErr at this
    split at this
    · assumption
    · cases this
theorem nameU_size {s : ByteArray} (h : nameOk s = true) : okS s := by
  unfold nameOk wordOk at h
  split at h
  · cases h
  · simp at h
    have := h.1.1
    unfold okS
    omega
theorem readR_good (s : ByteArray) : modErr (readR s).1 = 0 := by
  by_cases h15 : 1500 < s.size
  · rw [read_long h15]; rfl
  · cases hp : parseL noMod (linesOf s.data.toList) with
    | error e => rw [read_bad (by omega) hp]; rfl
    | ok m =>
      by_cases hm : modErr m = 0
      · rw [read_ok (by omega) hp hm]; exact hm
      · rw [read_fault (by omega) hp hm]; rfl
theorem readR_none {s : ByteArray} (h : (readR s).2 ≠ 0) : (readR s).1 = noMod := by
  by_cases h15 : 1500 < s.size
  · rw [read_long h15]
  · cases hp : parseL noMod (linesOf s.data.toList) with
    | error e => rw [read_bad (by omega) hp]
    | ok m =>
      by_cases hm : modErr m = 0
      · rw [read_ok (by omega) hp hm] at h; exact absurd rfl h
      · rw [read_fault (by omega) hp hm]

set_option maxRecDepth 100000 in
set_option maxHeartbeats 4000000 in
theorem moduleUses_any (s : ByteArray) (W : World) (mx : Int) (hT : Tabs W mx) :
    Calls Tryz.prog 13 #[.string s] W fun e w' => ∃ v, e = .returned v ∧ Below W.heap.size W w' ∧ Owns StrR 1 9 W.heap.size w' none_ v (usedR s) := by
  have h1 := treeReadO_any s W mx hT
  have hg := readR_good s
  have hnone := readR_none (s := s)
  obtain ⟨R, hR⟩ : ∃ R, usedR s = R := ⟨_, rfl⟩
  rw [hR]
  unfold usedR at hR
  obtain ⟨⟨m, k⟩, hE⟩ : ∃ E, readR s = E := ⟨_, rfl⟩
  rw [hE] at h1 hg hR hnone
  dsimp only at hg hR hnone
  have H1 := Lib.hid h1; have HG := Lib.hid hg; have HR := Lib.hid hR; have HN := Lib.hid hnone
  clear h1 hg hR hnone
  clear hT hE
  go_enter Tryz.func13, Tryz.ntmps13
  go_wp2_with fail
  refine H1.out.mono ?_
  rintro e W1 ⟨v1, v2, v3, rfl, hb1, hm1, ho1⟩
  dsimp only at hm1 ho1 ⊢
  obtain ⟨U1, u1, T1, t1, X1, x1, hcs, _⟩ := ModuleR.form hm1
  simp only [List.cons.injEq, and_true] at hcs
  obtain ⟨rfl, rfl, rfl⟩ := hcs
  obtain ⟨hl24, hname⟩ := mod_uses HG.out
  have hs1 := hb1.size
  have HB1 := Lib.hid hb1; have HO1 := Lib.hid ho1; have HN8 := Lib.hid hname
  clear hb1 ho1 hname
  clear hm1 H1
  go_upto_region 2 with fail
  have hBa := Box.made W1 27 #[.slice U1 m.uses.length u1, .slice T1 m.types.length t1, .slice X1 m.funcs.length x1]
  have hba : Below W1.heap.size W1 (W1.alloc (.cells #[.slice U1 m.uses.length u1, .slice T1 m.types.length t1, .slice X1 m.funcs.length x1] 27)) := by go_grown
  have hza : (W1.alloc (.cells #[.slice U1 m.uses.length u1, .slice T1 m.types.length t1, .slice X1 m.funcs.length x1] 27)).heap.size = W1.heap.size + 1 := by simp
  generalize W1.alloc (.cells #[.slice U1 m.uses.length u1, .slice T1 m.types.length t1, .slice X1 m.funcs.length x1] 27) = W2 at hBa hba hza ⊢
  have hbw2 := HB1.out.trans (hba.mono HB1.out.size)
  have ho2 := Owns.below StrR.stays HO1.out hba
  have hs2 := hba.size
  by_cases hk : k = 0
  · subst hk
    have hsrt := sortUses_any ho2 (by omega)
    have p0 := hBa.at_ 0 _ rfl
    have HBA := Lib.hid hBa; have HSRT := Lib.hid hsrt; have HB2 := Lib.hid hbw2
    clear hBa hsrt hbw2
    clear hba ho2 hza
    go_wp2_with fail
    refine HSRT.out.mono ?_
    rintro e W3 ⟨rfl, hgr, zs, hzp, hzs, hor⟩
    have hB3 := Box.of_heap HBA.out (hgr.block W1.heap.size HBA.out.lt (fun e => by have := (HO1.out.row e.symm).2; omega))
    have hb3 := HB2.out.trans (hgr.below (Nat.le_refl _) HB2.out.size)
    have hcmp := compactUses_any hor (by omega)
    rw [compact_used hzp hzs, HR.out, List.length_map] at hcmp
    have q0 := hB3.at_ 0 _ rfl
    have HCMP := Lib.hid hcmp; have HB3 := Lib.hid hb3; have HZ := Lib.hid hzp; have HZS := Lib.hid hzs; have HOR := Lib.hid hor
    clear hcmp hb3 hzp hzs hor
    clear hB3 hgr p0
    go_wp2_with fail
    refine HCMP.out.mono ?_
    rintro e W4 ⟨v4, rfl, hb4, ho4⟩
    have hbw := HB3.out.trans hb4
    have HBW := Lib.hid hbw; have HO4 := Lib.hid ho4
    clear hbw ho4
    clear hb4 HCMP
    go_wp2_with fail
    go_ret
    refine ⟨_, rfl, HBW.out, _, HO4.out, texts_rows fun x hx => nameU_size (HN8.out x (usedOf_mem.1 (HR.out.symm ▸ hx))), fun k hk => hk.elim⟩
  · have hkz : (k != 0) = true := by simp [hk]
    have hm : m = noMod := HN.out hk
    have hR0 : R = [] := by rw [← HR.out, hm]; rfl
    subst hR0
    have HB2 := Lib.hid hbw2
    clear hbw2
    clear hba ho2 hza hBa
    go_wp2_with fail
    go_ret
    exact ⟨_, rfl, HB2.out, Owns.nil_⟩

end Go.Proofs.YtjaladhdnbhliaaGreatDoor
