/- slices.SortFunc on a list that a function owns: its things by their names. No program is named here. -/
import Derived.Test.YtoejhgbndehaiaaInsert
import Derived.Test.YtoejhgbndehaiaaBase
import Derived.Shelf.SlSortCmp.WholeK
import Derived.Shelf.SlSortCmp.NoneTotal
namespace Go.Proofs.Ytoejhgbndehaiaa
open Go.RowKit Go.Shelf Go.Sort

theorem ltS_ntrans {a b c : ByteArray} (h : ltS a b = false) (k : ltS b c = false) : ltS a c = false := by
  have h1 : ¬ a.data.toList < b.data.toList := fun e => by rw [(ltS_iff a b).2 e] at h; cases h
  have h2 : ¬ b.data.toList < c.data.toList := fun e => by rw [(ltS_iff b c).2 e] at k; cases k
  rw [Bool.eq_false_iff]
  intro e
  exact List.not_lt.2 (List.le_trans (List.not_lt.1 h2) (List.not_lt.1 h1)) ((ltS_iff a c).1 e)

/-- How two things compare, by their names. -/
def cmpBy {β : Type} (nm : β → ByteArray) (x y : β) : Int := Lib.compareBytes (nm x).data.toList (nm y).data.toList
theorem ltOf_cmpBy {β : Type} (nm : β → ByteArray) (x y : β) : ltOf (cmpBy nm) x y = ltS (nm x) (nm y) := cmpS_neg _ _
theorem swo_cmpBy {β : Type} (nm : β → ByteArray) : SWO (ltOf (cmpBy nm)) where
  irrefl x := by rw [ltOf_cmpBy]; exact ltS_irrefl _
  trans x y z h1 h2 := by rw [ltOf_cmpBy] at *; exact ltS_trans h1 h2
  ntrans x y z h1 h2 := by rw [ltOf_cmpBy] at *; exact ltS_ntrans h1 h2

/-- A cell of a row laid flat. -/
theorem flat_cell {β : Type} [Inhabited β] (enc : β → List Value) (sz : Nat) (d : Array β) (henc : ∀ x, (enc x).length = sz) {i j : Nat} (hi : i < d.size) (hj : j < sz) : (flatK enc sz d)[i * sz + j]? = (enc d[i]!)[j]? := by
  have hlt : i * sz + j < d.size * sz := by
    have := Nat.mul_le_mul_right sz (show i + 1 ≤ d.size from hi); rw [Nat.add_mul, Nat.one_mul] at this; omega
  have e1 : (i * sz + j) / sz = i := (blk_iff sz i _ (by omega)).1 ⟨by omega, by omega⟩
  have e2 : (i * sz + j) % sz = j := by rw [Nat.mod_eq_sub_div_mul, e1]; omega
  have hs : i * sz + j < (flatK enc sz d).size := by rw [size_flatK]; exact hlt
  rw [Array.getElem?_eq_getElem hs, ← getElem!_pos (flatK enc sz d) _ hs, get_flatK _ _ _ _ hlt, e1, e2]
  have hj' : j < (enc d[i]!).length := by rw [henc]; exact hj
  rw [List.getElem?_eq_getElem hj', getElem!_pos (enc d[i]!) _ hj']

section
variable {α : Type} {R : CR α} {P : Program} {ρ : Ren}

set_option maxHeartbeats 1000000 in
theorem sort_owned (hR : Stays R) (nm : α → ByteArray) (good : List Value → ByteArray → Prop) (sz : Nat) (hg : ∀ cs s, good cs s → cs.length = sz ∧ ∀ v ∈ cs, v.oneCell' = true) (hRg : ∀ w F cs x, R w F cs x → good cs (nm x))
    (L : SlLaysF0.n6 P ρ) (aE : ∀ w, (isAgg (ρ.t 24)).run P w = .ok true w) (zE : ∀ w, (Go.sizeOf (ρ.t 24)).run P w = .ok sz w) (g : Nat) (eg : ∀ args w, (callFunc g args).run P w = .ok (.enter g args) w)
    (hcl : ∀ cs ds s t W, good cs s → good ds t → Calls P g #[.agg cs.toArray, .agg ds.toArray] W fun e w' => e = .returned (.int .i64 (Lib.compareBytes s.data.toList t.data.toList)) ∧ ∃ q os, w' = grow (W.drewN q) os)
    {base : Nat} {e : TypeId} {F : Foot} {w : World} {v : Value} {l : List α} (h : Owns R sz e base w F v l) (hsz : l.length < 4611686018427387904) :
    Calls P (ρ.f 6) #[v, .func (.func g) #[] #[]] w fun en w' => en = .returned (.tuple #[]) ∧ ∃ l' : List α, l'.Perm l ∧ (l'.Pairwise fun a b => ltS (nm b) (nm a) = false) ∧ Owns R sz e base w' F v l' ∧ Grew base w w' v.ownBlock := by
  obtain ⟨xs, hrow, hrows, hf⟩ := h
  have hempty : l = [] → ∀ p cap, v = .slice p 0 cap → Calls P (ρ.f 6) #[v, .func (.func g) #[] #[]] w fun en w' => en = .returned (.tuple #[]) ∧ ∃ l' : List α, l'.Perm l ∧ (l'.Pairwise fun a b => ltS (nm b) (nm a) = false) ∧ Owns R sz e base w' F v l' ∧ Grew base w w' v.ownBlock := by
    rintro rfl p cap rfl
    refine (AnyF.slices_SortFunc_none L p cap _ w).mono ?_
    rintro en w' ⟨he, rfl⟩
    exact ⟨he, [], List.Perm.refl _, List.Pairwise.nil, ⟨xs, hrow, hrows, hf⟩, ⟨rfl, rfl, rfl, Nat.le_refl _, fun _ _ _ => rfl, fun k hk => by
      rcases hrow.2 with ⟨hv, _⟩ | ⟨g', cap', cur, hv, hb, _⟩
      · rw [hv] at hk; cases hk
      · rw [hv] at hk; have hk2 : some g' = some k := hk; injection hk2 with hk2; omega⟩⟩
  obtain ⟨hxl, hrow'⟩ := hrow
  rcases hrow' with ⟨hv, h0⟩ | ⟨g', cap, cur, rfl, hb, hcell, hc1, hc2, hcs, htake⟩
  · exact hempty (List.length_eq_zero_iff.1 h0) none 0 hv
  by_cases hl : l = []
  · subst hl
    exact hempty rfl _ cap rfl
  have hlpos : 0 < l.length := List.length_pos_iff.2 hl
  -- the things with the cells that stand for them
  have hex : ∀ i : Fin l.length, ∃ b : {p : α × List Value // R w F p.2 p.1}, b.1.1 = l[i] ∧ b.1.2.length = sz ∧ ∀ j u, b.1.2[j]? = some u → xs[i.1 * sz + j]? = some u := fun i => by
    obtain ⟨cs, k1, k2, k3⟩ := hrows.2 i.1 l[i] (List.getElem?_eq_getElem i.2)
    exact ⟨⟨(l[i], cs), k2⟩, rfl, k1, k3⟩
  obtain ⟨fb, hfb⟩ := Classical.axiomOfChoice hex
  have : Inhabited {p : α × List Value // R w F p.2 p.1} := ⟨fb ⟨0, hlpos⟩⟩
  obtain ⟨d, hd⟩ : ∃ d : Array {p : α × List Value // R w F p.2 p.1}, d = Array.ofFn fb := ⟨_, rfl⟩
  have hds : d.size = l.length := by rw [hd]; simp
  have hdi : ∀ i, (hi : i < l.length) → d[i]! = fb ⟨i, hi⟩ := fun i hi => by
    have hi' : i < d.size := by rw [hds]; exact hi
    rw [getElem!_pos d i hi']
    simp [hd]
  have hdl : d.toList.map (fun b => b.1.1) = l := by
    refine List.ext_getElem (by simp [hds]) fun i h1 h2 => ?_
    have h3 := hdi i h2
    rw [getElem!_pos d i (by rw [hds]; exact h2)] at h3
    rw [List.getElem_map, Array.getElem_toList, h3]
    exact (hfb ⟨i, h2⟩).1
  let enc : {p : α × List Value // R w F p.2 p.1} → List Value := fun b => b.1.2
  let nb : {p : α × List Value // R w F p.2 p.1} → ByteArray := fun b => nm b.1.1
  have hk : ∀ b, (enc b).length = sz := fun b => (hg _ _ (hRg _ _ _ _ b.2)).1
  have h1 : ∀ b, ∀ u ∈ enc b, u.oneCell' = true := fun b => (hg _ _ (hRg _ _ _ _ b.2)).2
  have hflat : (flatK enc sz d).toList = xs := by
    refine List.ext_getElem? fun t => ?_
    by_cases ht : t < d.size * sz
    · have hsz0 : 0 < sz := Nat.pos_of_ne_zero (by rintro rfl; simp at ht)
      have hi : t / sz < l.length := by rw [← hds]; exact Nat.div_lt_of_lt_mul (by rw [Nat.mul_comm]; exact ht)
      have hr : t % sz < sz := Nat.mod_lt _ hsz0
      have hsum : t / sz * sz + t % sz = t := by rw [Nat.mul_comm]; exact Nat.div_add_mod t sz
      rw [← hsum, Array.getElem?_toList, flat_cell enc sz d hk (by rw [hds]; exact hi) hr]
      have hj : t % sz < (enc d[t / sz]!).length := by rw [hk]; exact hr
      rw [List.getElem?_eq_getElem hj]
      have := (hfb ⟨t / sz, hi⟩).2.2 (t % sz) (enc d[t / sz]!)[t % sz] (by rw [← hdi _ hi]; exact List.getElem?_eq_getElem hj)
      exact this.symm
    · rw [List.getElem?_eq_none (by simp; omega), List.getElem?_eq_none (by rw [hxl, ← hds]; omega)]
  have hcur : ∀ t, t < l.length * sz → cur[t]? = (flatK enc sz d)[t]? := fun t ht => by
    have h2 : xs[t]? = cur.toList[t]? := by rw [← htake, List.getElem?_take_of_lt ht]
    rw [← hflat] at h2
    simpa using h2.symm
  have hgl : g' < w.heap.size := (Array.getElem?_eq_some_iff.1 hcell).1
  have hH : HoldsK enc sz w g' 0 d := fun t ht => by
    have ht' : t < l.length * sz := by rw [size_flatK, hds] at ht; exact ht
    refine ⟨?_, by simp [World.frozen?, hcell]⟩
    simp only [World.cell?, hcell, Nat.zero_add]
    rw [if_neg (by simp), hcur t ht', Array.getElem?_eq_getElem ht, id, getElem!_pos (flatK enc sz d) _ ht]
  have hcmp : CmpLays P g #[] enc sz (cmpBy nb) g' 0 d.size w := fun m os dk _ x y => hcl _ _ _ _ _ (hRg _ _ _ _ x.2) (hRg _ _ _ _ y.2)
  have hcon := AnyQ.slices_SortFunc L sz aE zE enc hk h1 (cmpBy nb) (swo_cmpBy nb) g #[] g' 0 cap d w eg hcmp hH hgl (by rw [hds]; exact hsz)
  rw [hds] at hcon
  refine hcon.mono ?_
  rintro en w' ⟨he, d', n, os, hp, hs, rfl⟩
  refine ⟨he, d'.toList.map (fun b => b.1.1), ?_, ?_, ?_, ?_⟩
  · obtain ⟨hsz', _, hperm⟩ := hp
    have e1 : d'.extract 0 l.length = d' := by rw [← hds, ← hsz']; exact Array.extract_size
    have e2 : d.extract 0 l.length = d := by rw [← hds]; exact Array.extract_size
    rw [e1, e2] at hperm
    have := hperm.map (fun b => b.1.1)
    rw [hdl] at this
    exact this
  · rw [List.pairwise_map, List.pairwise_iff_getElem]
    intro i j hi hj hij
    have hi' : i < d'.size := by simpa using hi
    have hj' : j < d'.size := by simpa using hj
    have h2 := hs i j (Nat.zero_le _) hij (by rw [← hds, ← hp.1]; exact hj')
    rw [getElem!_pos d' j hj', getElem!_pos d' i hi', ltOf_cmpBy] at h2
    simpa using h2
  · have hsz' : d'.size = l.length := by rw [hp.1, hds]
    have hblk : (sortWorldK enc sz w g' 0 n d' os).heap[g']? = some (.cells (putCells id 0 (flatK enc sz d') cur) e (0, 0)) := by
      unfold sortWorldK
      rw [heap_grow_old _ _ (by rw [size_putRowK]; exact hgl)]
      simp only [putRowK, putRow, mapBlock, Array.getElem?_modify, if_true]
      show Option.map _ w.heap[g']? = _
      rw [hcell]
      rfl
    have hkeep : ∀ k, F k → (sortWorldK enc sz w g' 0 n d' os).heap[k]? = w.heap[k]? := fun k hk => by
      have hne : g' ≠ k := fun e => (hf k hk).2 (by rw [← e]; rfl)
      unfold sortWorldK
      rw [heap_grow_old _ _ (by rw [size_putRowK]; exact (hf k hk).1)]
      simp only [putRowK, putRow, mapBlock, Array.getElem?_modify, if_neg hne]
      rfl
    refine ⟨(flatK enc sz d').toList, ⟨by simp [hsz'], .inr ⟨g', cap, putCells id 0 (flatK enc sz d') cur, by simp [hsz'], hb, hblk, by simp [hsz', hc1], hc2, by simp [putCells, hcs], ?_⟩⟩, ⟨by simp, fun i x hx => ?_⟩, fun k hk => ⟨Nat.lt_of_lt_of_le (hf k hk).1 ?_, (hf k hk).2⟩⟩
    · refine List.ext_getElem? fun t => ?_
      have hcap : l.length * sz ≤ cur.size := by rw [hcs]; exact Nat.mul_le_mul_right _ hc1
      have hfs : (flatK enc sz d').size = l.length * sz := by rw [size_flatK, hsz']
      simp only [List.length_map, Array.length_toList, hsz']
      rw [List.getElem?_take]
      split
      · next ht =>
        have ht2 : t < cur.size := by omega
        simp only [putCells, Array.getElem?_toList, Array.getElem?_mapIdx, Array.getElem?_eq_getElem ht2, Option.map_some, Nat.zero_add, hfs, Nat.zero_le, true_and, ht, if_true, Nat.sub_zero, id]
        rw [Array.getElem?_eq_getElem (by rw [hfs]; exact ht), getElem!_pos (flatK enc sz d') _ (by rw [hfs]; exact ht)]
      · next ht => rw [List.getElem?_eq_none (by simp [hsz']; omega)]
    · rw [List.getElem?_map] at hx
      obtain ⟨b, hbx, rfl⟩ := Option.map_eq_some_iff.1 hx
      rw [Array.getElem?_toList] at hbx
      obtain ⟨hi, hbi⟩ := Array.getElem?_eq_some_iff.1 hbx
      refine ⟨b.1.2, hk b, hR _ _ _ _ _ _ b.2 (fun _ h => h) (keeps_of_heap hkeep), fun j u hj => ?_⟩
      have hj' : j < sz := by have := (List.getElem?_eq_some_iff.1 hj).1; rw [← hk b]; exact this
      rw [Array.getElem?_toList, flat_cell enc sz d' hk hi hj', getElem!_pos d' i hi, hbi]
      exact hj
    · unfold sortWorldK
      rw [size_grow, size_putRowK]
      exact Nat.le_add_right _ _
  · refine ⟨rfl, rfl, rfl, size_sortWorldK_c enc sz w g' 0 n d' os, fun k hk hne => ?_, fun k hk => by have hk2 : some g' = some k := hk; injection hk2 with hk2; omega⟩
    have hne' : g' ≠ k := fun e => hne (by rw [← e]; rfl)
    unfold sortWorldK
    rw [heap_grow_old _ _ (by rw [size_putRowK]; exact hk)]
    simp only [putRowK, putRow, mapBlock, Array.getElem?_modify, if_neg hne']
    rfl
end

end Go.Proofs.Ytoejhgbndehaiaa
