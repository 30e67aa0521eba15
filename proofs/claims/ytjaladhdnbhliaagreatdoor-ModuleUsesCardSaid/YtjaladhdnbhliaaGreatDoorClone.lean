/- The library's slices.Clone at this program's element types: a new row that stands for the same list. -/
import Derived.Test.YtjaladhdnbhliaaGreatDoorBase
import Derived.Test.YtjaladhdnbhliaaGreatDoorRows
import Derived.OwnWalk
import Derived.WalkSpells
namespace Go.Proofs.YtjaladhdnbhliaaGreatDoor
open Go.RowKit Go.Shelf

theorem KnownR.one {w : World} {F : Foot} : ∀ cs x, KnownR w F cs x → ∀ u ∈ cs, u.oneCell' = true := by
  rintro _ x ⟨rfl, _⟩ u hu
  simp at hu
  rcases hu with rfl | rfl <;> rfl
theorem StrR.one {w : World} {F : Foot} : ∀ cs x, StrR w F cs x → ∀ u ∈ cs, u.oneCell' = true := by
  rintro _ x ⟨rfl, _⟩ u hu
  simp at hu
  subst hu; rfl
theorem DiagR.one {w : World} {F : Foot} : ∀ cs x, DiagR w F cs x → ∀ u ∈ cs, u.oneCell' = true := by
  rintro _ x ⟨rfl, _⟩ u hu
  simp at hu
  rcases hu with rfl | rfl <;> rfl


set_option maxRecDepth 100000 in
set_option maxHeartbeats 1000000 in
theorem cloneOwn_knowns (v : Value) (l : List Known) (F : Foot) (w : World) (h : SliceOf KnownR 2 32 w F v l) (_hF : ∀ k, F k → k < w.heap.size) :
    Calls Tryz.prog 69 #[v] w fun e w' => ∃ v', e = .returned v' ∧ Below w.heap.size w w' ∧ Owns KnownR 2 100 w.heap.size w' none_ v' l := by
  obtain ⟨A, cap, rfl, hlc, hcm, hl2, hl3⟩ := h.form
  cases A with
  | none =>
    have hl0 : l = [] := by
      cases l with
      | nil => rfl
      | cons x xs => obtain ⟨_, _, _, e, _⟩ := h.at_ (k := 0) (by simp); cases e
    subst hl0
    have hE : (binOp .eql 39 (.slice none 0 cap) (.slice none 0 0)).run Tryz.prog w = .ok (.bool true) w := Lib.run_eql_slice_nil w _ _ none 0 cap 0 0 Tryz.underlying39
    go_enter Tryz.func69, Tryz.ntmps69
    go_wp2
    go_ret
    exact ⟨_, rfl, Below.refl _ _, Owns.nil_⟩
  | some ad =>
    obtain ⟨xs, hrows, hcells, hone⟩ := h.rows KnownR.one
    obtain ⟨i0, hi, hz0, hz1, hz2⟩ := info_parts (show (Tryz.prog.info? 100).map (fun i => (i.zero, i.size, i.bytes)) = some (some (.agg #[.string ⟨#[]⟩, .string ⟨#[]⟩] : Value), 2, 32) by kernel_rfl)
    have hnews : ∀ j u, xs[j]? = some u → (w.alloc (.cells #[] 100)).cell? (ad.add j) = some u := fun j u hj => by
      have hc := hcells j u hj
      rw [World.cell?_alloc_lt _ _ _ (World.block_lt_of_cell? w _ hc)]; exact hc
    have hown := World.ownsRow_made (e := 100) (size := 2) w #[] 0 (Nat.le_refl _) (Nat.zero_le _) (by simp)
    have HN := Lib.hid hnews; have HO := Lib.hid hown; have HR := Lib.hid hrows; have H1 := Lib.hid hone
    clear hnews hown hrows hone hcells h
    have hE : (binOp .eql 39 (.slice (some ad) l.length cap) (.slice none 0 0)).run Tryz.prog w = .ok (.bool false) w := Lib.run_eql_slice_nil w _ _ (some ad) l.length cap 0 0 Tryz.underlying39
    go_enter Tryz.func69, Tryz.ntmps69
    go_wp2_with (at_builtin; refine wpList_append_own_at _ rfl _ _ 39 rfl w.heap.size 100 i0 (.agg #[.string ⟨#[]⟩, .string ⟨#[]⟩]) 2 32 Tryz.underlying39 hi hz0 hz1 hz2 rfl (by decide) _ _ _ rfl HO.out ad l.length cap xs rfl HR.out.1 HN.out H1.out (by unfold maxLen at *; omega) (by omega) (by simp) ?_; intro v' w1 hown' hgrow hnil hloc)
    go_ret
    have hown2 : w1.ownsRow w.heap.size 100 2 v' l.length xs := by simpa using hown'
    have hb : Below w.heap.size w w1 := Below.grown ((Below.refl _ _).alloc (Nat.le_refl _) _) hgrow (by simp) (fun j hj => (HO.out.lt j hj).1)
    exact ⟨_, rfl, hb, xs, hown2, ⟨HR.out.1, fun i x hi => HR.out.2 i x hi⟩, fun _ h => h.elim⟩
theorem clone_knowns (v : Value) (l : List Known) (F : Foot) (w : World) (h : SliceOf KnownR 2 32 w F v l) (hF : ∀ k, F k → k < w.heap.size) :
    Calls Tryz.prog 69 #[v] w fun e w' => ∃ v', e = .returned v' ∧ Below w.heap.size w w' ∧ SliceOf KnownR 2 32 w' (fresh w.heap.size w'.heap.size) v' l := by
  obtain ⟨_, _, _, _, _, h1, h2⟩ := h.form
  exact (cloneOwn_knowns v l F w h hF).mono fun e w' ⟨v', he, hb, ho⟩ => ⟨v', he, hb, ho.slice KnownR.stays (fun _ h => h.elim) (fun k h1 h2 => ⟨h1, h2⟩) h2 h1⟩


set_option maxRecDepth 100000 in
set_option maxHeartbeats 1000000 in
theorem cloneOwn_strs (v : Value) (l : List ByteArray) (F : Foot) (w : World) (h : SliceOf StrR 1 16 w F v l) (_hF : ∀ k, F k → k < w.heap.size) :
    Calls Tryz.prog 60 #[v] w fun e w' => ∃ v', e = .returned v' ∧ Below w.heap.size w w' ∧ Owns StrR 1 9 w.heap.size w' none_ v' l := by
  obtain ⟨A, cap, rfl, hlc, hcm, hl2, hl3⟩ := h.form
  cases A with
  | none =>
    have hl0 : l = [] := by
      cases l with
      | nil => rfl
      | cons x xs => obtain ⟨_, _, _, e, _⟩ := h.at_ (k := 0) (by simp); cases e
    subst hl0
    have hE : (binOp .eql 23 (.slice none 0 cap) (.slice none 0 0)).run Tryz.prog w = .ok (.bool true) w := Lib.run_eql_slice_nil w _ _ none 0 cap 0 0 Tryz.underlying23
    go_enter Tryz.func60, Tryz.ntmps60
    go_wp2
    go_ret
    exact ⟨_, rfl, Below.refl _ _, Owns.nil_⟩
  | some ad =>
    obtain ⟨xs, hrows, hcells, hone⟩ := h.rows StrR.one
    obtain ⟨i0, hi, hz0, hz1, hz2⟩ := info_parts (show (Tryz.prog.info? 9).map (fun i => (i.zero, i.size, i.bytes)) = some (some (.string ⟨#[]⟩ : Value), 1, 16) by kernel_rfl)
    have hnews : ∀ j u, xs[j]? = some u → (w.alloc (.cells #[] 9)).cell? (ad.add j) = some u := fun j u hj => by
      have hc := hcells j u hj
      rw [World.cell?_alloc_lt _ _ _ (World.block_lt_of_cell? w _ hc)]; exact hc
    have hown := World.ownsRow_made (e := 9) (size := 1) w #[] 0 (Nat.le_refl _) (Nat.zero_le _) (by simp)
    have HN := Lib.hid hnews; have HO := Lib.hid hown; have HR := Lib.hid hrows; have H1 := Lib.hid hone
    clear hnews hown hrows hone hcells h
    have hE : (binOp .eql 23 (.slice (some ad) l.length cap) (.slice none 0 0)).run Tryz.prog w = .ok (.bool false) w := Lib.run_eql_slice_nil w _ _ (some ad) l.length cap 0 0 Tryz.underlying23
    go_enter Tryz.func60, Tryz.ntmps60
    go_wp2_with (at_builtin; refine wpList_append_own_at _ rfl _ _ 23 rfl w.heap.size 9 i0 (.string ⟨#[]⟩) 1 16 Tryz.underlying23 hi hz0 hz1 hz2 rfl (by decide) _ _ _ rfl HO.out ad l.length cap xs rfl HR.out.1 HN.out H1.out (by unfold maxLen at *; omega) (by omega) (by simp) ?_; intro v' w1 hown' hgrow hnil hloc)
    go_ret
    have hown2 : w1.ownsRow w.heap.size 9 1 v' l.length xs := by simpa using hown'
    have hb : Below w.heap.size w w1 := Below.grown ((Below.refl _ _).alloc (Nat.le_refl _) _) hgrow (by simp) (fun j hj => (HO.out.lt j hj).1)
    exact ⟨_, rfl, hb, xs, hown2, ⟨HR.out.1, fun i x hi => HR.out.2 i x hi⟩, fun _ h => h.elim⟩
theorem clone_strs (v : Value) (l : List ByteArray) (F : Foot) (w : World) (h : SliceOf StrR 1 16 w F v l) (hF : ∀ k, F k → k < w.heap.size) :
    Calls Tryz.prog 60 #[v] w fun e w' => ∃ v', e = .returned v' ∧ Below w.heap.size w w' ∧ SliceOf StrR 1 16 w' (fresh w.heap.size w'.heap.size) v' l := by
  obtain ⟨_, _, _, _, _, h1, h2⟩ := h.form
  exact (cloneOwn_strs v l F w h hF).mono fun e w' ⟨v', he, hb, ho⟩ => ⟨v', he, hb, ho.slice StrR.stays (fun _ h => h.elim) (fun k h1 h2 => ⟨h1, h2⟩) h2 h1⟩




end Go.Proofs.YtjaladhdnbhliaaGreatDoor
