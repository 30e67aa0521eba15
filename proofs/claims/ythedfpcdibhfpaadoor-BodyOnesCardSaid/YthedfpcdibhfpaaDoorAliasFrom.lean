/- What a module that is used has: alias.From, and the reference's FromOf. -/
import Derived.Test.YthedfpcdibhfpaaDoorFaceCopy
import Derived.Test.YthedfpcdibhfpaaDoorBase
import Derived.Test.YthedfpcdibhfpaaDoorStrs
import Derived.Test.YthedfpcdibhfpaaDoorFaceEq
import Derived.Test.YthedfpcdibhfpaaDoorRecEq
import Derived.Test.YthedfpcdibhfpaaDoorTreeErr3
namespace Go.Proofs.YthedfpcdibhfpaaDoor
open Go.RowKit Go.Shelf

/-- Is an import that of a name, and there? -/
def fromB (t : ByteArray) (x : Import) : Bool := eqB x.name t && x.there
/-- The import that a name leads to. -/
def fromOf (m : Module) (l : List Import) (t : ByteArray) : Option Import := if hasS m.uses t then l.find? (fromB t) else none
def noFace : Face := ⟨[], []⟩
def fromFace (m : Module) (l : List Import) (t : ByteArray) : Face := match fromOf m l t with | some x => x.face | none => noFace
def fromIs (m : Module) (l : List Import) (t : ByteArray) : Bool := (fromOf m l t).isSome
theorem from_hit {m : Module} {l : List Import} {t : ByteArray} {k : Nat} {x : Import} (hu : hasS m.uses t = true) (hx : l[k]? = some x) (h : fromB t x = true) (hb : ∀ j, j < k → ∀ y, l[j]? = some y → fromB t y = false) : fromOf m l t = some x := by
  unfold fromOf
  rw [if_pos hu, List.find?_eq_some_iff_getElem]
  obtain ⟨hk, rfl⟩ := List.getElem?_eq_some_iff.1 hx
  refine ⟨h, k, hk, rfl, fun j hj => ?_⟩
  have := hb j hj _ (List.getElem?_eq_getElem (by omega))
  simp [this]
theorem from_miss {m : Module} {l : List Import} {t : ByteArray} (h : hasS m.uses t = false ∨ ∀ j, j < l.length → ∀ y, l[j]? = some y → fromB t y = false) : fromOf m l t = none := by
  unfold fromOf
  rcases h with h | h
  · rw [h]; rfl
  · split
    · rw [List.find?_eq_none]
      intro y hy
      obtain ⟨j, hj, rfl⟩ := List.mem_iff_getElem.1 hy
      simp [h j hj _ (List.getElem?_eq_getElem hj)]
    · rfl
theorem fidx_cases {α : Type} (p : α → Bool) (l : List α) : (fidx p l = -1 ∧ ∀ j, j < l.length → ∀ y, l[j]? = some y → p y = false) ∨ ∃ (k : Nat) (x : α), fidx p l = (k : Int) ∧ l[k]? = some x ∧ p x = true ∧ ∀ j, j < k → ∀ y, l[j]? = some y → p y = false := by
  unfold fidx
  cases h : l.findIdx? p with
  | none =>
    rw [List.findIdx?_eq_none_iff] at h
    exact .inl ⟨rfl, fun j hj y hy => h y (List.mem_of_getElem? hy)⟩
  | some i =>
    obtain ⟨hi, hp, hb⟩ := List.findIdx?_eq_some_iff_getElem.1 h
    refine .inr ⟨i, l[i], rfl, List.getElem?_eq_getElem hi, hp, fun j hj y hy => ?_⟩
    have h1 := hb j hj
    obtain ⟨hj', rfl⟩ := List.getElem?_eq_some_iff.1 hy
    simpa using h1

set_option maxHeartbeats 400000 in
theorem from1_any (x : Import) (cs : List Value) (F : Foot) (t : ByteArray) (a : Addr) (W : World) (hx : ImportR W F cs x) (ha : W.cell? a = some (.string t)) :
    Calls Tryd.prog 166 #[.agg cs.toArray, .pointer (some a)] W fun e w' => e = .returned (.bool (fromB t x)) ∧ Below W.heap.size W w' := by
  have hlt := World.block_lt_of_cell? W _ ha
  obtain ⟨T1, e1, T2, e2, rfl⟩ := ImportR.form hx
  clear hx
  unfold fromB eqB
  go_enter Tryd.func166, Tryd.ntmps166
  cases hq : (x.name.toList == t.toList)
  all_goals (go_wp2; go_ret; exact ⟨by simp, by go_grown⟩)

set_option maxRecDepth 100000 in
set_option maxHeartbeats 2000000 in
theorem aliasFrom_any (m : Module) (l : List Import) (t : ByteArray) (cs : List Value) (v : Value) (F G : Foot) (w : World) (hF : ∀ k, F k → k < w.heap.size) (hG : ∀ k, G k → k < w.heap.size)
    (hm : ModuleR w F cs m) (hl : SliceOf ImportR 4 72 w G v l) :
    Calls Tryd.prog 130 #[.agg cs.toArray, v, .string t] w fun e w' => ∃ ds : List Value, e = .returned (.tuple #[.agg ds.toArray, .bool (fromIs m l t)]) ∧ Below w.heap.size w w' ∧ FaceR w' (fresh w.heap.size w'.heap.size) ds (fromFace m l t) := by
  obtain ⟨U1, u1, T1, e1, T2, e2, rfl, hu, ht, hf⟩ := ModuleR.form hm
  obtain ⟨L1, l1, rfl, _, _, hll, _⟩ := hl.form
  obtain ⟨E1, hE1⟩ : ∃ z, (fromIs m l t) = z := ⟨_, rfl⟩
  rw [hE1] at ⊢
  have HE1 := Lib.hid hE1; clear hE1
  obtain ⟨E2, hE2⟩ : ∃ z, (fromFace m l t) = z := ⟨_, rfl⟩
  rw [hE2] at ⊢
  have HE2 := Lib.hid hE2; clear hE2
  have HU := Lib.hid hu; have HL := Lib.hid hl
  clear hu hl
  clear ht hf hm
  go_enter Tryd.func130, Tryd.ntmps130
  go_wp2_with fail
  have hBb1 := (((Box.made w 26 #[.slice U1 m.uses.length u1, .slice T1 m.types.length e1, .slice T2 m.funcs.length e2]).alloc (.cells #[.string t] 9)).alloc (.cells #[.slice none 0 0, .slice none 0 0] 31))
  have hBb2 := ((Box.made (w.alloc (.cells #[.slice U1 m.uses.length u1, .slice T1 m.types.length e1, .slice T2 m.funcs.length e2] 26)) 9 #[.string t]).alloc (.cells #[.slice none 0 0, .slice none 0 0] 31))
  rw [show (w.alloc (.cells #[.slice U1 m.uses.length u1, .slice T1 m.types.length e1, .slice T2 m.funcs.length e2] 26)).heap.size = w.heap.size + 1 by simp only [World.size_alloc]] at hBb2
  have hBb3 := (Box.made ((w.alloc (.cells #[.slice U1 m.uses.length u1, .slice T1 m.types.length e1, .slice T2 m.funcs.length e2] 26)).alloc (.cells #[.string t] 9)) 31 #[.slice none 0 0, .slice none 0 0])
  rw [show ((w.alloc (.cells #[.slice U1 m.uses.length u1, .slice T1 m.types.length e1, .slice T2 m.funcs.length e2] 26)).alloc (.cells #[.string t] 9)).heap.size = w.heap.size + 1 + 1 by simp only [World.size_alloc]] at hBb3
  have hbb : Below w.heap.size w (((w.alloc (.cells #[.slice U1 m.uses.length u1, .slice T1 m.types.length e1, .slice T2 m.funcs.length e2] 26)).alloc (.cells #[.string t] 9)).alloc (.cells #[.slice none 0 0, .slice none 0 0] 31)) := by go_grown
  have hzb : (((w.alloc (.cells #[.slice U1 m.uses.length u1, .slice T1 m.types.length e1, .slice T2 m.funcs.length e2] 26)).alloc (.cells #[.string t] 9)).alloc (.cells #[.slice none 0 0, .slice none 0 0] 31)).heap.size = w.heap.size + 1 + 1 + 1 := by simp only [World.size_alloc]
  generalize ((w.alloc (.cells #[.slice U1 m.uses.length u1, .slice T1 m.types.length e1, .slice T2 m.funcs.length e2] 26)).alloc (.cells #[.string t] 9)).alloc (.cells #[.slice none 0 0, .slice none 0 0] 31) = W1 at hBb1 hBb2 hBb3 hbb hzb ⊢
  have hcell := fun (U : World) (hU : Below W1.heap.size W1 U) => (hBb2.later hU hBb2.lt).at_ 0 (.string t) rfl
  have hG1 := foot_up hG hbb
  have hL1 := HL.out.up ImportR.stays hG hbb
  have hidx := indexFunc_imports (.slice L1 l.length l1) l G 166 #[.pointer (some ⟨w.heap.size + 1, 0, none⟩)] (fromB t) W1 (enters_of Tryd.func166 (by kernel_rfl) rfl) hG1 hL1 (fun U x cs _ hU hr => by
    have h := from1_any x cs G t ⟨w.heap.size + 1, 0, none⟩ U hr (hcell U hU)
    obtain ⟨T3, e3, T4, e4, rfl⟩ := ImportR.form hr
    exact h)
  have hk := fidx_cases (fromB t) l
  obtain ⟨z, hz⟩ : ∃ z, (fidx (fromB t) l) = z := ⟨_, rfl⟩
  rw [hz] at hidx hk
  have Z := Lib.hid hz; clear hz
  have HK := Lib.hid hk; have HI := Lib.hid hidx; have HL1 := Lib.hid hL1; have HG1 := Lib.hid hG1
  clear hk hidx hL1 hG1
  clear hcell
  refine HI.out.mono ?_
  rintro e W2 ⟨rfl, hb2⟩
  have hB1 := hBb1.later hb2 hBb1.lt
  have hB2 := hBb2.later hb2 hBb2.lt
  have hB3 := hBb3.later hb2 hBb3.lt
  have hbw := hbb.trans (hb2.mono (by omega))
  have p0 := hB1.at_ 0 _ rfl
  have q0 := hB2.at_ 0 _ rfl
  have r0 := hB3.at_ 0 _ rfl
  have r1 := hB3.at_ 1 _ rfl
  have g0 := hB3.free 0
  have g1 := hB3.free 1
  have hcon := contains_strs (.slice U1 m.uses.length u1) m.uses F t W2 (HU.out.up StrR.stays hF hbw)
  obtain ⟨zu, hzu⟩ : ∃ z, (hasS m.uses t) = z := ⟨_, rfl⟩
  rw [hzu] at hcon
  have ZU := Lib.hid hzu; clear hzu
  have HB3 := Lib.hid hB3; have HBW := Lib.hid hbw; have HC := Lib.hid hcon; have Hz := Lib.hid hzb
  clear hB3 hbw hcon hzb
  clear hBb1 hBb2 hBb3 hb2 hbb hB1 hB2
  rcases HK.out with ⟨hz1, hall⟩ | ⟨k, x, hz1, hx, hfx, hall⟩
  · subst hz1
    have hE : fromOf m l t = none := from_miss (.inr hall)
    have h1 : E1 = false := by rw [← HE1.out, fromIs, hE]; rfl
    have h2 : E2 = noFace := by rw [← HE2.out, fromFace, hE]
    subst h1; subst h2
    clear hall hE
    go_wp2_with (go_at_call 150; refine HC.out.mono ?_; rintro e w' ⟨rfl, rfl⟩)
    exact bodyPost_ret (v := .tuple #[.agg #[.slice none 0 0, .slice none 0 0], .bool false]) (by simp [results, Tryd.results130, go_sem, r0, r1]) rfl ⟨[.slice none 0 0, .slice none 0 0], rfl, (HBW.out.setCell (by simp <;> omega) _).setCell (by simp <;> omega) _, _, _, rfl, SliceOf.nil_, SliceOf.nil_⟩
  · subst hz1
    have hk2 : k < l.length := (List.getElem?_eq_some_iff.1 hx).1
    have hkz : decide ((k : Int) < 0) = false := decide_eq_false (by omega)
    have hkz2 : ¬ (k : Int) < 0 := by omega
    cases zu with
    | false =>
      have hE : fromOf m l t = none := from_miss (.inl ZU.out)
      have h1 : E1 = false := by rw [← HE1.out, fromIs, hE]; rfl
      have h2 : E2 = noFace := by rw [← HE2.out, fromFace, hE]
      subst h1; subst h2
      clear hall hE hx hfx
      go_wp2_with (go_at_call 150; refine HC.out.mono ?_; rintro e w' ⟨rfl, rfl⟩)
      exact bodyPost_ret (v := .tuple #[.agg #[.slice none 0 0, .slice none 0 0], .bool false]) (by simp [results, Tryd.results130, go_sem, r0, r1]) rfl ⟨[.slice none 0 0, .slice none 0 0], rfl, (HBW.out.setCell (by simp <;> omega) _).setCell (by simp <;> omega) _, _, _, rfl, SliceOf.nil_, SliceOf.nil_⟩
    | true =>
      have hE : fromOf m l t = some x := from_hit ZU.out hx hfx hall
      have h1 : E1 = true := by rw [← HE1.out, fromIs, hE]; rfl
      have h2 : E2 = x.face := by rw [← HE2.out, fromFace, hE]
      subst h1; subst h2
      obtain ⟨b1, off, cs, rfl, hbG, hcs, hr, hcell⟩ := (HL.out.up ImportR.stays hG HBW.out).at_ hk2
      rw [(List.getElem?_eq_some_iff.1 hx).2] at hr
      obtain ⟨T3, e3, T4, e4, rfl⟩ := ImportR.form hr
      have hc0 := hcell 0 _ rfl
      have hc1 := hcell 1 _ rfl
      have hc2 := hcell 2 _ rfl
      have hc3 := hcell 3 _ rfl
      simp only [Nat.add_zero] at hc0
      have hcp := fun (U : World) (hU : Below W2.heap.size W2 U) => copyFace_any x.face [.slice T3 x.face.types.length e3, .slice T4 x.face.funcs.length e4] G U (foot_up (foot_up hG HBW.out) hU) (FaceR.stays.later (ImportR.face hr) hU (foot_up hG HBW.out))
      have HCP := Lib.hid hcp
      clear hcp
      clear hall hE hx hfx hr hcell hcs
      go_wp2_with (go_at_call 150; refine HC.out.mono ?_; rintro e w' ⟨rfl, rfl⟩)
      refine (HCP.out _ (Below.refl _ _)).mono ?_
      rintro e W3 ⟨ds, rfl, hb3, hfr⟩
      have hB3 := HB3.out.later hb3 HB3.out.lt
      have r0 := hB3.at_ 0 _ rfl
      have r1 := hB3.at_ 1 _ rfl
      have g0 := hB3.free 0
      have g1 := hB3.free 1
      obtain ⟨T5, e5, T6, e6, rfl⟩ := FaceR.form hfr
      have hbx := HBW.out.trans (hb3.mono HBW.out.size)
      have hlo := HBW.out.size
      have hr2 := HB3.out.lt
      have hfin := FaceR.stays.wider (FaceR.stays.set (p := ⟨w.heap.size + 1 + 1, 1, none⟩) (FaceR.stays.set (p := ⟨w.heap.size + 1 + 1, 0, none⟩) hfr (fresh_no hr2) (.slice T5 x.face.types.length e5)) (fresh_no hr2) (.slice T6 x.face.funcs.length e6)) (fresh_up hlo (Nat.le_refl _))
      have HBX := Lib.hid hbx; have HFin := Lib.hid hfin
      clear hbx hfin
      clear hfr hb3 hB3
      go_wp2_with fail
      exact bodyPost_ret (v := .tuple #[.agg #[.slice T5 x.face.types.length e5, .slice T6 x.face.funcs.length e6], .bool true]) (by simp [results, Tryd.results130, go_sem, r0, r1]) rfl ⟨_, rfl, (HBX.out.setCell (by simp <;> omega) _).setCell (by simp <;> omega) _, by simpa only [size_set] using HFin.out⟩

set_option maxRecDepth 100000 in
set_option maxHeartbeats 2000000 in
theorem fromOf_any (m : Module) (l : List Import) (t : ByteArray) (cs : List Value) (v : Value) (F G : Foot) (w : World) (hF : ∀ k, F k → k < w.heap.size) (hG : ∀ k, G k → k < w.heap.size)
    (hm : ModuleR w F cs m) (hl : SliceOf ImportR 4 72 w G v l) :
    Calls Tryd.prog 83 #[.agg cs.toArray, v, .string t] w fun e w' => ∃ ds : List Value, e = .returned (.tuple #[.agg ds.toArray, .bool (fromIs m l t)]) ∧ Below w.heap.size w w' ∧ FaceR w' G ds (fromFace m l t) := by
  obtain ⟨U1, u1, T1, e1, T2, e2, rfl, hu, ht, hf⟩ := ModuleR.form hm
  obtain ⟨L1, l1, rfl, _, _, hll, _⟩ := hl.form
  obtain ⟨E1, hE1⟩ : ∃ z, (fromIs m l t) = z := ⟨_, rfl⟩
  rw [hE1] at ⊢
  have HE1 := Lib.hid hE1; clear hE1
  obtain ⟨E2, hE2⟩ : ∃ z, (fromFace m l t) = z := ⟨_, rfl⟩
  rw [hE2] at ⊢
  have HE2 := Lib.hid hE2; clear hE2
  have HU := Lib.hid hu; have HL := Lib.hid hl
  clear hu hl
  clear ht hf hm
  go_enter Tryd.func83, Tryd.ntmps83
  go_wp2_with fail
  have hBb1 := ((Box.made w 26 #[.slice U1 m.uses.length u1, .slice T1 m.types.length e1, .slice T2 m.funcs.length e2]).alloc (.cells #[.slice none 0 0, .slice none 0 0] 31))
  have hBb2 := (Box.made (w.alloc (.cells #[.slice U1 m.uses.length u1, .slice T1 m.types.length e1, .slice T2 m.funcs.length e2] 26)) 31 #[.slice none 0 0, .slice none 0 0])
  rw [show (w.alloc (.cells #[.slice U1 m.uses.length u1, .slice T1 m.types.length e1, .slice T2 m.funcs.length e2] 26)).heap.size = w.heap.size + 1 by simp only [World.size_alloc]] at hBb2
  have hbb : Below w.heap.size w ((w.alloc (.cells #[.slice U1 m.uses.length u1, .slice T1 m.types.length e1, .slice T2 m.funcs.length e2] 26)).alloc (.cells #[.slice none 0 0, .slice none 0 0] 31)) := by go_grown
  have hzb : ((w.alloc (.cells #[.slice U1 m.uses.length u1, .slice T1 m.types.length e1, .slice T2 m.funcs.length e2] 26)).alloc (.cells #[.slice none 0 0, .slice none 0 0] 31)).heap.size = w.heap.size + 1 + 1 := by simp only [World.size_alloc]
  generalize (w.alloc (.cells #[.slice U1 m.uses.length u1, .slice T1 m.types.length e1, .slice T2 m.funcs.length e2] 26)).alloc (.cells #[.slice none 0 0, .slice none 0 0] 31) = W1 at hBb1 hBb2 hbb hzb ⊢
  have p0 := hBb1.at_ 0 _ rfl
  have r0 := hBb2.at_ 0 _ rfl
  have r1 := hBb2.at_ 1 _ rfl
  have g0 := hBb2.free 0
  have g1 := hBb2.free 1
  have hcon := hasText_any (.slice U1 m.uses.length u1) m.uses F t W1 (HU.out.up StrR.stays hF hbb)
  obtain ⟨zu, hzu⟩ : ∃ z, (hasS m.uses t) = z := ⟨_, rfl⟩
  rw [hzu] at hcon
  have ZU := Lib.hid hzu; clear hzu
  have hlb := hBb2.lt
  have HL1 := Lib.hid (HL.out.up ImportR.stays hG hbb)
  have hGn : ∀ k, G k → k ≠ w.heap.size + 1 := fun k hk => by have := hG k hk; omega
  have HC := Lib.hid hcon; have HBW := Lib.hid hbb; have Hz := Lib.hid hzb; have HG := Lib.hid hGn; have HB1 := Lib.hid hBb1; have HB2 := Lib.hid hBb2
  clear hcon hbb hzb hGn hBb1 hBb2
  go_loopg [8] l.length (fun gg s8 wr => ∃ kk : Nat, kk ≤ l.length ∧ l.length - kk ≤ gg ∧ s8 = .int .i64 kk ∧ W1 = wr ∧ Aside (∀ j, j < kk → ∀ y, l[j]? = some y → hasS m.uses t = true → fromB t y = false))
  case atStart => exact ⟨0, Nat.zero_le _, by omega, rfl, rfl, aside (fun j hj => absurd hj (Nat.not_lt_zero _))⟩
  case round =>
    obtain ⟨kk, hkk, hg, rfl, rfl, Al⟩ := hrel
    by_cases hlt : kk < l.length
    · have hltz : (kk : Int) < (l.length : Int) := by omega
      obtain ⟨b1, off, cs, rfl, hbG, hcs, hr, hcell⟩ := HL1.out.at_ hlt
      have hx := List.getElem?_eq_getElem hlt
      generalize l[kk] = x at *
      obtain ⟨T3, e3, T4, e4, rfl⟩ := ImportR.form hr
      have hc0 := hcell 0 _ rfl
      have hc1 := hcell 1 _ rfl
      have hc2 := hcell 2 _ rfl
      have hc3 := hcell 3 _ rfl
      simp only [Nat.add_zero] at hc0
      have hfr := ImportR.face hr
      have HX := Lib.hid hx; have HR := Lib.hid hfr
      clear hx hfr
      clear hcell hcs hr
      cases hq1 : (x.name.toList == t.toList) <;> cases hq2 : x.there <;> cases zu
      case true.true.true =>
        have hE : fromOf m l t = some x := from_hit ZU.out HX.out (by simp [fromB, eqB, hq1, hq2]) (fun j hj y hy => Al.out j hj y hy ZU.out)
        have h1 : E1 = true := by rw [← HE1.out, fromIs, hE]; rfl
        have h2 : E2 = x.face := by rw [← HE2.out, fromFace, hE]
        subst h1; subst h2
        have hfin := FaceR.stays.set (p := ⟨w.heap.size + 1, 1, none⟩) (FaceR.stays.set (p := ⟨w.heap.size + 1, 0, none⟩) HR.out (fun h => HG.out _ h rfl) (.slice T3 x.face.types.length e3)) (fun h => HG.out _ h rfl) (.slice T4 x.face.funcs.length e4)
        have HFin := Lib.hid hfin
        clear hfin
        clear hE
        go_wp2_with (go_at_call 136; refine HC.out.mono ?_; rintro e w' ⟨rfl, rfl⟩)
        exact bodyPost_ret (v := .tuple #[.agg #[.slice T3 x.face.types.length e3, .slice T4 x.face.funcs.length e4], .bool true]) (by simp [results, Tryd.results83, go_sem, r0, r1]) rfl ⟨_, rfl, (HBW.out.setCell (by simp <;> omega) _).setCell (by simp <;> omega) _, HFin.out⟩
      all_goals
        have hno := Lib.hid (show ∀ j, j < kk + 1 → ∀ y, l[j]? = some y → hasS m.uses t = true → fromB t y = false from fun j hj y hy hz => by
          by_cases e : j = kk
          · subst e
            have h := HX.out
            rw [hy] at h; injection h with h; subst h
            rw [ZU.out] at hz
            simp_all [fromB, eqB]
          · exact Al.out j (by omega) y hy hz)
        go_wp2_with (go_at_call 136; refine HC.out.mono ?_; rintro e w' ⟨rfl, rfl⟩)
        go_roundg (l.length - (kk + 1))
        case measure => omega
        case rel => exact ⟨kk + 1, by omega, by omega, by go_num, rfl, aside hno.out⟩
    · have hltz : ¬ (kk : Int) < (l.length : Int) := by omega
      obtain rfl : kk = l.length := by omega
      have hE : fromOf m l t = none := by
        cases zu with
        | false => exact from_miss (.inl ZU.out)
        | true => exact from_miss (.inr (fun j hj y hy => Al.out j hj y hy ZU.out))
      have h1 : E1 = false := by rw [← HE1.out, fromIs, hE]; rfl
      have h2 : E2 = noFace := by rw [← HE2.out, fromFace, hE]
      subst h1; subst h2
      clear hE
      go_wp2_with fail
      exact bodyPost_ret (v := .tuple #[.agg #[.slice none 0 0, .slice none 0 0], .bool false]) (by simp [results, Tryd.results83, go_sem, r0, r1]) rfl ⟨[.slice none 0 0, .slice none 0 0], rfl, (HBW.out.setCell (by simp <;> omega) _).setCell (by simp <;> omega) _, _, _, rfl, SliceOf.nil_, SliceOf.nil_⟩

end Go.Proofs.YthedfpcdibhfpaaDoor
