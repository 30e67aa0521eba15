/- Are two faces the same: face.Same. -/
import Derived.Test.YtjaladhdnbhliaaGreatDoorFaceEq
namespace Go.Proofs.YtjaladhdnbhliaaGreatDoor
open Go.RowKit Go.Shelf

theorem lt_below {F : Foot} {B : Nat} {w W : World} (h : ∀ k, F k → k < w.heap.size) (hb : Below B w W) : ∀ k, F k → k < W.heap.size := fun k hk => Nat.lt_of_lt_of_le (h k hk) hb.size

def sigEq (a b : Sig) : Bool := eqB a.name b.name && (eqB a.result b.result && listEq eqB a.params b.params)
def faceEq (a b : Face) : Bool := listEq knownEq a.types b.types && listEq sigEq a.funcs b.funcs

set_option maxRecDepth 100000 in
set_option maxHeartbeats 1000000 in
theorem same1_any (a b : Sig) (cs ds : List Value) (F G : Foot) (w : World) (hF : ∀ k, F k → k < w.heap.size) (hG : ∀ k, G k → k < w.heap.size) (ha : SigR w F cs a) (hb : SigR w G ds b) :
    Calls Tryz.prog 68 #[.agg cs.toArray, .agg ds.toArray] w fun e w' => e = .returned (.bool (sigEq a b)) ∧ Below w.heap.size w w' := by
  obtain ⟨pv, rfl, hn, hr, hp⟩ := ha
  obtain ⟨qv, rfl, hn', hr', hq⟩ := hb
  have hcall := fun W hW hW' hK hK' => equal_strs pv qv a.params b.params F G W hW hW' (hp.stays StrR.stays (fun _ h => h) hK) (hq.stays StrR.stays (fun _ h => h) hK')
  obtain ⟨A, cap, rfl, hlc, hcm, hl2, hl3⟩ := hp.form
  obtain ⟨A', cap', rfl, hlc', hcm', hl2', hl3'⟩ := hq.form
  clear hp hq
  unfold sigEq
  generalize listEq eqB a.params b.params = z at hcall ⊢
  have HC := Lib.hid hcall; clear hcall
  cases h1 : eqB a.name b.name with
  | false =>
    have hE : (a.name.toList == b.name.toList) = false := h1
    clear h1
    go_enter Tryz.func68, Tryz.ntmps68
    go_wp2_with fail
    go_ret
    exact ⟨rfl, ((Below.refl _ _).alloc (Nat.le_refl _) _).alloc (by simp) _⟩
  | true =>
    have hE : (a.name.toList == b.name.toList) = true := h1
    clear h1
    cases h2 : eqB a.result b.result with
    | false =>
      have hE2 : (a.result.toList == b.result.toList) = false := h2
      clear h2
      go_enter Tryz.func68, Tryz.ntmps68
      go_wp2_with fail
      go_ret
      exact ⟨rfl, ((Below.refl _ _).alloc (Nat.le_refl _) _).alloc (by simp) _⟩
    | true =>
      have hE2 : (a.result.toList == b.result.toList) = true := h2
      clear h2
      go_enter Tryz.func68, Tryz.ntmps68
      go_wp2_with fail
      refine (HC.out _ (fun k hk => ?_) (fun k hk => ?_) ?_ ?_).mono ?_
      · have := hF k hk; simp; omega
      · have := hG k hk; simp; omega
      · exact ((Keeps.refl _ _).alloc hF _).alloc (fun k hk => by have := hF k hk; simp; omega) _
      · exact ((Keeps.refl _ _).alloc hG _).alloc (fun k hk => by have := hG k hk; simp; omega) _
      rintro e w' ⟨rfl, hb'⟩
      go_wp2
      go_ret
      exact ⟨rfl, (((Below.refl _ _).alloc (Nat.le_refl _) _).alloc (by simp) _).trans (hb'.mono (by simp; omega))⟩

set_option maxRecDepth 100000 in
set_option maxHeartbeats 1000000 in
theorem equalFunc_sigs (v u : Value) (l m : List Sig) (F G : Foot) (g : Nat) (lb : Array Value) (p : Sig → Sig → Bool) (w : World) (eg : ∀ args w, (callFunc g args).run Tryz.prog w = .ok (.enter g args) w)
    (hF : ∀ k, F k → k < w.heap.size) (hG : ∀ k, G k → k < w.heap.size) (hv : SliceOf SigR 3 56 w F v l) (hu : SliceOf SigR 3 56 w G u m)
    (hp : ∀ W x y cs ds, Below w.heap.size w W → SigR W F cs x → SigR W G ds y → Calls Tryz.prog g (#[.agg cs.toArray, .agg ds.toArray] ++ lb) W fun e w' => e = .returned (.bool (p x y)) ∧ Below W.heap.size W w') :
    Calls Tryz.prog 67 #[v, u, .func (.func g) #[] lb] w fun e w' => e = .returned (.bool (listEq p l m)) ∧ Below w.heap.size w w' := by
  obtain ⟨A, cap, rfl, hlc, hcm, hl2, hl3⟩ := hv.form
  obtain ⟨A', cap', rfl, hlc', hcm', hl2', hl3'⟩ := hu.form
  by_cases hlen : l.length = m.length
  · have hz : ((l.length : Int) != (m.length : Int)) = false := by simp [hlen]
    have HL := Lib.hid hlen
    have hle : m.length ≤ l.length := by omega
    clear hlen
    go_enter Tryz.func67, Tryz.ntmps67
    go_wp2
    go_loopg [17] l.length (fun gg s17 wr => ∃ kk : Nat, kk ≤ l.length ∧ l.length - kk ≤ gg ∧ s17 = .int .i64 kk ∧ Aside (Below w.heap.size w wr) ∧ Aside (∀ j, j < kk → ∀ x y, l[j]? = some x → m[j]? = some y → p x y = true))
    case atStart => exact ⟨0, Nat.zero_le _, by omega, rfl, Below.refl _ w, (show Aside _ from fun j hj => absurd hj (Nat.not_lt_zero _))⟩
    case round =>
      obtain ⟨kk, hkk, hg, rfl, BW, A1⟩ := hrel
      by_cases hlt : kk < l.length
      · have hltz : (kk : Int) < (l.length : Int) := by omega
        have hlt' : kk < m.length := by have := HL.out; omega
        have hltz' : (kk : Int) < (m.length : Int) := by omega
        obtain ⟨b, off, cs, rfl, hb, hcs, hr, hcell⟩ := (hv.stays SigR.stays (fun _ h => h) (Keeps.of_below BW.out hF)).at_ hlt
        obtain ⟨b', off', cs', rfl, hb', hcs', hr', hcell'⟩ := (hu.stays SigR.stays (fun _ h => h) (Keeps.of_below BW.out hG)).at_ hlt'
        have hr0 := hr
        have hr0' := hr'
        obtain ⟨pv, rfl, _, _, hpv⟩ := hr
        obtain ⟨qv, rfl, _, _, hqv⟩ := hr'
        obtain ⟨A1p, capp, rfl, _, _, _, _⟩ := hpv.form
        obtain ⟨A1q, capq, rfl, _, _, _, _⟩ := hqv.form
        have hc0 := hcell 0 _ rfl
        have hd0 := hcell' 0 _ rfl
        have hc1 := hcell 1 _ rfl
        have hd1 := hcell' 1 _ rfl
        have hc2 := hcell 2 _ rfl
        have hd2 := hcell' 2 _ rfl
        simp only [Nat.add_zero] at hc0 hd0
        clear hcell hcell' hpv hqv
        have hsz := BW.out.size
        have hbl : b < wr.heap.size := by have := hF b hb; omega
        have hbl' : b' < wr.heap.size := by have := hG b' hb'; omega
        have hx := List.getElem?_eq_getElem hlt
        have hy := List.getElem?_eq_getElem hlt'
        have hcall := fun W hW hK hK' => hp W l[kk] m[kk] _ _ hW (SigR.stays _ _ _ _ _ _ hr0 (fun _ h => h) hK) (SigR.stays _ _ _ _ _ _ hr0' (fun _ h => h) hK')
        clear hr0 hr0' hp hv hu
        have HX := Lib.hid hx; have HY := Lib.hid hy; clear hx hy
        have hFr : ∀ k, F k → k < wr.heap.size := fun k hk => by have := hF k hk; omega
        have hGr : ∀ k, G k → k < wr.heap.size := fun k hk => by have := hG k hk; omega
        have HFr := Lib.hid hFr
        have HGr := Lib.hid hGr
        have HW := Lib.hid (((BW.out.alloc hsz (.cells #[.string l[kk].name, .slice A1p l[kk].params.length capp, .string l[kk].result] 62)).alloc (by simp; omega) (.cells #[.string m[kk].name, .slice A1q m[kk].params.length capq, .string m[kk].result] 62)))
        clear hFr hGr
        cases hq : p l[kk] m[kk] with
        | true =>
            rw [hq] at hcall
            have HC := Lib.hid hcall
            have HQ := Lib.hid hq
            clear hcall hq
            go_wp2_with fail
            refine (HC.out _ HW.out (((Keeps.refl F wr).alloc HFr.out _).alloc (fun k hk => by have := HFr.out k hk; simp; omega) _) (((Keeps.refl G wr).alloc HGr.out _).alloc (fun k hk => by have := HGr.out k hk; simp; omega) _)).mono ?_
            rintro e w' ⟨rfl, hb2⟩
            go_wp2
            go_roundg (l.length - (kk + 1))
            case measure => omega
            case rel => exact ⟨kk + 1, by omega, by omega, by go_num, HW.out.trans (hb2.mono (by simp; omega)), (show Aside _ from alike_succ HX.out HY.out HQ.out A1.out)⟩
        | false =>
            rw [hq] at hcall
            have HC := Lib.hid hcall
            have HQ := Lib.hid hq
            clear hcall hq
            go_wp2_with fail
            refine (HC.out _ HW.out (((Keeps.refl F wr).alloc HFr.out _).alloc (fun k hk => by have := HFr.out k hk; simp; omega) _) (((Keeps.refl G wr).alloc HGr.out _).alloc (fun k hk => by have := HGr.out k hk; simp; omega) _)).mono ?_
            rintro e w' ⟨rfl, hb2⟩
            go_wp2
            go_ret
            exact ⟨ret_bool (listEq_miss HX.out HY.out HQ.out).symm, HW.out.trans (hb2.mono (by simp; omega))⟩
      · have hltz : ¬ (kk : Int) < (l.length : Int) := by omega
        obtain rfl : kk = l.length := by omega
        go_wp2
        go_ret
        exact ⟨ret_bool (alike_end HL.out A1.out).symm, BW.out⟩
  · have hz : ((l.length : Int) != (m.length : Int)) = true := by simp; omega
    have HL := Lib.hid hlen
    clear hlen
    go_enter Tryz.func67, Tryz.ntmps67
    go_wp2
    go_ret
    exact ⟨ret_bool (listEq_len HL.out).symm, Below.refl _ _⟩

set_option maxRecDepth 100000 in
set_option maxHeartbeats 1000000 in
theorem same_any (a b : Face) (cs ds : List Value) (F G : Foot) (w : World) (hF : ∀ k, F k → k < w.heap.size) (hG : ∀ k, G k → k < w.heap.size) (ha : FaceR w F cs a) (hb : FaceR w G ds b) :
    Calls Tryz.prog 29 #[.agg cs.toArray, .agg ds.toArray] w fun e w' => e = .returned (.bool (faceEq a b)) ∧ Below w.heap.size w w' := by
  obtain ⟨tv, fv, rfl, ht, hf⟩ := ha
  obtain ⟨tu, fu, rfl, ht', hf'⟩ := hb
  have hk := fun W hW hW' hK hK' => equal_knowns tv tu a.types b.types F G W hW hW' (ht.stays KnownR.stays (fun _ h => h) hK) (ht'.stays KnownR.stays (fun _ h => h) hK')
  have hs := fun (W : World) (hW : ∀ k, F k → k < W.heap.size) (hW' : ∀ k, G k → k < W.heap.size) hK hK' => equalFunc_sigs fv fu a.funcs b.funcs F G 68 #[] sigEq W (enters_of Tryz.func68 (by kernel_rfl) rfl) hW hW' (hf.stays SigR.stays (fun _ h => h) hK) (hf'.stays SigR.stays (fun _ h => h) hK')
    (fun W' x y cs ds hB hx hy => same1_any x y cs ds F G W' (lt_below hW hB) (lt_below hW' hB) hx hy)
  obtain ⟨A1, c1, rfl, _, _, _, _⟩ := ht.form
  obtain ⟨A2, c2, rfl, _, _, _, _⟩ := ht'.form
  obtain ⟨A3, c3, rfl, _, _, _, _⟩ := hf.form
  obtain ⟨A4, c4, rfl, _, _, _, _⟩ := hf'.form
  clear ht ht' hf hf'
  have HW : Hid (Below w.heap.size w ((w.alloc (.cells #[.slice A1 a.types.length c1, .slice A3 a.funcs.length c3] 42)).alloc (.cells #[.slice A2 b.types.length c2, .slice A4 b.funcs.length c4] 42))) := ((Below.refl _ _).alloc (Nat.le_refl _) _).alloc (by simp) _
  unfold faceEq
  generalize listEq sigEq a.funcs b.funcs = z2 at hs ⊢
  have HS := Lib.hid hs; clear hs
  cases h1 : listEq knownEq a.types b.types with
  | false =>
    rw [h1] at hk
    have HK := Lib.hid hk; clear hk h1
    go_enter Tryz.func29, Tryz.ntmps29
    go_wp2_with fail
    refine (HK.out _ (lt_below hF HW.out) (lt_below hG HW.out) (Keeps.of_below HW.out hF) (Keeps.of_below HW.out hG)).mono ?_
    rintro e w' ⟨rfl, hb⟩
    go_wp2
    go_ret
    exact ⟨rfl, HW.out.trans (hb.mono (by simp; omega))⟩
  | true =>
    rw [h1] at hk
    have HK := Lib.hid hk; clear hk h1
    go_enter Tryz.func29, Tryz.ntmps29
    go_wp2_with fail
    refine (HK.out _ (lt_below hF HW.out) (lt_below hG HW.out) (Keeps.of_below HW.out hF) (Keeps.of_below HW.out hG)).mono ?_
    rintro e w' ⟨rfl, hb⟩
    have hb2 := HW.out.trans (hb.mono (by simp; omega))
    have hc0 : w'.cell? ⟨w.heap.size, 1, none⟩ = some (.slice A3 a.funcs.length c3) := by rw [hb.cell (by simp; omega), World.cell?_alloc_past _ _ _ (by simp), World.cell?_alloc_at _ _ _ _ rfl]; rfl
    have hc1 : w'.cell? ⟨w.heap.size + 1, 1, none⟩ = some (.slice A4 b.funcs.length c4) := by rw [hb.cell (by simp), World.cell?_alloc_at _ _ _ _ (by simp)]; rfl
    go_wp2_with fail
    refine (HS.out _ (lt_below hF hb2) (lt_below hG hb2) (Keeps.of_below hb2 hF) (Keeps.of_below hb2 hG)).mono ?_
    rintro e w2 ⟨rfl, hb3⟩
    go_wp2
    go_ret
    exact ⟨rfl, hb2.trans (hb3.mono hb2.size)⟩

end Go.Proofs.YtjaladhdnbhliaaGreatDoor
