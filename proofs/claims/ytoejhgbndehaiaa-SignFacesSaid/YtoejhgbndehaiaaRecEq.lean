/- Is a record that of a source, with these modules: record.Is and the reference's IsRecord. -/
import Derived.Test.YtoejhgbndehaiaaFaceRef
import Derived.Test.YtoejhgbndehaiaaBase
import Derived.StillTailTactics
namespace Go.Proofs.Ytoejhgbndehaiaa
open Go.RowKit Go.Shelf

theorem ImportR.form {w : World} {F : Foot} {cs : List Value} {x : Import} (h : ImportR w F cs x) : ∃ T1 e1 T2 e2, cs = [.string x.name, .bool x.there, .slice T1 x.face.types.length e1, .slice T2 x.face.funcs.length e2] := by
  obtain ⟨tv, fv, rfl, _, h1⟩ := h
  obtain ⟨T1, e1, T2, e2, h2⟩ := h1.form
  injection h2 with h2 h3
  injection h3 with h3 _
  subst h2; subst h3
  exact ⟨_, _, _, _, rfl⟩
theorem ImportR.face {w : World} {F : Foot} {x : Import} {a b : Value} {tv fv : Value} (h : ImportR w F [a, b, tv, fv] x) : FaceR w F [tv, fv] x.face := by
  obtain ⟨tv', fv', h0, _, h1⟩ := h
  injection h0 with _ h0
  injection h0 with _ h0
  injection h0 with h2 h0
  injection h0 with h3 _
  subst h2; subst h3
  exact h1
theorem ImportR.okName {w : World} {F : Foot} {cs : List Value} {x : Import} (h : ImportR w F cs x) : okS x.name := by
  obtain ⟨_, _, _, h1, _⟩ := h
  exact h1

def importEq (a b : Import) : Bool := eqB a.name b.name && (a.there == b.there && faceEq a.face b.face)
def recIs (r : Record) (s : ByteArray) (l : List Import) : Bool := eqB r.source s && listEq importEq r.imports l

set_option maxRecDepth 100000 in
set_option maxHeartbeats 2000000 in
theorem isRecord_any (r : Record) (s : ByteArray) (l : List Import) (cs : List Value) (v : Value) (F G : Foot) (w : World) (hF : ∀ k, F k → k < w.heap.size) (hG : ∀ k, G k → k < w.heap.size) (hr : RecordR w F cs r) (hv : SliceOf ImportR 4 72 w G v l) :
    Calls Try.prog 41 #[.agg cs.toArray, .string s, v] w fun e w' => e = .returned (.bool (recIs r s l)) ∧ Below w.heap.size w w' := by
  obtain ⟨iv, tv, fv, dv, rfl, hn, hs, hi, hface, hd⟩ := hr
  obtain ⟨T1, e1, T2, e2, h2⟩ := hface.form
  injection h2 with h2 h3
  injection h3 with h3 _
  subst h2; subst h3
  obtain ⟨I1, i1, rfl, _, _, hl1, _⟩ := hi.form
  obtain ⟨D1, d1, rfl, _⟩ := hd.form
  obtain ⟨V1, v1, rfl, _, _, hl2, _⟩ := hv.form
  clear hface hd
  cases h1 : eqB r.source s with
  | false =>
    have hE : (r.source.toList == s.toList) = false := h1
    have hR : recIs r s l = false := by simp [recIs, h1]
    rw [hR]
    clear h1 hR hi hv
    go_enter Try.func41, Try.ntmps41
    go_wp2_with fail
    go_ret
    exact ⟨rfl, by go_grown⟩
  | true =>
    have hE : (r.source.toList == s.toList) = true := h1
    have hR : recIs r s l = listEq importEq r.imports l := by simp [recIs, h1]
    rw [hR]
    clear h1 hR
    by_cases hlen : r.imports.length = l.length
    · have hz : ((r.imports.length : Int) != (l.length : Int)) = false := by simp [hlen]
      have HL := Lib.hid hlen
      have hle : r.imports.length ≤ l.length := by omega
      clear hlen
      go_enter Try.func41, Try.ntmps41
      go_wp2_with fail
      have hB := Box.made w 33 #[.string r.name, .string r.source, .slice I1 r.imports.length i1, .slice T1 r.face.types.length e1, .slice T2 r.face.funcs.length e2, .slice D1 r.diags.length d1]
      have hb0 : Below w.heap.size w (w.alloc (.cells #[.string r.name, .string r.source, .slice I1 r.imports.length i1, .slice T1 r.face.types.length e1, .slice T2 r.face.funcs.length e2, .slice D1 r.diags.length d1] 33)) := by go_grown
      generalize w.alloc (.cells #[.string r.name, .string r.source, .slice I1 r.imports.length i1, .slice T1 r.face.types.length e1, .slice T2 r.face.funcs.length e2, .slice D1 r.diags.length d1] 33) = W1 at hB hb0 ⊢
      have HB := Lib.hid hB; have Hb0 := Lib.hid hb0; clear hB hb0
      go_loopg [7] l.length (fun gg s7 wr => ∃ kk : Nat, kk ≤ l.length ∧ l.length - kk ≤ gg ∧ s7 = .int .i64 kk ∧ Aside (Below W1.heap.size W1 wr) ∧ Aside (∀ j, j < kk → ∀ x y, r.imports[j]? = some x → l[j]? = some y → importEq x y = true))
      case atStart => exact ⟨0, Nat.zero_le _, by omega, rfl, Below.refl _ _, (show Aside _ from fun j hj => absurd hj (Nat.not_lt_zero _))⟩
      case round =>
        obtain ⟨kk, hkk, hg, rfl, BW, Al⟩ := hrel
        have hB1 := HB.out.later BW.out HB.out.lt
        have ha2 := hB1.at_ 2 _ rfl
        have hbw := Hb0.out.trans (BW.out.mono Hb0.out.size)
        clear hB1
        by_cases hlt : kk < l.length
        · have hltz : (kk : Int) < (l.length : Int) := by omega
          have hlt' : kk < r.imports.length := by have := HL.out; omega
          have hltz' : (kk : Int) < (r.imports.length : Int) := by omega
          obtain ⟨b1, off, cs, rfl, hb, hcs, hx1, hcell⟩ := (hi.up ImportR.stays hF hbw).at_ hlt'
          obtain ⟨b2, off', cs', rfl, hb', hcs', hy1, hcell'⟩ := (hv.up ImportR.stays hG hbw).at_ hlt
          have hx := List.getElem?_eq_getElem hlt'
          have hy := List.getElem?_eq_getElem hlt
          generalize r.imports[kk] = x at *
          generalize l[kk] = y at *
          obtain ⟨X1, x1, X2, x2, rfl⟩ := ImportR.form hx1
          obtain ⟨Y1, y1, Y2, y2, rfl⟩ := ImportR.form hy1
          have hc0 := hcell 0 _ rfl
          have hc1 := hcell 1 _ rfl
          have hc2 := hcell 2 _ rfl
          have hc3 := hcell 3 _ rfl
          have hd0 := hcell' 0 _ rfl
          have hd1 := hcell' 1 _ rfl
          have hd2 := hcell' 2 _ rfl
          have hd3 := hcell' 3 _ rfl
          simp only [Nat.add_zero] at hc0 hd0
          have hFW := lt_below hF hbw
          have hGW := lt_below hG hbw
          have hcall := fun U (hU : Below wr.heap.size wr U) => sameFace_any x.face y.face _ _ F G U (lt_below hFW hU) (lt_below hGW hU) (FaceR.stays wr U _ _ _ _ hx1.face (fun _ h => h) (Keeps.of_below hU hFW)) (FaceR.stays wr U _ _ _ _ hy1.face (fun _ h => h) (Keeps.of_below hU hGW))
          obtain ⟨z3, hz3⟩ : ∃ z, faceEq x.face y.face = z := ⟨_, rfl⟩
          rw [hz3] at hcall
          have HX := Lib.hid hx; have HY := Lib.hid hy; have HC := Lib.hid hcall; have HBW := Lib.hid hbw; have Z3 := Lib.hid hz3
          clear hx hy hcall hcell hcell' hx1 hy1 hFW hGW hbw hi hv hz3
          cases h1 : eqB x.name y.name with
          | false =>
            have hE1 : (!(x.name.toList == y.name.toList)) = true := by have : (x.name.toList == y.name.toList) = false := h1; rw [this]; rfl
            have hE2 : (x.name.toList == y.name.toList) = false := h1
            have HQ := Lib.hid (show importEq x y = false by simp [importEq, h1])
            clear h1
            go_wp2
            go_quiet (fail)
            go_wp2
            go_ret
            exact ⟨ret_bool (listEq_miss HX.out HY.out HQ.out).symm, below_drewN HBW.out _⟩
          | true =>
            have hE1 : (x.name.toList == y.name.toList) = true := h1
            have h1' := h1
            clear h1
            cases h2 : (x.there == y.there) with
            | false =>
              have HQ := Lib.hid (show importEq x y = false by simp [importEq, h2])
              clear h1'
              go_wp2
              go_quiet (fail)
              go_wp2
              go_ret
              exact ⟨ret_bool (listEq_miss HX.out HY.out HQ.out).symm, below_drewN HBW.out _⟩
            | true =>
              have HQ := Lib.hid (show importEq x y = z3 by simp [importEq, h1', h2, Z3.out])
              clear h1'
              go_wp2
              go_still_tail 38, (by kernel_rfl)
              change wpList _ _ _ _ _ wr.drew
              go_wp2_with fail
              refine (HC.out _ (Below.drew (Below.refl _ _))).mono ?_
              rintro e w' ⟨rfl, hb2⟩
              have HB2 := Lib.hid (HBW.out.trans (Below.trans (Below.drew (Below.refl _ _)) (hb2.mono (by exact HBW.out.size))))
              have HB3 := Lib.hid (BW.out.trans (Below.trans (Below.drew (Below.refl _ _)) (hb2.mono (by exact BW.out.size))))
              clear hb2
              cases z3 with
              | true =>
                go_wp2_with fail
                go_roundg (l.length - (kk + 1))
                case measure => omega
                case rel => exact ⟨kk + 1, by omega, by omega, by go_num, HB3.out, (show Aside _ from alike_succ HX.out HY.out HQ.out Al.out)⟩
              | false =>
                go_wp2_with fail
                go_ret
                exact ⟨ret_bool (listEq_miss HX.out HY.out HQ.out).symm, HB2.out⟩
        · have hltz : ¬ (kk : Int) < (l.length : Int) := by omega
          obtain rfl : kk = l.length := by omega
          go_wp2
          go_ret
          exact ⟨ret_bool (alike_end HL.out (fun j hj => Al.out j (by have := HL.out; omega))).symm, hbw⟩
    · have hz : ((r.imports.length : Int) != (l.length : Int)) = true := by simp; omega
      have HL := Lib.hid hlen
      clear hlen hi hv
      go_enter Try.func41, Try.ntmps41
      go_wp2_with fail
      go_ret
      exact ⟨ret_bool (listEq_len HL.out).symm, by go_grown⟩

end Go.Proofs.Ytoejhgbndehaiaa
