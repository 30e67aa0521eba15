/- What is wrong with nodes: the reference's NodesFault, graph.Check. -/
import Derived.Test.YtafhepilcmimlaaDoorBase
import Derived.Test.YtafhepilcmimlaaDoorName
import Derived.Deep.QuietTactic
import Derived.BigQuiet
namespace Go.Proofs.YtafhepilcmimlaaDoor
open Go.RowKit Go.Shelf

def useBad (s : ByteArray) : Bool := !(nameOk s)
/-- What is wrong with a node by itself. -/
def nodeBad (x : Node) : Int := if nameOk x.name && (decide (x.uses.length ≤ 24) && !(x.uses.any useBad)) then 0 else 4
/-- What is wrong with nodes; 0: nothing. -/
def nodesErr (l : List Node) : Int := if 10 < l.length then 1 else firstErr (itemErr Node.name nodeBad l) l.length
theorem nodeBad_no {x : Node} (h : nameOk x.name = false ∨ 24 < x.uses.length ∨ x.uses.any useBad = true) : nodeBad x = 4 := by
  unfold nodeBad
  rcases h with h | h | h
  · simp [h]
  · simp [show ¬ x.uses.length ≤ 24 by omega]
  · rw [h]; simp
theorem nodeBad_ok {x : Node} (h1 : nameOk x.name = true) (h2 : x.uses.length ≤ 24) (h3 : x.uses.any useBad = false) : nodeBad x = 0 := by
  unfold nodeBad
  simp [h1, h2, h3]
theorem nodesErr_hit {l : List Node} {k : Nat} {e : Int} (h10 : ¬ 10 < l.length) (hk : k < l.length) (hb : ∀ j, j < k → itemErr Node.name nodeBad l j = 0) (h : itemErr Node.name nodeBad l k = e) (h0 : e ≠ 0) : nodesErr l = e := by
  unfold nodesErr
  rw [if_neg h10, firstErr_hit hk hb (by rw [h]; exact h0), h]
theorem nodesErr_none {l : List Node} (h10 : ¬ 10 < l.length) (hb : ∀ j, j < l.length → itemErr Node.name nodeBad l j = 0) : nodesErr l = 0 := by
  unfold nodesErr
  rw [if_neg h10, firstErr_none hb]

set_option maxHeartbeats 400000 in
theorem graph1_any (s : ByteArray) (w : World) (hs : s.size ≤ 140737488355328) : Calls Tryd.prog 37 #[.string s] w fun e w' => e = .returned (.bool (useBad s)) ∧ Below w.heap.size w w' := by
  have hc := fun W => ident_any s W hs
  unfold useBad
  generalize nameOk s = z at hc ⊢
  have HC := Lib.hid hc
  clear hc
  go_enter Tryd.func37, Tryd.ntmps37
  go_wp2_with fail
  refine (HC.out _).mono ?_
  rintro e w' ⟨rfl, hb⟩
  go_wp2_with fail
  go_ret
  exact ⟨rfl, hb⟩

set_option maxRecDepth 100000 in
set_option maxHeartbeats 4000000 in
theorem graphCheck_any (v : Value) (l : List Node) (F : Foot) (w : World) (hF : ∀ k, F k → k < w.heap.size) (hv : SliceOf NodeR 2 40 w F v l) :
    Calls Tryd.prog 18 #[v] w fun e w' => e = .returned (.int .i64 (nodesErr l)) ∧ Below w.heap.size w w' := by
  obtain ⟨A, cap, rfl, _, _, hl1, _⟩ := hv.form
  obtain ⟨E, hE⟩ : ∃ E, nodesErr l = E := ⟨_, rfl⟩
  rw [hE]
  by_cases h10 : 10 < l.length
  · have h10z : (10 : Int) < (l.length : Int) := by omega
    obtain rfl : E = 1 := by rw [← hE]; simp [nodesErr, h10]
    clear hE hv
    go_enter Tryd.func18, Tryd.ntmps18
    go_wp2_with fail
    go_ret
    exact ⟨rfl, Below.refl _ _⟩
  · have h10z : ¬ (10 : Int) < (l.length : Int) := by omega
    have HE := Lib.hid hE
    have H10 := Lib.hid h10
    clear hE h10
    go_enter Tryd.func18, Tryd.ntmps18
    go_wp2_with fail
    go_loopg [3, 10] l.length (fun gg _ s10 wr => ∃ kk : Nat, kk ≤ l.length ∧ l.length - kk ≤ gg ∧ s10 = .int .i64 kk ∧ Aside (Below w.heap.size w wr) ∧ Aside (∀ j, j < kk → itemErr Node.name nodeBad l j = 0))
    case atStart => exact ⟨0, Nat.zero_le _, by omega, rfl, Below.refl _ _, aside (fun j hj => absurd hj (Nat.not_lt_zero _))⟩
    case round =>
      obtain ⟨kk, hkk, hg, rfl, BW, Al⟩ := hrel
      by_cases hlt : kk < l.length
      · have hltz : (kk : Int) < (l.length : Int) := by omega
        have hat := hv.up NodeR.stays hF BW.out
        obtain ⟨b1, off, cs, rfl, hb, hcs, ⟨uv, rfl, hn, hu⟩, hcell⟩ := hat.at_ hlt
        have hFr := foot_up hF BW.out
        have hcf := fun (U : World) (hU : Below wr.heap.size wr U) => containsFunc_strs uv l[kk].uses F 37 #[] useBad U (enters_of Tryd.func37 (by kernel_rfl) rfl) (foot_up hFr hU) (hu.up StrR.stays hFr hU)
          (fun W x cs _ _ hx => by obtain ⟨rfl, hs⟩ := hx; exact graph1_any x W hs)
        obtain ⟨U1, u1, rfl, _, _, hul, _⟩ := hu.form
        have hc0 := hcell 0 _ rfl
        have hc1 := hcell 1 _ rfl
        simp only [Nat.add_zero] at hc0
        have hx := List.getElem?_eq_getElem hlt
        generalize l[kk] = x at *
        have HX := Lib.hid hx; have HT := Lib.hid hat
        have hnm := fun W => ident_any x.name W hn
        obtain ⟨z1, hz1⟩ : ∃ z, nameOk x.name = z := ⟨_, rfl⟩
        obtain ⟨z2, hz2⟩ : ∃ z, x.uses.any useBad = z := ⟨_, rfl⟩
        rw [hz1] at hnm; rw [hz2] at hcf
        have Z1 := Lib.hid hz1; have HN := Lib.hid hnm; have Z2 := Lib.hid hz2; have HCF := Lib.hid hcf
        clear hx hcell hat hnm hz1 hu hz2 hcf
        have hwl := hFr _ hb
        clear hFr
        go_wp2_with fail
        have hB := Box.made wr 27 #[.string x.name, .slice U1 x.uses.length u1]
        have hb0 : Below wr.heap.size wr (wr.alloc (.cells #[.string x.name, .slice U1 x.uses.length u1] 27)) := by go_grown
        generalize wr.alloc (.cells #[.string x.name, .slice U1 x.uses.length u1] 27) = W1 at hB hb0 ⊢
        refine (HN.out _).mono ?_
        rintro e w1 ⟨rfl, hb1⟩
        have hB1 := hB.later hb1 hB.lt
        have hb2 := hb0.trans (hb1.mono hb0.size)
        have n0 := hB1.at_ 0 _ rfl
        have n1 := hB1.at_ 1 _ rfl
        have HB1 := Lib.hid hB1
        have HB := Lib.hid hb2
        clear hB hB1 hb0 hb1 hb2 hc0 hc1
        cases z1 with
        | false =>
          go_wp2_with fail
          go_ret
          exact ⟨ret_int (by rw [← HE.out]; exact (nodesErr_hit H10.out hlt Al.out (itemErr_bad HX.out (nodeBad_no (.inl Z1.out)) (by decide)) (by decide)).symm), BW.out.trans (HB.out.mono BW.out.size)⟩
        | true =>
          by_cases h24 : 24 < x.uses.length
          · have h24z : (24 : Int) < (x.uses.length : Int) := by omega
            go_wp2_with fail
            go_ret
            exact ⟨ret_int (by rw [← HE.out]; exact (nodesErr_hit H10.out hlt Al.out (itemErr_bad HX.out (nodeBad_no (.inr (.inl h24))) (by decide)) (by decide)).symm), BW.out.trans (HB.out.mono BW.out.size)⟩
          · have h24z : ¬ (24 : Int) < (x.uses.length : Int) := by omega
            go_wp2_with fail
            refine (HCF.out _ HB.out).mono ?_
            rintro e w2 ⟨rfl, hb3⟩
            have hB2 := HB1.out.later hb3 HB1.out.lt
            have m0 := hB2.at_ 0 _ rfl
            have HB2 := Lib.hid (HB.out.trans (hb3.mono HB.out.size))
            clear hB2 hb3 n0 n1
            cases z2 with
            | true =>
              go_wp2_with fail
              go_ret
              exact ⟨ret_int (by rw [← HE.out]; exact (nodesErr_hit H10.out hlt Al.out (itemErr_bad HX.out (nodeBad_no (.inr (.inr Z2.out))) (by decide)) (by decide)).symm), BW.out.trans (HB2.out.mono BW.out.size)⟩
            | false =>
              have HG := Lib.hid (nodeBad_ok Z1.out (by omega) Z2.out)
              have HBW := Lib.hid (BW.out.trans (HB2.out.mono BW.out.size))
              by_cases h0 : 0 < kk
              · have h0z : (0 : Int) < (kk : Int) := by omega
                obtain ⟨b2, off2, cs2, e2, hb2, _, ⟨pv2, rfl, _⟩, hcell2⟩ := HT.out.at_ (k := kk - 1) (by omega)
                injection e2 with e2
                injection e2 with e2 e3 _
                subst e2; subst e3
                have hd0 := (HB2.out.cell (p := ⟨b1, off + (kk - 1) * 2 + 0, none⟩) hwl).trans (hcell2 0 _ rfl)
                simp only [Nat.add_zero] at hd0
                have hy := List.getElem?_eq_getElem (show kk - 1 < l.length by omega)
                generalize l[kk - 1] = y at *
                have HY := Lib.hid hy
                have HI := Lib.hid (itemErr_next (name := Node.name) (bad := nodeBad) h0 HX.out HY.out HG.out)
                have hi1 : IntKind.i64.wrap ((kk : Int) - 1) = (kk : Int) - 1 := IntWalk.i64_in _ (by omega)
                have hi2 : (0 : Int) ≤ (kk : Int) - 1 := by omega
                have hi3 : ((kk : Int) - 1).toNat = kk - 1 := by omega
                have hi4 : (kk : Int) - 1 < (l.length : Int) := by omega
                clear hcell2 hy
                cases hq : ltS y.name x.name with
                | true =>
                  have HQ := Lib.hid hq
                  have hless : Op.bytesLess y.name.toList x.name.toList = true := hq
                  clear hq
                  go_wp2_with fail
                  go_quiet (fail)
                  go_wp2_with fail
                  go_roundg (l.length - (kk + 1))
                  case measure => omega
                  case rel => exact ⟨kk + 1, by omega, by omega, by go_num, below_drewN HBW.out _, aside (zeros_succ Al.out (by rw [HI.out, HQ.out]; rfl))⟩
                | false =>
                  have HQ := Lib.hid hq
                  have hless : Op.bytesLess y.name.toList x.name.toList = false := hq
                  clear hq
                  go_wp2_with fail
                  go_quiet (fail)
                  go_wp2_with fail
                  go_ret
                  exact ⟨ret_int (by rw [← HE.out]; exact (nodesErr_hit H10.out hlt Al.out (by rw [HI.out, HQ.out]; rfl) (by decide)).symm), below_drewN HBW.out _⟩
              · have h0z : decide ((0 : Int) < (kk : Int)) = false := by simp; omega
                have HI := Lib.hid (show itemErr Node.name nodeBad l kk = 0 by
                  have e : kk = 0 := by omega
                  have h := HX.out
                  rw [e] at h ⊢
                  exact itemErr_first h HG.out)
                go_wp2_with fail
                go_quiet (fail)
                go_wp2_with fail
                go_roundg (l.length - (kk + 1))
                case measure => omega
                case rel => exact ⟨kk + 1, by omega, by omega, by go_num, below_drewN HBW.out _, aside (zeros_succ Al.out HI.out)⟩
      · have hltz : ¬ (kk : Int) < (l.length : Int) := by omega
        obtain rfl : kk = l.length := by omega
        go_wp2_with fail
        go_ret
        exact ⟨ret_int (by rw [← HE.out]; exact (nodesErr_none H10.out Al.out).symm), BW.out⟩

end Go.Proofs.YtafhepilcmimlaaDoor
