/- Which nodes one uses itself: graph.direct. -/
import Derived.Test.YtafhepilcmimlaaDoorGraphPlain2
import Derived.Test.YtafhepilcmimlaaDoorGraphFind
import Derived.Test.YtafhepilcmimlaaDoorBase
import Derived.Handy
namespace Go.Proofs.YtafhepilcmimlaaDoor
open Go.RowKit Go.Shelf

theorem NodeR.form {w : World} {F : Foot} {cs : List Value} {x : Node} (h : NodeR w F cs x) : ∃ A c, cs = [.string x.name, .slice A x.uses.length c] ∧ okS x.name ∧ SliceOf StrR 1 16 w F (.slice A x.uses.length c) x.uses := by
  obtain ⟨uv, rfl, h1, h2⟩ := h
  obtain ⟨A, c, rfl, _⟩ := h2.form
  exact ⟨A, c, rfl, h1, h2⟩

theorem bits_or_nat (a b : Nat) (ha : a < 9223372036854775808) (hb : b < 9223372036854775808) : bits BinOp.or IntKind.i64 (a : Int) (b : Int) = ((a ||| b : Nat) : Int) := by
  have h1 : (BitVec.ofInt 64 (a : Int)).toNat = a := by rw [BitVec.toNat_ofInt]; omega
  have h2 : (BitVec.ofInt 64 (b : Int)).toNat = b := by rw [BitVec.toNat_ofInt]; omega
  have h3 : a ||| b < 2 ^ 63 := Nat.or_lt_two_pow (by simpa using ha) (by simpa using hb)
  show IntKind.i64.wrap (((BitVec.ofInt 64 (a : Int)) ||| (BitVec.ofInt 64 (b : Int))).toNat : Int) = _
  rw [BitVec.toNat_or, h1, h2]
  exact IntWalk.i64_in _ (by omega)
theorem or_pow (a k : Nat) (ha : a < 1024) (hk : k < 10) : bits BinOp.or IntKind.i64 (a : Int) (wrap64 (2 ^ k)) = ((a ||| 2 ^ k : Nat) : Int) := by
  have h := pow_small hk
  have hc : (2 : Int) ^ k = ((2 ^ k : Nat) : Int) := by simp
  rw [hc]
  generalize 2 ^ k = p at *
  rw [IntWalk.wrap64_in (p : Int) (by omega)]
  exact bits_or_nat a p (by omega) (by omega)

set_option maxRecDepth 100000 in
set_option maxHeartbeats 4000000 in
theorem direct_any (l : List Node) (x : Node) (lv : Value) (cs : List Value) (w : World) (h0 : nodesErr l = 0) (hl : SliceOf NodeR 2 40 w (old w.heap.size) lv l) (hx : NodeR w (old w.heap.size) cs x) :
    Calls Tryd.prog 20 #[lv, .agg cs.toArray] w fun e w' => e = .returned (.int .i64 (maskOf (placeOf l) x.uses : Nat)) ∧ Below w.heap.size w w' := by
  obtain ⟨A, c, rfl, _, hu⟩ := NodeR.form hx
  obtain ⟨B, d, rfl, _⟩ := hl.form
  obtain ⟨h10, hR, _⟩ := nodes_rising h0
  obtain ⟨_, _, _, _, _, hul, _⟩ := hu.form
  have hfd := fun t U (hU : Below w.heap.size w U) => find_any _ l t (old U.heap.size) U old_lt (now_lup NodeR.stays hl hU) hR
  have hpl := fun t k (h : placeOf l t = some k) => placeOf_lt (l := l) (t := t) h
  have HU := Lib.hid hu; have HFD := Lib.hid hfd; have HPL := Lib.hid hpl
  clear hu hfd hpl
  clear hx hl
  go_enter Tryd.func20, Tryd.ntmps20
  go_upto_region 1 with fail
  have hBx := Box.made w 27 #[.string x.name, .slice A x.uses.length c]
  have hbx : Below w.heap.size w (w.alloc (.cells #[.string x.name, .slice A x.uses.length c] 27)) := by go_grown
  have hzx : (w.alloc (.cells #[.string x.name, .slice A x.uses.length c] 27)).heap.size = w.heap.size + 1 := by simp
  generalize w.alloc (.cells #[.string x.name, .slice A x.uses.length c] 27) = W1 at hBx hbx hzx ⊢
  have x1 := hBx.at_ 1 _ rfl
  have HB := Lib.hid hbx
  clear hbx
  clear hzx hBx
  go_wp2_with fail
  go_loopg [5, 7, 8, 12] x.uses.length (fun gg s5 _ _ s12 wr => ∃ (kk a : Nat), kk ≤ x.uses.length ∧ x.uses.length - kk ≤ gg ∧ s12 = .int .i64 kk ∧ s5 = .int .i64 a ∧ a < 1024 ∧ Aside (a = maskOf (placeOf l) (x.uses.take kk)) ∧ Aside (Below W1.heap.size W1 wr))
  case atStart => exact ⟨0, 0, Nat.zero_le _, by omega, rfl, rfl, by decide, aside rfl, aside (Below.refl _ _)⟩
  case round =>
    obtain ⟨kk, a, hkk, hg, rfl, rfl, ha, hA, BW⟩ := hrel
    have hbw := HB.out.trans (BW.out.mono HB.out.size)
    by_cases hlt : kk < x.uses.length
    · have hltz : (kk : Int) < (x.uses.length : Int) := by omega
      obtain ⟨b1, off, cs, rfl, hbF, hcs, ⟨rfl, _⟩, hcell⟩ := (now_lup StrR.stays HU.out hbw).at_ hlt
      have hc0 := hcell 0 _ rfl
      simp only [Nat.mul_one, Nat.add_zero] at hc0
      have hx1 := List.getElem?_eq_getElem hlt
      generalize x.uses[kk] = t at *
      have hcl := HFD.out t wr hbw
      have hma : maskOf (placeOf l) (x.uses.take (kk + 1)) = match placeOf l t with | some k => a ||| 2 ^ k | none => a := by
        have h := hA.out
        rw [List.take_add_one, hx1, Option.toList_some, maskOf_snoc, ← h]
        cases placeOf l t <;> rfl
      have hpl := HPL.out t
      unfold placeI at hcl
      have HMA := Lib.hid hma; have HCL := Lib.hid hcl; have HBW := Lib.hid hbw
      clear hma hcl hbw
      clear hcell hcs hbF hx1
      go_wp2_with fail
      refine HCL.out.mono ?_
      rintro e W2 ⟨rfl, hb2⟩
      have hb2' := BW.out.trans (hb2.mono BW.out.size)
      cases hp : placeOf l t with
      | none =>
        have hma := HMA.out
        rw [hp] at hma
        have HM2 := Lib.hid hma; have HB2 := Lib.hid hb2'
        clear hma hb2'
        clear hb2 hpl HMA HCL
        go_wp2_with fail
        go_roundg (x.uses.length - (kk + 1))
        case measure => omega
        case rel => exact ⟨kk + 1, a, by omega, by omega, by go_num, rfl, ha, aside HM2.out.symm, aside HB2.out⟩
      | some k =>
        have hma := HMA.out
        rw [hp] at hma
        have hk := hpl k hp
        have hk10 : k < 10 := by omega
        have HM2 := Lib.hid hma; have HB2 := Lib.hid hb2'
        clear hma hb2'
        clear hb2 hpl HMA HCL hp
        have hor := or_pow a k ha hk10
        have hsm := or_small ha (pow_small hk10)
        have hkz : decide ((k : Int) ≥ 0) = true := decide_eq_true (by omega)
        go_wp2_with fail
        go_roundg (x.uses.length - (kk + 1))
        case measure => omega
        case rel => exact ⟨kk + 1, a ||| 2 ^ k, by omega, by omega, by go_num, rfl, hsm, aside HM2.out.symm, aside HB2.out⟩
    · have hltz : ¬ (kk : Int) < (x.uses.length : Int) := by omega
      obtain rfl : kk = x.uses.length := by omega
      have hA2 : a = maskOf (placeOf l) x.uses := by have h := hA.out; rw [List.take_length] at h; exact h
      have HA2 := Lib.hid hA2; have HBW := Lib.hid hbw
      clear hA2 hbw
      clear hA
      go_wp2_with fail
      go_ret
      exact ⟨ret_int (by rw [HA2.out]), HBW.out⟩

end Go.Proofs.YtafhepilcmimlaaDoor
