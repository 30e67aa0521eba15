/- Which nodes one leads to: graph.reach. -/
import Derived.Test.YtafhepilcmimlaaDoorGraphDirect
import Derived.OwnWalk
import Derived.RegionTactic
import Derived.BigRegion
import Derived.Deep.QuietTactic
import Derived.BigQuiet
import Derived.WalkSmall
namespace Go.Proofs.YtafhepilcmimlaaDoor
open Go.RowKit Go.Shelf

def intV (m : Nat) : Value := .int .i64 m
/-- A row of numbers, as cells. -/
def intsV (ms : List Nat) : Array Value := (ms.map intV).toArray
theorem intsV_set (ms : List Nat) (i m : Nat) : (intsV ms).setIfInBounds i (.int .i64 (m : Nat)) = intsV (ms.set i m) := by
  apply Array.ext'
  simp [intsV, intV, List.map_set]
theorem intsV_at {ms : List Nat} {i m : Nat} (h : ms[i]? = some m) : (intsV ms)[i]? = some (.int .i64 (m : Nat)) := by simp [intsV, intV, h]

/-- What the first loop has done: rows below i are whole, row i up to its use kk. -/
def Rows1 (l : List Node) (i kk : Nat) (ms : List Nat) : Prop :=
  ms.length = l.length ∧ ∀ j x, l[j]? = some x → ms[j]? = some (if j < i then maskOf (placeOf l) x.uses else if j = i then maskOf (placeOf l) (x.uses.take kk) else 0)

section
variable {l : List Node} {i kk k : Nat} {ms : List Nat} {x : Node} {t : ByteArray}
theorem Rows1.start (l : List Node) : Rows1 l 0 0 (List.replicate l.length 0) := by
  refine ⟨by simp, fun j x hx => ?_⟩
  have hj := (List.getElem?_eq_some_iff.1 hx).1
  rw [List.getElem?_replicate_of_lt hj, if_neg (Nat.not_lt_zero _)]
  by_cases e : j = 0
  · rw [if_pos e]; simp [maskOf]
  · rw [if_neg e]
theorem Rows1.next (h : Rows1 l i kk ms) (hx : l[i]? = some x) (hk : kk = x.uses.length) : Rows1 l (i + 1) 0 ms := by
  subst hk
  refine ⟨h.1, fun j y hy => ?_⟩
  rw [h.2 j y hy]
  by_cases e : j = i
  · subst e
    rw [hx] at hy; injection hy with hy; subst hy
    simp
  · by_cases h1 : j < i
    · rw [if_pos h1, if_pos (by omega)]
    · rw [if_neg h1, if_neg e, if_neg (by omega)]
      by_cases e2 : j = i + 1
      · rw [if_pos e2]; simp [maskOf]
      · rw [if_neg e2]
theorem Rows1.skip (h : Rows1 l i kk ms) (hx : l[i]? = some x) (ht : x.uses[kk]? = some t) (hp : placeOf l t = none) : Rows1 l i (kk + 1) ms := by
  refine ⟨h.1, fun j y hy => ?_⟩
  rw [h.2 j y hy]
  by_cases e : j = i
  · subst e
    rw [hx] at hy; injection hy with hy; subst hy
    rw [List.take_add_one, ht, Option.toList_some, maskOf_snoc, hp]
  · simp [e]
theorem Rows1.add (h : Rows1 l i kk ms) (hx : l[i]? = some x) (ht : x.uses[kk]? = some t) (hp : placeOf l t = some k) (m : Nat) (hm : ms[i]? = some m) : Rows1 l i (kk + 1) (ms.set i (m ||| 2 ^ k)) := by
  have hi := (List.getElem?_eq_some_iff.1 hm).1
  refine ⟨by simp [h.1], fun j y hy => ?_⟩
  by_cases e : j = i
  · subst e
    rw [hx] at hy; injection hy with hy; subst hy
    have h2 := h.2 j x hx
    rw [hm, if_neg (Nat.lt_irrefl _), if_pos rfl] at h2
    injection h2 with h2
    rw [List.getElem?_set_self hi, if_neg (Nat.lt_irrefl _), if_pos rfl, List.take_add_one, ht, Option.toList_some, maskOf_snoc, hp, h2]
  · rw [List.getElem?_set_ne (by omega), h.2 j y hy]
    simp [e]
theorem Rows1.here (h : Rows1 l i kk ms) (hx : l[i]? = some x) : ms[i]? = some (maskOf (placeOf l) (x.uses.take kk)) := by
  rw [h.2 i x hx, if_neg (Nat.lt_irrefl _), if_pos rfl]
theorem Rows1.masks (hR : Rising Node.name l) (h10 : l.length ≤ 10) (h : Rows1 l i 0 ms) (hi : i = l.length) : Masks (usesN l) l.length 0 0 ms := by
  subst hi
  refine Masks.start h.1 (fun j m hj => ?_)
  have hjl : j < l.length := by have := (List.getElem?_eq_some_iff.1 hj).1; have := h.1; omega
  have hy := List.getElem?_eq_getElem hjl
  have h2 := h.2 j _ hy
  rw [hj, if_pos hjl] at h2
  injection h2 with h2
  subst h2
  refine ⟨maskOf_small _ (fun s k hs => by have := placeOf_lt hs; omega) _, fun t => ?_⟩
  rw [uses_mask hR hy]
end

theorem bits_and_nat (a b : Nat) (ha : a < 9223372036854775808) (hb : b < 9223372036854775808) : bits BinOp.and IntKind.i64 (a : Int) (b : Int) = ((a &&& b : Nat) : Int) := by
  have h1 : (BitVec.ofInt 64 (a : Int)).toNat = a := by rw [BitVec.toNat_ofInt]; omega
  have h2 : (BitVec.ofInt 64 (b : Int)).toNat = b := by rw [BitVec.toNat_ofInt]; omega
  have h3 : a &&& b ≤ a := Nat.and_le_left
  show IntKind.i64.wrap (((BitVec.ofInt 64 (a : Int)) &&& (BitVec.ofInt 64 (b : Int))).toNat : Int) = _
  rw [BitVec.toNat_and, h1, h2]
  exact IntWalk.i64_in _ (by omega)
theorem bit_test (m k : Nat) (hm : m < 1024) : (bits BinOp.and IntKind.i64 ((m : Int) / 2 ^ k) 1 == 1) = m.testBit k := by
  have hc : (m : Int) / 2 ^ k = ((m / 2 ^ k : Nat) : Int) := by simp
  have hle : m / 2 ^ k ≤ m := Nat.div_le_self _ _
  have h1 : (1 : Int) = ((1 : Nat) : Int) := rfl
  rw [hc, Nat.testBit_eq_decide_div_mod_eq]
  conv => lhs; rw [h1]
  rw [bits_and_nat _ _ (by omega) (by omega), Nat.and_one_is_mod]
  have h2 : m / 2 ^ k % 2 < 2 := Nat.mod_lt _ (by decide)
  generalize m / 2 ^ k % 2 = z at *
  rw [Bool.eq_iff_iff, beq_iff_eq, decide_eq_true_eq]
  omega

/-- What graph.reach leaves. -/
def Reached (l : List Node) (w : World) (e : Ending) (w' : World) : Prop := ∃ (nb : Nat) (ms : List Nat), e = .returned (.slice (some ⟨nb, 0, none⟩) l.length l.length) ∧ Below w.heap.size w w' ∧ Box w' nb 3 (intsV ms) ∧ Masks (usesN l) l.length l.length 0 ms

theorem made_box {W : World} {base B n : Nat} {e : TypeId} (h : W.ownsRow base e 1 (.slice (some ⟨B, 0, none⟩) n n) n (madeCells (Value.int .i64 0).cells (n * 1)).toList) : Box W B e (intsV (List.replicate n 0)) := by
  have h2 := h.2
  rcases h2 with ⟨h3, _⟩ | ⟨g, cap, cur, hv, _, hcell, _, _, hs, ht⟩
  · cases h3
  · injection hv with e1 e2 e3
    injection e1 with e1
    injection e1 with e1
    subst e1; subst e3
    rw [List.take_of_length_le (by rw [Array.length_toList, hs]; exact Nat.le_refl _)] at ht
    unfold Box
    rw [hcell]
    congr 2
    apply Array.ext'
    rw [ht]
    apply List.ext_getElem?
    intro j
    by_cases hj : j < n
    · simp [madeCells, intsV, intV, hj, Value.cells, Nat.mod_one]
    · simp [madeCells, intsV, intV, hj]

set_option maxRecDepth 100000 in
set_option maxHeartbeats 8000000 in
theorem reach_any (l : List Node) (lv : Value) (w : World) (h0 : nodesErr l = 0) (hl : SliceOf NodeR 2 40 w (old w.heap.size) lv l) :
    Calls Tryd.prog 19 #[lv] w (Reached l w) := by
  obtain ⟨B, d, rfl, _, _, hll, _⟩ := hl.form
  obtain ⟨h10, hR, _⟩ := nodes_rising h0
  have hfd := fun t U (hU : Below w.heap.size w U) => find_any _ l t (old U.heap.size) U old_lt (now_lup NodeR.stays hl hU) hR
  have hpl := fun t k (h : placeOf l t = some k) => placeOf_lt (l := l) (t := t) h
  obtain ⟨i0, hi, hz0, hz1, hz2⟩ := info_parts (show (Tryd.prog.info? 3).map (fun i => (i.zero, i.size, i.bytes)) = some (some (.int .i64 0 : Value), 1, 8) by kernel_rfl)
  have HL := Lib.hid hl; have HFD := Lib.hid hfd; have HPL := Lib.hid hpl; have HR := Lib.hid hR
  clear hl hfd hpl hR
  go_enter Tryd.func19, Tryd.ntmps19
  go_wp2_with (at_make; refine wpList_make_full _ rfl _ _ 48 rfl w.heap.size 3 i0 (.int .i64 0) 1 Tryd.underlying48 hi hz0 hz1 .i64 .i64 l.length l.length l.length rfl rfl rfl rfl (by rw [hz2]; omega) (by unfold maxLen; omega) (Nat.le_refl _) ?_; intro W1 hown1 hgr1)
  have hB1 := made_box hown1
  have hb1 : Below w.heap.size w W1 := Below.grown (Below.refl _ _) hgr1 (by simp) (fun j hj => by cases hj)
  have HB1 := Lib.hid hB1; have Hb1 := Lib.hid hb1
  clear hB1 hb1
  clear hown1 hgr1 hi hz0 hz1 hz2
  go_wp2_with fail
  go_loopg [4, 5, 7, 8, 16, 22, 23, 24] l.length (fun gg _ _ _ _ s16 _ _ _ wr => ∃ (i : Nat) (ms : List Nat), i ≤ l.length ∧ l.length - i ≤ gg ∧ s16 = .int .i64 i ∧ Aside (Rows1 l i 0 ms) ∧ Aside (Box wr w.heap.size 3 (intsV ms)) ∧ Aside (Below w.heap.size w wr))
  case atStart => exact ⟨0, _, Nat.zero_le _, by omega, rfl, aside (Rows1.start l), aside HB1.out, aside Hb1.out⟩
  case round =>
    obtain ⟨i, ms, hile, hg, rfl, hR1, hBx, BW⟩ := hrel
    obtain ⟨wo, rfl⟩ : ∃ W, W = wr := ⟨_, rfl⟩
    by_cases hlt : i < l.length
    · have hltz : (i : Int) < (l.length : Int) := by omega
      obtain ⟨b1, off, cs, hB, hbF, hcs, hr, hcell⟩ := (HL.out.stays NodeR.stays (fun _ h => h) (Keeps.of_below BW.out fun _ h => h)).at_ hlt
      have hx := List.getElem?_eq_getElem hlt
      generalize l[i] = x at hx hr
      obtain ⟨A, c, rfl, _, hu⟩ := NodeR.form hr
      obtain ⟨_, _, _, _, _, hul, _⟩ := hu.form
      have hc0 := hcell 0 _ rfl
      have hc1 := hcell 1 _ rfl
      simp only [Nat.add_zero] at hc0
      subst hB
      have hq : b1 < wo.heap.size := Nat.lt_of_lt_of_le hbF BW.out.size
      have HX := Lib.hid hx; have HU := Lib.hid hu
      clear hx hu
      clear hcell hr hcs hbF
      go_upto_region 5 with fail
      have hBn := Box.made wo 27 #[.string x.name, .slice A x.uses.length c]
      have hbn : Below wo.heap.size wo (wo.alloc (.cells #[.string x.name, .slice A x.uses.length c] 27)) := by go_grown
      have hzn : (wo.alloc (.cells #[.string x.name, .slice A x.uses.length c] 27)).heap.size = wo.heap.size + 1 := by simp
      generalize wo.alloc (.cells #[.string x.name, .slice A x.uses.length c] 27) = W2 at hBn hbn hzn ⊢
      have hB2 := hBx.out.later hbn hBx.out.lt
      have hb2 := BW.out.trans (hbn.mono BW.out.size)
      have hu2 : ∀ U, Below w.heap.size w U → SliceOf StrR 1 16 U (old w.heap.size) (.slice A x.uses.length c) x.uses := fun U hU => HU.out.stays StrR.stays (fun _ h => h) (fun p hp => (hU.cell hp).trans (BW.out.cell hp).symm)
      have x1 := hBn.at_ 1 _ rfl
      have HB2 := Lib.hid hB2; have Hb2 := Lib.hid hb2; have HU2 := Lib.hid hu2; have HR1 := Lib.hid hR1
      clear hB2 hb2 hu2 hR1
      clear hzn hBn hBx hbn hc0 hc1 BW
      go_wp2_with fail
      go_loopg [7, 8, 24] x.uses.length (fun gg _ _ s24 wr => ∃ (kk : Nat) (ms : List Nat), kk ≤ x.uses.length ∧ x.uses.length - kk ≤ gg ∧ s24 = .int .i64 kk ∧ Aside (Rows1 l i kk ms) ∧ Aside (Box wr w.heap.size 3 (intsV ms)) ∧ Aside (Below w.heap.size w wr))
      case atStart => exact ⟨0, ms, Nat.zero_le _, by omega, rfl, aside HR1.out.out, aside HB2.out, aside Hb2.out⟩
      case round =>
        obtain ⟨kk, ms, hkk, hg2, rfl, hR2, hBx, BW⟩ := hrel
        obtain ⟨W3, rfl⟩ : ∃ W, W = wr := ⟨_, rfl⟩
        by_cases hlt2 : kk < x.uses.length
        · have hltz2 : (kk : Int) < (x.uses.length : Int) := by omega
          obtain ⟨b2, off2, cs, rfl, hbF, hcs, ⟨rfl, _⟩, hcell⟩ := (HU2.out _ BW.out).at_ hlt2
          have hc0 := hcell 0 _ rfl
          simp only [Nat.mul_one, Nat.add_zero] at hc0
          have ht := List.getElem?_eq_getElem hlt2
          generalize x.uses[kk] = t at *
          have hcl := HFD.out t W3 BW.out
          have hpl := HPL.out t
          unfold placeI at hcl
          have HT := Lib.hid ht; have HCL := Lib.hid hcl
          clear ht hcl
          clear hcell hcs hbF
          go_wp2_with fail
          refine HCL.out.mono ?_
          rintro e W4 ⟨rfl, hb4⟩
          have hB4 := hBx.out.later hb4 hBx.out.lt
          have hbw := BW.out.trans (hb4.mono BW.out.size)
          cases hp : placeOf l t with
          | none =>
            have hR4 := hR2.out.skip HX.out HT.out hp
            have HR4 := Lib.hid hR4; have HB4 := Lib.hid hB4; have HBW4 := Lib.hid hbw
            clear hR4 hB4 hbw
            clear hb4 hpl HCL hp
            go_wp2_with fail
            go_roundg (x.uses.length - (kk + 1))
            case measure => omega
            case rel => exact ⟨kk + 1, ms, by omega, by omega, by go_num, aside HR4.out, aside HB4.out, aside HBW4.out⟩
          | some k =>
            have hk := hpl k hp
            have hk10 : k < 10 := by omega
            have hmi := hR2.out.here HX.out
            have hR4 := hR2.out.add HX.out HT.out hp _ hmi
            have ha := maskOf_small (placeOf l) (fun s k hs => by have := HPL.out s k hs; omega) (x.uses.take kk)
            have hbi := hB4.at_ i _ (intsV_at hmi)
            have hbf := hB4.free i
            generalize maskOf (placeOf l) (x.uses.take kk) = a at *
            have hor := or_pow a k ha hk10
            have hkz : decide ((k : Int) ≥ 0) = true := decide_eq_true (by omega)
            have HR4 := Lib.hid hR4; have HB4 := Lib.hid hB4; have HBW4 := Lib.hid hbw
            clear hR4 hB4 hbw
            clear hb4 hpl HCL hp hmi
            go_wp2_with fail
            go_region
            go_wp2_with fail
            go_roundg (x.uses.length - (kk + 1))
            case measure => omega
            case rel => exact ⟨kk + 1, ms.set i (a ||| 2 ^ k), by omega, by omega, by go_num, aside HR4.out, aside (by rw [← intsV_set]; exact HB4.out.put i _), aside (HBW4.out.setCell (p := ⟨w.heap.size, i, none⟩) (Nat.le_refl _) _).drew⟩
        · have hltz2 : ¬ (kk : Int) < (x.uses.length : Int) := by omega
          have hR4 := hR2.out.next HX.out (by omega)
          have HR4 := Lib.hid hR4
          clear hR4
          clear hR2
          go_wp2_with fail
          go_roundg (l.length - (i + 1))
          case measure => omega
          case rel => exact ⟨i + 1, ms, by omega, by omega, by go_num, aside HR4.out, aside hBx.out, aside BW.out⟩
    · have hltz : ¬ (i : Int) < (l.length : Int) := by omega
      obtain rfl : i = l.length := by omega
      have hM := hR1.out.masks HR.out h10 rfl
      have hM := Lib.hid hM
      clear hR1
      go_wp2_with fail
      go_loopg [9, 10, 45, 48, 49, 50] l.length (fun gg _ _ s45 _ _ _ wr => ∃ (k : Nat) (ms : List Nat), k ≤ l.length ∧ l.length - k ≤ gg ∧ s45 = .int .i64 k ∧ Aside (Masks (usesN l) l.length k 0 ms) ∧ Aside (Box wr w.heap.size 3 (intsV ms)) ∧ Aside (Below w.heap.size w wr))
      case atStart => exact ⟨0, ms, Nat.zero_le _, by omega, rfl, aside hM.out, aside hBx.out, aside BW.out⟩
      case round =>
        obtain ⟨k, ms, hkl, hg2, rfl, hM2, hBx, BW⟩ := hrel
        obtain ⟨wo, rfl⟩ : ∃ W, W = wr := ⟨_, rfl⟩
        by_cases hlt : k < l.length
        · have hltz : (k : Int) < (l.length : Int) := by omega
          go_wp2_with fail
          go_loopg [10, 50] l.length (fun gg _ s50 wr => ∃ (c : Nat) (ms : List Nat), c ≤ l.length ∧ l.length - c ≤ gg ∧ s50 = .int .i64 c ∧ Aside (Masks (usesN l) l.length k c ms) ∧ Aside (Box wr w.heap.size 3 (intsV ms)) ∧ Aside (Below w.heap.size w wr))
          case atStart => exact ⟨0, ms, Nat.zero_le _, by omega, rfl, aside hM2.out, aside hBx.out, aside BW.out⟩
          case round =>
            obtain ⟨c, ms, hcl, hg3, rfl, hM3, hBx, BW⟩ := hrel
            obtain ⟨W3, rfl⟩ : ∃ W, W = wr := ⟨_, rfl⟩
            by_cases hlt3 : c < l.length
            · have hltz3 : (c : Int) < (l.length : Int) := by omega
              have hlen := hM3.out.1
              obtain ⟨m, hm⟩ : ∃ m, ms[c]? = some m := ⟨_, List.getElem?_eq_getElem (by omega)⟩
              obtain ⟨r, hr⟩ : ∃ r, ms[k]? = some r := ⟨_, List.getElem?_eq_getElem (by omega)⟩
              have hms := (hM3.out.2 c m hm).1
              have hrs := (hM3.out.2 k r hr).1
              have hbi := hBx.out.at_ c _ (intsV_at hm)
              have hbk := hBx.out.at_ k _ (intsV_at hr)
              have hbf := hBx.out.free c
              have hk10 : k < 10 := by omega
              have hM4 := fun h => hM3.out.join hm hr h
              have hM5 := fun h => hM3.out.skip hm h
              have HM4 := Lib.hid hM4; have HM5 := Lib.hid hM5; have HM := Lib.hid hm; have HR2 := Lib.hid hr; have HLEN := Lib.hid hlen
              clear hM4 hM5 hm hr hlen
              clear hM3
              have hbt := bit_test m k hms
              have hor := bits_or_nat m r (by omega) (by omega)
              cases hq : m.testBit k with
              | true =>
                rw [hq] at hbt
                have hM6 := HM4.out hq
                have HM6 := Lib.hid hM6
                clear hM6
                clear HM4 HM5 hq
                go_wp2_with fail
                go_region
                go_wp2_with fail
                go_roundg (l.length - (c + 1))
                case measure => omega
                case rel => exact ⟨c + 1, ms.set c (m ||| r), by omega, by omega, by go_num, aside HM6.out, aside (by rw [← intsV_set]; exact hBx.out.put c _), aside (BW.out.setCell (p := ⟨w.heap.size, c, none⟩) (Nat.le_refl _) _).drew⟩
              | false =>
                rw [hq] at hbt
                have hM6 := HM5.out hq
                have HM6 := Lib.hid hM6
                clear hM6
                clear HM4 HM5 hq hor
                go_wp2_with fail
                go_roundg (l.length - (c + 1))
                case measure => omega
                case rel => exact ⟨c + 1, ms, by omega, by omega, by go_num, aside HM6.out, aside hBx.out, aside BW.out⟩
            · have hltz3 : ¬ (c : Int) < (l.length : Int) := by omega
              obtain rfl : c = l.length := by omega
              have hM4 := hM3.out.row
              have HM4 := Lib.hid hM4
              clear hM4
              clear hM3
              go_wp2_with fail
              go_roundg (l.length - (k + 1))
              case measure => omega
              case rel => exact ⟨k + 1, ms, by omega, by omega, by go_num, aside HM4.out, aside hBx.out, aside BW.out⟩
        · have hltz : ¬ (k : Int) < (l.length : Int) := by omega
          obtain rfl : k = l.length := by omega
          go_wp2_with fail
          go_ret
          exact ⟨_, ms, rfl, BW.out, hBx.out, hM2.out⟩

end Go.Proofs.YtafhepilcmimlaaDoor
