/- In what order nodes are looked at: graph.Order. -/
import Derived.Test.YtafhepilcmimlaaDoorGraphReach
import Derived.Test.YtafhepilcmimlaaDoorStrs
import Derived.Test.YtafhepilcmimlaaDoorClone
namespace Go.Proofs.YtafhepilcmimlaaDoor
open Go.RowKit Go.Shelf

theorem lsb_nat (a i : Nat) : (BitVec.ofInt 64 (a : Int)).getLsbD i = (decide (i < 64) && a.testBit i) := by
  rw [BitVec.ofInt_natCast, BitVec.getLsbD_ofNat]
theorem testBit_big {a i : Nat} (ha : a < 1024) (hi : 10 ≤ i) : a.testBit i = false := by
  refine Nat.testBit_lt_two_pow (Nat.lt_of_lt_of_le ha ?_)
  exact Nat.pow_le_pow_right (n := 2) (by decide) hi
theorem andnot_test (a d n : Nat) (ha : a < 1024) (_hd : d < 1024) (hA : ∀ j, a.testBit j = true → j < n) : (bits BinOp.andNot IntKind.i64 (a : Int) (d : Int) != 0) = !((List.range n).all fun k => !(a.testBit k && !(d.testBit k))) := by
  have hv : bits BinOp.andNot IntKind.i64 (a : Int) (d : Int) = (((BitVec.ofInt 64 (a : Int)) &&& ~~~(BitVec.ofInt 64 (d : Int))).toNat : Int) := by
    show IntKind.i64.wrap (((BitVec.ofInt 64 (a : Int)) &&& ~~~(BitVec.ofInt 64 (d : Int))).toNat : Int) = _
    refine IntWalk.i64_in _ ?_
    have h1 : (BitVec.ofInt 64 (a : Int)).toNat = a := by rw [BitVec.toNat_ofInt]; omega
    have h2 : ((BitVec.ofInt 64 (a : Int)) &&& ~~~(BitVec.ofInt 64 (d : Int))).toNat ≤ a := by
      rw [BitVec.toNat_and, h1]; exact Nat.and_le_left
    omega
  rw [hv]
  generalize hx : (BitVec.ofInt 64 (a : Int)) &&& ~~~(BitVec.ofInt 64 (d : Int)) = x
  have hb : ∀ i, x.getLsbD i = (a.testBit i && !(d.testBit i)) := by
    intro i
    rw [← hx, BitVec.getLsbD_and, BitVec.getLsbD_not, lsb_nat, lsb_nat]
    by_cases h : i < 64
    · simp [h]
    · rw [testBit_big ha (by omega)]; simp
  have h0 : (((x.toNat : Int)) != 0) = !(decide (x = 0#64)) := by
    rw [Bool.eq_iff_iff]
    simp [BitVec.toNat_eq]
  rw [h0]
  congr 1
  rw [Bool.eq_iff_iff, decide_eq_true_eq, List.all_eq_true]
  constructor
  · intro h k _
    have := hb k
    rw [h] at this
    rw [← this]; simp
  · intro h
    apply BitVec.eq_of_getLsbD_eq
    intro i _
    rw [hb i]
    cases ht : a.testBit i with
    | false => simp
    | true =>
      have := h i (List.mem_range.2 (hA i ht))
      rw [ht] at this
      simpa using this

/-- What is done behind the first loop's round kk. -/
def DoneTo (l : List Node) (kk d : Nat) : Prop := d < 1024 ∧ ∀ i, d.testBit i = (decide (i < kk) && inRound l i)
section
variable {l : List Node} {kk d : Nat}
theorem DoneTo.start (l : List Node) : DoneTo l 0 0 := ⟨by decide, fun i => by simp⟩
theorem DoneTo.yes (h : DoneTo l kk d) (hk : kk < 10) (hr : inRound l kk = true) : DoneTo l (kk + 1) (d ||| 2 ^ kk) := by
  refine ⟨or_small h.1 (pow_small hk), fun i => ?_⟩
  rw [Nat.testBit_or, Nat.testBit_two_pow, h.2 i]
  by_cases e : kk = i
  · subst e; simp [hr]
  · have : (i < kk + 1) = (i < kk) := propext ⟨fun h => by omega, fun h => by omega⟩
    simp [e, this]
theorem DoneTo.no (h : DoneTo l kk d) (hr : inRound l kk = false) : DoneTo l (kk + 1) d := by
  refine ⟨h.1, fun i => ?_⟩
  rw [h.2 i]
  by_cases e : i = kk
  · subst e; simp [hr]
  · have : (i < kk + 1) = (i < kk) := propext ⟨fun h => by omega, fun h => by omega⟩
    simp [this]
theorem DoneTo.done (h : DoneTo l l.length d) : Done (inRound l) l.length [] d := ⟨h.1, fun i => by rw [h.2 i]; simp⟩
end

theorem mask_round {l : List Node} (h10 : l.length ≤ 10) {ms : List Nat} (hM : Masks (usesN l) l.length l.length 0 ms) {i m : Nat} (hi : i < l.length) (hm : ms[i]? = some m) : m.testBit i = inRound l i := by
  have h := (hM.2 i m hm).2 i
  rw [if_neg (Nat.not_lt_zero _)] at h
  rw [Bool.eq_iff_iff, h, round_via h10 hi]

theorem seenB {p : Nat → Bool} {i : Nat} (h : p i = false) (hb : ∀ j, j < i → p j = false) : ∀ j, j < i + 1 → p j = false := by
  intro j hj
  by_cases e : j = i
  · rw [e]; exact h
  · exact hb j (by omega)

/-- What graph.Order leaves. -/
def Ordered (l : List Node) (w : World) (e : Ending) (w' : World) : Prop := ∃ v1 v2 : Value, e = .returned (.tuple #[v1, v2, .int .i64 (nodesErr l)]) ∧ Below w.heap.size w w' ∧
  SliceOf StrR 1 16 w' (fresh w.heap.size w'.heap.size) v1 (if nodesErr l = 0 then orderOf l else []) ∧ SliceOf StrR 1 16 w' (fresh w.heap.size w'.heap.size) v2 (if nodesErr l = 0 then roundsOf l else [])

set_option maxRecDepth 100000 in
set_option maxHeartbeats 8000000 in
theorem order_any (l : List Node) (lv : Value) (w : World) (hl : SliceOf NodeR 2 40 w (old w.heap.size) lv l) :
    Calls Tryd.prog 8 #[lv] w (Ordered l w) := by
  obtain ⟨B, d, rfl, _, _, hll, _⟩ := hl.form
  have hck := graphCheck_any _ l (old w.heap.size) w old_lt hl
  have hrc := fun h0 U (hU : Below w.heap.size w U) => reach_any l _ U h0 (now_lup NodeR.stays hl hU)
  obtain ⟨z, hz⟩ : ∃ z, nodesErr l = z := ⟨_, rfl⟩
  rw [hz] at hck
  unfold Ordered
  rw [hz]
  have HL := Lib.hid hl; have HCK := Lib.hid hck; have HRC := Lib.hid hrc; have HZ := Lib.hid hz
  clear hl hck hrc hz
  go_enter Tryd.func8, Tryd.ntmps8
  go_wp2_with fail
  refine HCK.out.mono ?_
  rintro e W1 ⟨rfl, hb1⟩
  by_cases hz0 : z = 0
  · subst hz0
    have hrc := HRC.out HZ.out W1 hb1
    obtain ⟨h10, hR, _⟩ := nodes_rising HZ.out
    have HRC1 := Lib.hid hrc; have HB1 := Lib.hid hb1; have HR := Lib.hid hR
    clear hrc hb1 hR
    clear HCK HRC
    go_wp2_with fail
    refine HRC1.out.mono ?_
    rintro e W2 ⟨nb, ms, rfl, hb2, hBx, hM⟩
    have hbw := HB1.out.trans (hb2.mono HB1.out.size)
    have hlt := hBx.lt
    have HBW := Lib.hid hbw; have HBx := Lib.hid hBx; have HM := Lib.hid hM; have HLT := Lib.hid hlt
    clear hbw hBx hM hlt
    clear HRC1 hb2
    go_wp2_with fail
    go_loopg [8, 9, 10, 11, 23] l.length (fun gg s8 s9 _ _ s23 wr => ∃ (kk d n c : Nat) (A : Option Addr), kk ≤ l.length ∧ l.length - kk ≤ gg ∧ s23 = .int .i64 kk ∧ s9 = .int .i64 d ∧ s8 = .slice A n c ∧ d < 1024 ∧ Aside (n = (roundsTo l kk).length) ∧ Aside (DoneTo l kk d) ∧
      Aside (Owns StrR 1 9 W2.heap.size wr none_ (.slice A n c) (roundsTo l kk)) ∧ Aside (Below W2.heap.size W2 wr))
    case atStart => exact ⟨0, 0, 0, 0, none, Nat.zero_le _, by omega, rfl, rfl, rfl, by decide, aside rfl, aside (DoneTo.start l), aside Owns.nil_, aside (Below.refl _ _)⟩
    case round =>
      obtain ⟨kk, d2, n, c, A, hkk, hg, rfl, rfl, rfl, hd, hn, hD, hO, BW⟩ := hrel
      have hbw := HBW.out.trans (BW.out.mono HBW.out.size)
      have hB2 := HBx.out.later BW.out HLT.out
      have hlen := HM.out.1
      by_cases hlt : kk < l.length
      · have hltz : (kk : Int) < (l.length : Int) := by omega
        obtain ⟨b1, off, cs, hB, hbF, hcs, hr, hcell⟩ := (now_lup NodeR.stays HL.out hbw).at_ hlt
        have hx := List.getElem?_eq_getElem hlt
        generalize l[kk] = x at hx hr
        obtain ⟨A2, c2, rfl, hox, hu⟩ := NodeR.form hr
        have hc0 := hcell 0 _ rfl
        have hc1 := hcell 1 _ rfl
        simp only [Nat.add_zero] at hc0
        subst hB
        have hq : b1 < wr.heap.size := hbF
        obtain ⟨m, hm⟩ : ∃ m, ms[kk]? = some m := ⟨_, List.getElem?_eq_getElem (by omega)⟩
        have hms := (HM.out.2 kk m hm).1
        have hmt := mask_round h10 HM.out hlt hm
        have hbt := bit_test m kk hms
        have hkk10 : kk < 10 := by omega
        have hor := or_pow d2 kk hd hkk10
        have hna := nameAt_some hx
        have hrl := roundsTo_le l kk
        have hsucc := roundsTo_succ l kk
        have HX := Lib.hid hx; have HB2 := Lib.hid hB2; have HBW1 := Lib.hid hbw; have HMI := Lib.hid hm; have HNA := Lib.hid hna; have HRL := Lib.hid hrl; have HSUC := Lib.hid hsucc; have HMT := Lib.hid hmt
        clear hx hB2 hbw hm hna hrl hsucc hmt
        clear hr hcell hcs hbF hu hlen
        go_upto_region 10 with fail
        have hBn := Box.made wr 27 #[.string x.name, .slice A2 x.uses.length c2]
        have hbn : Below wr.heap.size wr (wr.alloc (.cells #[.string x.name, .slice A2 x.uses.length c2] 27)) := by go_grown
        have hzn : (wr.alloc (.cells #[.string x.name, .slice A2 x.uses.length c2] 27)).heap.size = wr.heap.size + 1 := by simp
        generalize wr.alloc (.cells #[.string x.name, .slice A2 x.uses.length c2] 27) = W3 at hBn hbn hzn ⊢
        have hB3 := HB2.out.later hbn HB2.out.lt
        have hbi := hB3.at_ kk _ (intsV_at HMI.out)
        have hO3 := hO.out.below StrR.stays hbn
        have hb3 := BW.out.trans (hbn.mono BW.out.size)
        have x0 := hBn.at_ 0 _ rfl
        have HO3 := Lib.hid hO3; have HB3 := Lib.hid hb3
        clear hO3 hb3
        clear hBn hbn hzn hc0 hc1 hO BW hB3
        cases hq2 : m.testBit kk with
        | true =>
          rw [hq2] at hbt
          have hir : inRound l kk = true := HMT.out.symm.trans hq2
          have hD2 := hD.out.yes hkk10 hir
          have hsm := or_small hd (pow_small hkk10)
          have hs2 : roundsTo l (kk + 1) = roundsTo l kk ++ [x.name] := by rw [HSUC.out, hir, if_pos rfl, HNA.out]
          have HD2 := Lib.hid hD2; have HS2 := Lib.hid hs2
          clear hD2 hs2
          clear hD hir hq2 HMT HSUC
          go_wp2_with (at_builtin; go_must ((refine wpList_push StrR.stays (.string ⟨#[]⟩) [.string x.name] x.name rfl rfl Tryd.underlying25 (bytes := 16) (by kernel_rfl) HO3.out rfl rfl (by decide) rfl rfl (show StrR W3 none_ _ _ from ⟨rfl, hox⟩) (StrR.one (w := W3) (F := none_) _ _ ⟨rfl, hox⟩) (fun k hk => hk.elim) (by unfold maxLen; have := HRL.out; omega) (by have := HRL.out; omega) HB3.out.size ?_); (intro A5 c5 W5 hO5 hgr _; have hb5 := HB3.out.trans (hgr.below (B := W2.heap.size) (Nat.le_refl _) HB3.out.size); have HO5 := Lib.hid hO5; have HB5 := Lib.hid hb5; clear hO5 hgr hb5)))
          go_roundg (l.length - (kk + 1))
          case measure => omega
          case rel =>
            refine ⟨kk + 1, d2 ||| 2 ^ kk, _, c5, A5, by omega, by omega, by go_num, rfl, rfl, hsm, aside ?_, aside HD2.out, aside ?_, aside HB5.out⟩
            · rw [HS2.out]; simp
            · rw [HS2.out]
              exact HO5.out.wider StrR.stays (fun k hk => hk.elim id id) (fun k hk => hk.elim)
        | false =>
          rw [hq2] at hbt
          have hir : inRound l kk = false := HMT.out.symm.trans hq2
          have hD2 := hD.out.no hir
          have hs2 : roundsTo l (kk + 1) = roundsTo l kk := by rw [HSUC.out, hir]; simp
          have HD2 := Lib.hid hD2; have HS2 := Lib.hid hs2
          clear hD2 hs2
          clear hD hir hq2 HMT HSUC
          go_wp2_with fail
          go_roundg (l.length - (kk + 1))
          case measure => omega
          case rel =>
            exact ⟨kk + 1, d2, _, c, A, by omega, by omega, by go_num, rfl, rfl, hd, aside (by rw [HS2.out]; exact hn.out), aside HD2.out, aside (by rw [HS2.out]; exact HO3.out), aside HB3.out⟩
      · have hltz : ¬ (kk : Int) < (l.length : Int) := by omega
        obtain rfl : kk = l.length := by omega
        have hDn := hD.out.done
        have hrl := roundsTo_le l l.length
        have hsl := hO.out.slice StrR.stays (by_ := 16) (F' := fresh w.heap.size wr.heap.size) (fun k hk => hk.elim) (fun k h1 h2 => ⟨by have := HBW.out.size; omega, h2⟩) (by omega) (by omega)
        obtain ⟨W4, rfl⟩ : ∃ W, W = wr := ⟨_, rfl⟩
        have HBW4 := Lib.hid hbw; have HDN := Lib.hid hDn; have HSL := Lib.hid hsl
        clear hbw hDn hsl
        clear hD hO BW hB2 hlen HM HBx HLT
        go_wp2_with fail
        go_loopg [7, 9, 12, 13, 48, 50, 51, 52] l.length (fun gg s7 s9 _ _ s48 _ _ _ wr => ∃ (ss d n c : Nat) (A : Option Addr), ss ≤ l.length ∧ l.length - ss ≤ gg ∧ s48 = .int .i64 ss ∧ s9 = .int .i64 d ∧ s7 = .slice A n c ∧ d < 1024 ∧ Aside (n = (orderTo l ss).length) ∧ Aside (Done (inRound l) l.length (orderN (usesN l) (inRound l) l.length ss) d) ∧
          Aside (Owns StrR 1 9 W4.heap.size wr none_ (.slice A n c) (orderTo l ss)) ∧ Aside (Below W4.heap.size W4 wr))
        case atStart => exact ⟨0, d2, 0, 0, none, Nat.zero_le _, by omega, rfl, rfl, rfl, hd, aside rfl, aside HDN.out, aside Owns.nil_, aside (Below.refl _ _)⟩
        case round =>
          obtain ⟨ss, d3, n3, c3, A3, hss, hg3, rfl, rfl, rfl, hd3, hn3, hD3, hO3, BW3⟩ := hrel
          obtain ⟨wo, rfl⟩ : ∃ W, W = wr := ⟨_, rfl⟩
          by_cases hlt : ss < l.length
          · have hltz : (ss : Int) < (l.length : Int) := by omega
            have HD3 := Lib.hid hD3; have HO3 := Lib.hid hO3; have HN3 := Lib.hid hn3
            clear hD3 hO3 hn3
            go_wp2_with fail
            go_loopg [7, 9, 12, 13, 52] l.length (fun gg s7 s9 _ _ s52 wr => ∃ i : Nat, i ≤ l.length ∧ l.length - i ≤ gg ∧ s52 = .int .i64 i ∧ s7 = .slice A3 n3 c3 ∧ s9 = .int .i64 d3 ∧ Aside (∀ j, j < i → readyN (usesN l) (inRound l) l.length (orderN (usesN l) (inRound l) l.length ss) j = false) ∧ Aside (Below wo.heap.size wo wr))
            case atStart => exact ⟨0, Nat.zero_le _, by omega, rfl, rfl, rfl, aside (fun j hj => absurd hj (Nat.not_lt_zero _)), aside (Below.refl _ _)⟩
            case round =>
              obtain ⟨i, hil, hg4, rfl, rfl, rfl, hNR, BW4⟩ := hrel
              obtain ⟨W5, rfl⟩ : ∃ W, W = wr := ⟨_, rfl⟩
              by_cases hlt2 : i < l.length
              · have hltz2 : (i : Int) < (l.length : Int) := by omega
                have hb4 := BW3.out.trans (BW4.out.mono BW3.out.size)
                have hbw := HBW4.out.trans (hb4.mono HBW4.out.size)
                have hat := now_lup NodeR.stays HL.out hbw
                obtain ⟨b1, off, cs, hB, hbF, hcs, hr, hcell⟩ := hat.at_ hlt2
                have hx := List.getElem?_eq_getElem hlt2
                generalize l[i] = x at hx hr
                obtain ⟨A2, c2, rfl, hox, hu⟩ := NodeR.form hr
                have hc0 := hcell 0 _ rfl
                have hc1 := hcell 1 _ rfl
                simp only [Nat.add_zero] at hc0
                subst hB
                have hq : b1 < W5.heap.size := hbF
                have hi10 : i < 10 := by omega
                have hna := nameAt_some hx
                have hol := orderTo_le l ss
                have hor := or_pow d3 i hd3 hi10
                have ham : ∀ j, (maskOf (placeOf l) x.uses).testBit j = (decide (j < l.length) && usesN l i j) := fun j => by
                  rw [uses_mask HR.out hx]
                  cases hu : usesN l i j with
                  | false => simp
                  | true => have := (uses_lt hu).2; simp [this]
                have has := maskOf_small (placeOf l) (fun s k hs => by have := placeOf_lt hs; omega) x.uses
                have hrb := ready_bits HD3.out.out hlt2 ham
                have hA : ∀ j, (maskOf (placeOf l) x.uses).testBit j = true → j < l.length := fun j hj => by
                  rw [ham j] at hj; simp at hj; exact hj.1
                have hbt := bit_test d3 i hd3
                have hO5 := HO3.out.out.below StrR.stays BW4.out
                have hdr := fun U (hU : Below W5.heap.size W5 U) => direct_any l x _ _ U HZ.out (now_lup NodeR.stays hat hU) (now_up NodeR.stays hr hU)
                generalize maskOf (placeOf l) x.uses = a at *
                have han := andnot_test a d3 l.length has hd3 hA
                have hnx := fun h => nextN_hit (E := usesN l) (R := inRound l) (ds := orderN (usesN l) (inRound l) l.length ss) hlt2 h hNR.out
                have HNA := Lib.hid hna; have HOL := Lib.hid hol; have HRB := Lib.hid hrb; have HAN := Lib.hid han; have HDR := Lib.hid hdr; have HO5 := Lib.hid hO5; have HNX := Lib.hid hnx; have HB4 := Lib.hid hb4; have HBW5 := Lib.hid hbw
                clear hna hol hrb han hdr hO5 hnx hb4 hbw
                clear hr hcell hcs hbF hu ham hA hat hx
                go_upto_region 19 with fail
                have hBn := Box.made W5 27 #[.string x.name, .slice A2 x.uses.length c2]
                have hbn : Below W5.heap.size W5 (W5.alloc (.cells #[.string x.name, .slice A2 x.uses.length c2] 27)) := by go_grown
                have hzn : (W5.alloc (.cells #[.string x.name, .slice A2 x.uses.length c2] 27)).heap.size = W5.heap.size + 1 := by simp
                generalize W5.alloc (.cells #[.string x.name, .slice A2 x.uses.length c2] 27) = W6 at hBn hbn hzn ⊢
                have hO6 := HO5.out.below StrR.stays hbn
                have hb6 := HB4.out.trans (hbn.mono HB4.out.size)
                have hb46 := BW4.out.trans (hbn.mono BW4.out.size)
                have hdr := HDR.out W6 hbn
                have x0 := hBn.at_ 0 _ rfl
                have x1 := hBn.at_ 1 _ rfl
                have HO6 := Lib.hid hO6; have HB6 := Lib.hid hb6; have HDR6 := Lib.hid hdr; have HBn := Lib.hid hBn; have HB46 := Lib.hid hb46
                clear hO6 hb6 hdr hBn hb46
                clear hbn hzn hc0 hc1 BW4 HDR HO5 HB4
                cases hq2 : d3.testBit i with
                | true =>
                  rw [hq2] at hbt
                  have hnr : readyN (usesN l) (inRound l) l.length (orderN (usesN l) (inRound l) l.length ss) i = false := by rw [HRB.out, hq2]; rfl
                  have HNR2 := Lib.hid (seenB hnr hNR.out)
                  clear hnr hq2 HRB HAN HNX hNR
                  go_wp2_with fail
                  go_roundg (l.length - (i + 1))
                  case measure => omega
                  case rel => exact ⟨i + 1, by omega, by omega, by go_num, rfl, rfl, aside HNR2.out, aside HB46.out⟩
                | false =>
                  rw [hq2] at hbt
                  have HQ2 := Lib.hid hq2
                  clear hq2
                  go_wp2_with fail
                  refine HDR6.out.mono ?_
                  rintro e W7 ⟨rfl, hb7⟩
                  have hO7 := HO6.out.below StrR.stays hb7
                  have hb37 := HB6.out.trans (hb7.mono HB6.out.size)
                  have hb47 := HB46.out.trans (hb7.mono HB46.out.size)
                  have hBn7 := HBn.out.later hb7 HBn.out.lt
                  have hrb := HRB.out
                  have han := HAN.out
                  rw [HQ2.out] at hrb
                  obtain ⟨qa, hqa⟩ : ∃ q, ((List.range l.length).all fun k => !(a.testBit k && !(d3.testBit k))) = q := ⟨_, rfl⟩
                  rw [hqa] at hrb han
                  clear x0 x1 hqa hb7
                  have x0 := hBn7.at_ 0 _ rfl
                  cases qa with
                  | false =>
                    have HNR2 := Lib.hid (seenB (show readyN (usesN l) (inRound l) l.length (orderN (usesN l) (inRound l) l.length ss) i = false by rw [hrb]; rfl) hNR.out)
                    have han2 : (bits BinOp.andNot IntKind.i64 (a : Int) (d3 : Int) != 0) = true := han
                    have HB47 := Lib.hid hb47
                    clear hb47
                    clear hrb han HRB HAN HNX hNR hO7 hb37 hBn7
                    go_wp2_with fail
                    go_roundg (l.length - (i + 1))
                    case measure => omega
                    case rel => exact ⟨i + 1, by omega, by omega, by go_num, rfl, rfl, aside HNR2.out, aside HB47.out⟩
                  | true =>
                    have hnx := HNX.out (show readyN (usesN l) (inRound l) l.length (orderN (usesN l) (inRound l) l.length ss) i = true by rw [hrb]; rfl)
                    have han2 : (bits BinOp.andNot IntKind.i64 (a : Int) (d3 : Int) != 0) = false := han
                    have hD4 := HD3.out.out.add hlt2 h10
                    have hst : orderN (usesN l) (inRound l) l.length (ss + 1) = orderN (usesN l) (inRound l) l.length ss ++ [i] := hnx
                    have hst2 : orderTo l (ss + 1) = orderTo l ss ++ [x.name] := by unfold orderTo; rw [hst, List.map_append]; simp [HNA.out]
                    rw [← hst] at hD4
                    have hsm := or_small hd3 (pow_small hi10)
                    have HD4 := Lib.hid hD4; have HST2 := Lib.hid hst2; have HO7 := Lib.hid hO7; have HB37 := Lib.hid hb37
                    clear hD4 hst2 hO7 hb37
                    clear hrb han HRB HAN HNX hNR hBn7 hnx hst
                    go_wp2_with (at_builtin; go_must ((refine wpList_push StrR.stays (.string ⟨#[]⟩) [.string x.name] x.name rfl rfl Tryd.underlying25 (bytes := 16) (by kernel_rfl) HO7.out rfl rfl (by decide) rfl rfl (show StrR W7 none_ _ _ from ⟨rfl, hox⟩) (StrR.one (w := W7) (F := none_) _ _ ⟨rfl, hox⟩) (fun k hk => hk.elim) (by unfold maxLen; have := HOL.out; omega) (by have := HOL.out; omega) HB37.out.size ?_); (intro A5 c5 W8 hO8 hgr _; have hb8 := HB37.out.trans (hgr.below (B := W4.heap.size) (Nat.le_refl _) HB37.out.size); have HO8 := Lib.hid hO8; have HB8 := Lib.hid hb8; clear hO8 hgr hb8)))
                    go_roundg (l.length - (ss + 1))
                    case measure => omega
                    case rel =>
                      refine ⟨ss + 1, d3 ||| 2 ^ i, _, c5, A5, by omega, by omega, by go_num, rfl, rfl, hsm, aside ?_, aside HD4.out, aside ?_, aside HB8.out⟩
                      · rw [HST2.out]; simp
                      · rw [HST2.out]
                        exact HO8.out.wider StrR.stays (fun k hk => hk.elim id id) (fun k hk => hk.elim)
              · have hltz2 : ¬ (i : Int) < (l.length : Int) := by omega
                obtain rfl : i = l.length := by omega
                have hst : orderN (usesN l) (inRound l) l.length (ss + 1) = orderN (usesN l) (inRound l) l.length ss := nextN_none hNR.out
                have hst2 : orderTo l (ss + 1) = orderTo l ss := by unfold orderTo; rw [hst]
                have hD4 := HD3.out.out
                have hO4 := HO3.out.out.below StrR.stays BW4.out
                have hb4 := BW3.out.trans (BW4.out.mono BW3.out.size)
                rw [← hst] at hD4
                rw [← hst2] at hO4
                have hn4 : n3 = (orderTo l (ss + 1)).length := by rw [hst2]; exact HN3.out.out
                have HD4 := Lib.hid hD4; have HO4 := Lib.hid hO4; have HN4 := Lib.hid hn4; have HB4 := Lib.hid hb4
                clear hD4 hO4 hn4 hb4
                clear hst hst2 hNR BW4
                go_wp2_with fail
                go_roundg (l.length - (ss + 1))
                case measure => omega
                case rel => exact ⟨ss + 1, d3, n3, c3, A3, by omega, by omega, by go_num, rfl, rfl, hd3, aside HN4.out, aside HD4.out, aside HO4.out, aside HB4.out⟩
          · have hltz : ¬ (ss : Int) < (l.length : Int) := by omega
            obtain rfl : ss = l.length := by omega
            have hbw := HBW4.out.trans (BW3.out.mono HBW4.out.size)
            have hol := orderTo_le l l.length
            have hs1 := hO3.out.slice StrR.stays (by_ := 16) (F' := fresh w.heap.size wo.heap.size) (fun k hk => hk.elim) (fun k h1 h2 => ⟨by have := HBW4.out.size; omega, h2⟩) (by omega) (by omega)
            have hs2 := HSL.out.stays StrR.stays (F' := fresh w.heap.size wo.heap.size) (fun k hk => ⟨hk.1, Nat.lt_of_lt_of_le hk.2 BW3.out.size⟩) (Keeps.of_below BW3.out fun k hk => hk.2)
            have HS1 := Lib.hid hs1; have HS2 := Lib.hid hs2; have HBWE := Lib.hid hbw
            clear hs1 hs2 hbw
            clear hO3 BW3 hD3 hn3
            go_wp2_with fail
            go_ret3
            exact ⟨_, _, rfl, HBWE.out, HS1.out, HS2.out⟩
  · have hCz : (z == 0) = false := by simp [hz0]
    have HB1 := Lib.hid hb1
    clear hb1
    clear HCK HRC
    go_wp2_with fail
    go_ret3
    exact ⟨_, _, rfl, HB1.out, SliceOf.nil_, SliceOf.nil_⟩

end Go.Proofs.YtafhepilcmimlaaDoor
