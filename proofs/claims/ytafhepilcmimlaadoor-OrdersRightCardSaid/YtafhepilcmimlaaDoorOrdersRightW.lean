/- The law OrdersRight: its walk. -/
import Derived.Test.YtafhepilcmimlaaDoorOrdLaws
import Derived.Test.YtafhepilcmimlaaDoorKeepName
import Derived.Test.YtafhepilcmimlaaDoorRawR
import Derived.Test.YtafhepilcmimlaaDoorGraphOrder
import Derived.Test.YtafhepilcmimlaaDoorTypeAll
import Derived.Deep.RegionLaw
import Derived.Deep.CutBlock
import Derived.Handy
namespace Go.Proofs.YtafhepilcmimlaaDoor
open Go.ChangeShapes Go.WideShapes Go.ChangeAt Go.RowKit

theorem names_rise : ∀ i, i < 5 → ltS (names6.getD i ⟨#[]⟩) (names6.getD (i + 1) ⟨#[]⟩) = true := by decide +kernel
theorem names_ok : ∀ s ∈ names6, nameOk s = true := by decide +kernel
/-- Nodes of the six names. -/
structure Six (NL : List Node) : Prop where
  names : NL.map Node.name = names6
  fine : ∀ x ∈ NL, x.uses.length ≤ 24 ∧ ∀ u ∈ x.uses, u ∈ names6
theorem Six.fit {NL : List Node} (h : Six NL) : NodesFit NL := by
  have hl : NL.length = 6 := by have := congrArg List.length h.names; simpa [names6] using this
  refine ⟨hl, ?_, fun x hx => ?_⟩
  · intro i x y hx hy
    have hi : i + 1 < NL.length := (List.getElem?_eq_some_iff.1 hy).1
    have h1 : names6[i]? = some x.name := by rw [← h.names, List.getElem?_map, hx]; rfl
    have h2 : names6[i + 1]? = some y.name := by rw [← h.names, List.getElem?_map, hy]; rfl
    have h3 := names_rise i (by omega)
    rw [List.getD_eq_getElem?_getD, List.getD_eq_getElem?_getD, h1, h2] at h3
    exact h3
  · obtain ⟨h1, h2⟩ := h.fine x hx
    refine ⟨names_ok _ (by rw [← h.names]; exact List.mem_map.2 ⟨x, hx, rfl⟩), h1, fun u hu => ?_⟩
    have h3 := h2 u hu
    refine ⟨names_ok _ h3, ?_⟩
    rw [← h.names] at h3
    exact List.mem_map.1 h3

/-- A Node's cells. -/
def nodeCells (cs : List Value) (s : ByteArray) : Prop := ∃ A n c, cs = [.string s, .slice A n c]
theorem node_one {s : ByteArray} {A : Option Addr} {n c : Nat} : ∀ u ∈ [Value.string s, .slice A n c], u.oneCell' = true := by
  intro u hu
  simp only [List.mem_cons, List.not_mem_nil, or_false] at hu
  rcases hu with rfl | rfl <;> rfl
set_option maxRecDepth 100000 in
set_option maxHeartbeats 1000000 in
theorem nodesCmp_any (s t : ByteArray) (A A' : Option Addr) (n c n' c' : Nat) (W : World) : Calls Tryd.prog 6 #[.agg #[.string s, .slice A n c], .agg #[.string t, .slice A' n' c']] W fun e w' => e = .returned (.int .i64 (Lib.compareBytes s.data.toList t.data.toList)) ∧ ∃ q os, w' = Sort.grow (W.drewN q) os := by
  have hcon := fun W' => Tryd.strings_Compare s t W'
  generalize Lib.compareBytes s.data.toList t.data.toList = z at hcon ⊢
  go_enter Tryd.func6, Tryd.ntmps6
  go_wp2_with (go_at_call 7; refine (hcon _).mono ?_; rintro e w' ⟨rfl, rfl⟩)
  go_ret
  exact ⟨rfl, 0, _, by rw [Sort.alloc_eq_grow, Sort.alloc_eq_grow, Sort.grow_grow]; rfl⟩
set_option maxRecDepth 100000 in
theorem index_names (ii : Nat) (h : ii < 6) (W : World) : Sem.run Tryd.prog (Instr.index 24 (.agg #[.string ⟨#[97]⟩, .string ⟨#[98]⟩, .string ⟨#[98, 111, 120]⟩, .string ⟨#[100]⟩, .string ⟨#[101, 50]⟩, .string ⟨#[102, 117, 110]⟩]) (.int .i64 ii)) W = .ok (.string (names6.getD ii ⟨#[]⟩)) W := by
  have u := Tryd.underlying24
  match ii, h with
  | 0, _ => (go_simp; rfl)
  | 1, _ => (go_simp; rfl)
  | 2, _ => (go_simp; rfl)
  | 3, _ => (go_simp; rfl)
  | 4, _ => (go_simp; rfl)
  | 5, _ => (go_simp; rfl)
set_option maxHeartbeats 1000000 in
theorem sortNodes_any {base : Nat} {F : Foot} {w : World} {v : Value} {l : List Node} (h : Owns NodeR 2 27 base w F v l) (h6 : Six l) :
    Calls Tryd.prog 5 #[v, .func (.func 6) #[] #[]] w fun en w' => en = .returned (.tuple #[]) ∧ Owns NodeR 2 27 base w' F v l ∧ Grew base w w' v.ownBlock := by
  have hf := h6.fit
  have hcon := sort_owned NodeR.stays Node.name nodeCells 2 (by rintro cs s ⟨A, n, c, rfl⟩; exact ⟨rfl, node_one⟩) (by intro w F cs x hx; obtain ⟨A, c, rfl, _⟩ := NodeR.form hx; exact ⟨_, _, _, rfl⟩)
    Tryd.sortNode Tryd.isAgg27 Tryd.sizeOf27 6 (enters_of Tryd.func6 (by kernel_rfl) rfl)
    (by rintro cs ds s t W ⟨A, n, c, rfl⟩ ⟨A', n', c', rfl⟩; exact nodesCmp_any s t A A' n c n' c' W) h (by rw [hf.len]; decide)
  change Calls Tryd.prog 5 _ _ _ at hcon
  refine hcon.mono ?_
  rintro e w' ⟨he, l', hp, hs, hO, hg⟩
  have hap : Apart_ Node.name l := List.pairwise_iff_getElem.2 fun i j hi hj hij => ltS_ne (hf.rising.lt hij (List.getElem?_eq_getElem hi) (List.getElem?_eq_getElem hj))
  have hps : l.Pairwise fun a b => ltS b.name a.name = false := List.pairwise_iff_getElem.2 fun i j hi hj hij => ltS_asymm (hf.rising.lt hij (List.getElem?_eq_getElem hi) (List.getElem?_eq_getElem hj))
  rw [sorted_one hp hap hs, ← sorted_one (List.Perm.refl l) hap hps] at hO
  exact ⟨he, hO, hg⟩

theorem slice_take {α : Type} {R : CR α} {sz by_ : Nat} {F : Foot} {w : World} {A : Option Addr} {n cap : Nat} {l : List α} (h : SliceOf R sz by_ w F (.slice A n cap) l) {k : Nat} (hk : k ≤ l.length) : SliceOf R sz by_ w F (.slice A k cap) (l.take k) := by
  obtain ⟨A', cap', e, h1, h2, h3, h3', h4⟩ := h
  injection e with e1 e2 e3
  subst e1; subst e3
  have hl : (l.take k).length = k := by rw [List.length_take]; omega
  refine ⟨A, cap, by rw [hl], by omega, h2, ?_, by omega, fun h0 => ?_⟩
  · rw [hl]; exact Nat.le_trans (Nat.mul_le_mul_right _ hk) h3
  · obtain ⟨b, off, hA, hb, hx⟩ := h4 (by omega)
    refine ⟨b, off, hA, hb, fun i x hi => hx i x ?_⟩
    rw [List.getElem?_take] at hi
    split at hi
    · exact hi
    · cases hi
def NoUse (NL : List Node) : Prop := ∀ x ∈ NL, x.uses.length ≤ 24 ∧ ∀ u ∈ x.uses, u ∈ names6

set_option maxRecDepth 100000 in
set_option maxHeartbeats 8000000 in
theorem ordersRight_calls (v : Value) (l : List Raw) (w : World) (hl : SliceOf RawR 4 32 w (old w.heap.size) v l) (hN : Named w) :
    Calls Tryd.prog 3 #[v] w fun e w' => e = .returned (.bool true) ∧ Below w.heap.size w w' := by
  obtain ⟨RA, rc, rfl, hrl, hrc, hr2, hr3⟩ := hl.form
  have n0 := hN 0 _ rfl
  have n1 := hN 1 _ rfl
  have n2 := hN 2 _ rfl
  have n3 := hN 3 _ rfl
  have n4 := hN 4 _ rfl
  have n5 := hN 5 _ rfl
  unfold maxLen at hrc
  have HL := Lib.hid hl; have HNM := Lib.hid hN
  clear hl hN
  go_enter Tryd.func3, Tryd.ntmps3
  go_wp2_with fail
  clear n0 n1 n2 n3 n4 n5
  go_loopg [3, 4, 5, 6, 7, 19] 6 (fun gg s3 _ _ _ _ s19 wr => ∃ (ii n c : Nat) (A : Option Addr) (NL : List Node) (Fo : Foot), ii ≤ 6 ∧ 6 - ii ≤ gg ∧ s19 = .int .i64 ii ∧ s3 = .slice A n c ∧ Aside (n = NL.length) ∧ Aside (NL.map Node.name = names6.take ii) ∧ Aside (NoUse NL) ∧
    Aside (Owns NodeR 2 27 w.heap.size wr Fo (.slice A n c) NL) ∧ Aside (Below w.heap.size w wr))
  case atStart => exact ⟨0, 0, 0, none, [], none_, by omega, by omega, rfl, rfl, aside rfl, aside rfl, aside (fun x hx => by cases hx), aside Owns.nil_, aside (Below.refl _ _)⟩
  case round =>
    obtain ⟨ii, n, c, A, NL, Fo, hii, hg, rfl, rfl, hn, hnm, hno, hO, BW⟩ := hrel
    obtain ⟨wo, rfl⟩ : ∃ W, W = wr := ⟨_, rfl⟩
    by_cases hlt : ii < 6
    · have hltz : (ii : Int) < 6 := by omega
      have hix := index_names ii hlt
      obtain ⟨nm, hnm2⟩ : ∃ z, names6.getD ii ⟨#[]⟩ = z := ⟨_, rfl⟩
      rw [hnm2] at hix
      have hnmem : nm ∈ names6 := by rw [← hnm2, List.getD_eq_getElem?_getD, List.getElem?_eq_getElem (show ii < names6.length from hlt)]; exact List.getElem_mem _
      have hbw := BW.out
      have htk : names6.take (ii + 1) = names6.take ii ++ [nm] := by
        rw [List.take_add_one, ← hnm2, List.getD_eq_getElem?_getD, List.getElem?_eq_getElem (show ii < names6.length from hlt)]; rfl
      have HTK := Lib.hid htk; have HMEM := Lib.hid hnmem
      clear htk hnmem
      go_upto_region 6 with fail
      have hBb := Box.made wo 27 #[.string nm, .slice none 0 0]
      have hbb : Below wo.heap.size wo (wo.alloc (.cells #[.string nm, .slice none 0 0] 27)) := by go_grown
      have hzb : (wo.alloc (.cells #[.string nm, .slice none 0 0] 27)).heap.size = wo.heap.size + 1 := by simp
      generalize wo.alloc (.cells #[.string nm, .slice none 0 0] 27) = W1 at hBb hbb hzb ⊢
      have hsz1 : wo.heap.size < W1.heap.size := hBb.lt
      have HB := Lib.hid hBb; have Hb := Lib.hid hbb
      clear hBb hbb
      have HZB := Lib.hid hzb
      clear hzb hix hnm2
      go_wp2_with fail
      go_loopg [7] (l.length + 6) (fun gg s7 wr => ∃ (k m c2 : Nat) (B : Option Addr) (us : List ByteArray), k ≤ l.length + 6 ∧ l.length + 6 - k ≤ gg ∧ s7 = .int .i64 k ∧ Aside (m = us.length) ∧ Aside (us.length ≤ k) ∧ Aside (∀ u ∈ us, u ∈ names6) ∧
        Aside (Box wr wo.heap.size 27 #[.string nm, .slice B m c2]) ∧ Aside (Owns StrR 1 9 W1.heap.size wr none_ (.slice B m c2) us) ∧ Aside (Below wo.heap.size wo wr))
      case atStart => exact ⟨ii, 0, 0, none, [], by omega, by omega, rfl, aside rfl, aside (Nat.zero_le _), aside (fun u hu => by cases hu), aside HB.out, aside Owns.nil_, aside Hb.out⟩
      case round =>
        obtain ⟨k, m, c2, B, us, hk, hg2, rfl, hm, hum, hus, hBx, hOu, BWi⟩ := hrel
        obtain ⟨W2, rfl⟩ : ∃ W, W = wr := ⟨_, rfl⟩
        have hb2w := below_step BW.out BWi.out
        obtain rfl : m = us.length := hm.out
        by_cases hlt2 : k < l.length
        · have hltz2 : (k : Int) < (l.length : Int) := by omega
          obtain ⟨b1, off, cs, rfl, hbF, hcs, ⟨rfl, _, hra, _, _⟩, hcell⟩ := (HL.out.up RawR.stays old_lt hb2w).at_ (k := k) hlt2
          have q1 := hcell 1 _ rfl
          generalize l[k] = rw_ at hra q1
          have hna := fun U (hU : Named U) => name_any rw_.a U hra hU
          have hNw := HNM.out.later hb2w
          have hNd : Named W2.drew := hNw
          have hnk := nameK_mem rw_.a
          obtain ⟨s, hs⟩ : ∃ z, nameK rw_.a = z := ⟨_, rfl⟩
          rw [hs] at hna hnk
          have hso : okS s := by
            have : ∀ x ∈ names6, x.size ≤ 3 := by decide
            have := this s hnk
            unfold okS; omega
          have hB2 := hBx.out
          have hlB := hB2.lt
          have hO2 : Owns StrR 1 9 W1.heap.size W2 none_ (.slice B us.length c2) us := hOu.out
          have h12 : W1.heap.size ≤ W2.heap.size ∨ True := .inr trivial
          have hx1a := (hB2.alloc (.cells #[.string s] 9)).at_ 1 _ rfl
          have x1 := hB2.at_ 1 _ rfl
          have g1 := hB2.free 1
          have hus2 := hus.out
          have hul := hum.out
          have HNA := Lib.hid hna; have HNW := Lib.hid hNw; have HND := Lib.hid hNd; have HNK := Lib.hid hnk; have HB2 := Lib.hid hB2; have HO2 := Lib.hid hO2; have HB2W := Lib.hid hb2w; have HUS := Lib.hid hus2; have HUL := Lib.hid hul; have HSZ1 := Lib.hid hsz1
          clear hna hNw hNd hnk hB2 hO2 hb2w hus2 hul hsz1
          clear hcell hs h12
          go_wp2_with fail
          go_region_law (first
            | (go_simp; go_at_call 4; (with_reducible refine (HNA.out _ (by first | exact HND.out | exact HNW.out)).mono ?_); rintro e w7 ⟨rfl, rfl⟩)
            | ((refine step_push StrR.stays (.string ⟨#[]⟩) [.string s] s _ _ 25 rfl rfl Tryd.underlying25 (bytes := 16) (by kernel_rfl) (show Owns StrR 1 9 W1.heap.size _ none_ (.slice B us.length c2) us from HO2.out.alloc StrR.stays _) rfl rfl (by decide) rfl (heap_alloc_new _ _) rfl (show StrR _ none_ _ _ from ⟨rfl, hso⟩) (strR_one (w := W2) (F := none_) [.string s] s ⟨rfl, hso⟩) (fun k hk => hk.elim) (by have := HUL.out; unfold maxLen; omega) (by have := HUL.out; omega) (by have := HZB.out; have := hlB; simp; omega) ?_); intro A6 c6 w6 ho6 hg6 _; have hX6 := hg6.box (HB2.out.alloc (.cells #[.string s] 9)) HSZ1.out; have hb6 := (show Below wo.heap.size W2 _ from by go_grown).trans (hg6.below (B := wo.heap.size) (Nat.le_of_lt HSZ1.out) (by have := hlB; simp; omega)); clear x1 g1 hx1a; have x1 := hX6.at_ 1 _ rfl; have g1 := hX6.free 1; have HX6 := Lib.hid hX6; have HB6 := Lib.hid hb6; have HO6 := Lib.hid ho6; clear hX6 hb6 ho6 hg6))
          all_goals
            (try go_wp2_with fail)
            go_roundg (l.length + 6 - (k + 6))
            case measure => omega
            case rel =>
              refine ⟨k + 6, us.length + 1, c6, A6, us ++ [s], by omega, by omega, by go_num, aside (by simp), aside (by have := HUL.out; simp; omega), aside ?_, aside ?_, aside ?_, aside (BWi.out.trans (HB6.out.setCell (p := ⟨wo.heap.size, 1, none⟩) (Nat.le_refl _) _))⟩
              · intro u hu
                rcases List.mem_append.1 hu with hu | hu
                · exact HUS.out u hu
                · simp only [List.mem_cons, List.not_mem_nil, or_false] at hu
                  subst hu
                  exact HNK.out
              · have h := HX6.out.put 1 (.slice A6 (us.length + 1) c6)
                simpa using h
              · exact (Owns.wider StrR.stays HO6.out (F' := none_) (fun k hk => hk.elim id id) (fun k hk => hk.elim)).set StrR.stays HSZ1.out (fun k hk => hk.elim) _
        · have hltz2 : ¬ (k : Int) < (l.length : Int) := by omega
          have HUM := hum
          have hB2 := hBx.out
          have hlB := hB2.lt
          have hcapu : us.length ≤ c2 := by
            obtain ⟨A', c', e, h1, h2⟩ := hOu.out.form
            injection e with e1 e2 e3
            subst e3
            exact h1
          have hzb := HZB.out
          have hokn : okS nm := by
            have : ∀ x ∈ names6, x.size ≤ 3 := by decide
            have := this nm HMEM.out
            unfold okS; omega
          have hOo := hO.out.below NodeR.stays BWi.out
          have hx2 := hB2
          have x0 := hx2.at_ 0 _ rfl
          have x1 := hx2.at_ 1 _ rfl
          have g1 := hx2.free 1
          clear hx2
          obtain ⟨z24, hz24⟩ : ∃ z, decide ((24 : Int) < (us.length : Int)) = z := ⟨_, rfl⟩
          have hzc : z24 = decide (24 < us.length) := by rw [← hz24, decide_eq_decide]; omega
          have HB2 := Lib.hid hB2; have HZC := Lib.hid hzc; have HOKN := Lib.hid hokn; have HOO := Lib.hid hOo; have HZB1 := Lib.hid hzb; have HCU := Lib.hid hcapu
          clear hB2 hzc hokn hOo hzb hcapu
          go_upto_if 46 with (fail)
          clear hz24
          go_cut [] (fun wc => ∃ (n2 : Nat) (us2 : List ByteArray), n2 ≤ 24 ∧ Aside (us2.length = n2) ∧ Aside (∀ u ∈ us2, u ∈ names6) ∧ Aside (Box wc wo.heap.size 27 #[.string nm, .slice B n2 c2]) ∧ Aside (SliceOf StrR 1 16 wc (fresh W1.heap.size wc.heap.size) (.slice B n2 c2) us2) ∧ Aside (Below wo.heap.size wo wc))
          case first =>
            cases z24 with
            | true =>
              have h24 : 24 < us.length := by have := HZC.out; simpa using this.symm
              have hbx := BWi.out.setCell (p := ⟨wo.heap.size, 1, none⟩) (Nat.le_refl _) (.slice B 24 c2)
              have hB3 : Box (W2.setCell ⟨wo.heap.size, 1, none⟩ (.slice B 24 c2)) wo.heap.size 27 #[.string nm, .slice B 24 c2] := by simpa using HB2.out.put 1 (.slice B 24 c2)
              have hsl := slice_take ((hOu.out.set StrR.stays (p := ⟨wo.heap.size, 1, none⟩) hsz1 (fun k hk => hk.elim) (.slice B 24 c2)).slice StrR.stays (by_ := 16) (F' := fresh W1.heap.size (W2.setCell ⟨wo.heap.size, 1, none⟩ (.slice B 24 c2)).heap.size) (fun k hk => hk.elim) (fun k h1 h2 => ⟨h1, h2⟩) (by have := HUM.out; omega) (by have := HUM.out; omega)) (k := 24) (by omega)
              have hc24 : (24 : Int) ≤ (c2 : Int) := by have := HCU.out; omega
              have hmem : ∀ u ∈ us.take 24, u ∈ names6 := fun u hu => hus.out u (List.mem_of_mem_take hu)
              have hlen : (us.take 24).length = 24 := by rw [List.length_take]; omega
              have HBX := Lib.hid hbx; have HB3 := Lib.hid hB3; have HSL := Lib.hid hsl; have HMM := Lib.hid hmem; have HLL := Lib.hid hlen
              clear hbx hB3 hsl hmem hlen
              clear h24
              go_wp2_with fail
              go_meet
              exact ⟨24, us.take 24, Nat.le_refl _, aside HLL.out, aside HMM.out, aside HB3.out, aside HSL.out, aside HBX.out⟩
            | false =>
              have h24 : us.length ≤ 24 := by have := HZC.out; simp at this; omega
              have hsl := hOu.out.slice StrR.stays (by_ := 16) (F' := fresh W1.heap.size W2.heap.size) (fun k hk => hk.elim) (fun k h1 h2 => ⟨h1, h2⟩) (by omega) (by omega)
              have HSL := Lib.hid hsl
              clear hsl
              go_wp2_with fail
              go_meet
              exact ⟨us.length, us, h24, aside rfl, hus, aside HB2.out, aside HSL.out, BWi⟩
          case rest =>
          obtain ⟨n2, us2, hn2, hul2, hus2, hB3, hsl3, hb3⟩ := hcut
          obtain ⟨W3, rfl⟩ : ∃ W, W = wc := ⟨_, rfl⟩
          clear x0 x1 g1
          have hOo := hO.out.below NodeR.stays hb3.out
          have hb3w := below_step BW.out hb3.out
          have hfr : ∀ k, fresh W1.heap.size W3.heap.size k → k < W3.heap.size ∧ some k ≠ (Value.slice A n c).ownBlock := fun k hk => ⟨hk.2, fun e => by have h3 := hO.out.row e.symm; have := hk.1; omega⟩
          have hnr : NodeR W3 (fresh W1.heap.size W3.heap.size) [.string nm, .slice B n2 c2] ⟨nm, us2⟩ := ⟨_, rfl, HOKN.out, hsl3.out⟩
          have hB33 := hB3.out
          have y0 := hB33.at_ 0 _ rfl
          have y1 := hB33.at_ 1 _ rfl
          obtain rfl : n = NL.length := hn.out
          have hNl : NL.length = ii := by have := congrArg List.length hnm.out; rw [List.length_map, List.length_take] at this; rw [this]; show min ii 6 = ii; omega
          have hfine : NoUse (NL ++ [⟨nm, us2⟩]) := by
            intro x hx
            rcases List.mem_append.1 hx with hx | hx
            · exact hno.out x hx
            · simp only [List.mem_cons, List.not_mem_nil, or_false] at hx
              subst hx
              exact ⟨by rw [hul2.out]; exact hn2, hus2.out⟩
          have hnms : (NL ++ [(⟨nm, us2⟩ : Node)]).map Node.name = names6.take (ii + 1) := by rw [List.map_append, hnm.out, HTK.out]; rfl
          have HOo := Lib.hid hOo; have HB3w := Lib.hid hb3w; have HFR := Lib.hid hfr; have HNR := Lib.hid hnr; have HFINE := Lib.hid hfine; have HNMS := Lib.hid hnms; have HNL := Lib.hid hNl
          clear hOo hb3w hfr hnr hfine hnms hNl
          clear hB33 hB3 hsl3 hb3 hus2 hul2
          go_wp2_with (at_builtin; go_must ((refine wpList_push NodeR.stays (.agg #[.string ⟨#[]⟩, .slice none 0 0]) [.string nm, .slice B n2 c2] ⟨nm, us2⟩ rfl rfl Tryd.underlying23 (bytes := 40) (by kernel_rfl) HOo.out rfl rfl (by decide) rfl rfl HNR.out node_one HFR.out (by have := HNL.out; unfold maxLen; omega) (by have := HNL.out; omega) HB3w.out.size ?_); (intro A6 c6 W7 hO6 hgr _; have hb6 := HB3w.out.trans (hgr.below (B := w.heap.size) (Nat.le_refl _) HB3w.out.size); have HO6 := Lib.hid hO6; have HB6 := Lib.hid hb6; clear hO6 hgr hb6)))
          go_roundg (6 - (ii + 1))
          case measure => omega
          case rel => exact ⟨ii + 1, NL.length + 1, c6, A6, NL ++ [⟨nm, us2⟩], _, by omega, by omega, by go_num, rfl, aside (by simp), aside HNMS.out, aside HFINE.out, aside HO6.out, aside HB6.out⟩
    · have hltz : ¬ (ii : Int) < 6 := by omega
      obtain rfl : ii = 6 := by omega
      have h6 : Six NL := ⟨by rw [hnm.out]; rfl, hno.out⟩
      have hf := h6.fit
      have hlen := hf.len
      obtain rfl : n = NL.length := hn.out
      have hso := sortNodes_any hO.out h6
      have herr := fit_err hf
      have hall := all_names hf
      have hrs := rounds_sorted hf
      have hua := fun (x : Node) (u : ByteArray) (a : Nat) => uses_ahead hf (x := x) (u := u) (a := a)
      obtain ⟨O, hOO⟩ : ∃ z, orderOf NL = z := ⟨_, rfl⟩
      obtain ⟨R, hRR⟩ : ∃ z, roundsOf NL = z := ⟨_, rfl⟩
      rw [hOO, hRR] at hall
      rw [hRR] at hrs
      rw [hOO] at hua
      have HSO := Lib.hid hso; have HERR := Lib.hid herr; have HALL := Lib.hid hall; have HRS := Lib.hid hrs; have HUA := Lib.hid hua; have HLEN := Lib.hid hlen; have HOO := Lib.hid hOO; have HRR := Lib.hid hRR
      clear hso herr hall hrs hua hlen hOO hRR
      clear hnm hno h6 hf
      go_wp2_with fail
      refine HSO.out.mono ?_
      rintro e W2 ⟨rfl, hO2, hg2⟩
      have hb2 := BW.out.trans (hg2.below (B := w.heap.size) (Nat.le_refl _) BW.out.size)
      have hsl := hO2.slice NodeR.stays (by_ := 40) (F' := old W2.heap.size) (fun k hk => (hO2.foot hk).1) (fun k h1 h2 => h2) (by have := HLEN.out; omega) (by have := HLEN.out; omega)
      have hor := order_any NL _ W2 hsl
      have HOR := Lib.hid hor; have HB2 := Lib.hid hb2; have HSL := Lib.hid hsl
      clear hor hb2 hsl
      clear hO2 hg2 hO
      go_wp2_with fail
      refine HOR.out.mono ?_
      rintro e W3 ⟨v1, v2, rfl, hb3, hs1, hs2⟩
      rw [HERR.out, if_pos rfl] at hs1 hs2
      rw [HOO.out] at hs1
      rw [HRR.out] at hs2
      obtain ⟨A1, c1, rfl, _⟩ := hs1.form
      obtain ⟨A2, c2, rfl, _⟩ := hs2.form
      have hs1 := hs1.stays StrR.stays (F' := old W3.heap.size) (fun k hk => hk.2) (Keeps.refl _ _)
      have hs2 := hs2.stays StrR.stays (F' := old W3.heap.size) (fun k hk => hk.2) (Keeps.refl _ _)
      have hsl3 := now_lup NodeR.stays HSL.out hb3
      have hb3w := below_step HB2.out hb3
      rw [HERR.out]
      have hal : O.length + R.length = 6 := by have := HALL.out.2; rwa [List.length_append] at this
      have HS1 := Lib.hid hs1; have HS2 := Lib.hid hs2; have HSL3 := Lib.hid hsl3; have HB3 := Lib.hid hb3w
      clear hs1 hs2 hsl3 hb3w
      clear hb3
      go_wp2_with fail
      have hbA := Below.alloc (Below.refl W3.heap.size W3) (Nat.le_refl _) (.cells #[.slice A1 O.length c1, .slice A2 R.length c2] 25)
      have hcc := concat_any W3.heap.size 25 A1 c1 A2 c2 O R (old W3.heap.size) (W3.alloc (.cells #[.slice A1 O.length c1, .slice A2 R.length c2] 25)) (Box.made _ _ _) (fun k hk => by have : k < W3.heap.size := hk; simp; omega)
        (HS1.out.stays StrR.stays (fun _ h => h) (Keeps.of_below hbA fun _ h => h)) (HS2.out.stays StrR.stays (fun _ h => h) (Keeps.of_below hbA fun _ h => h)) (by have := hal; omega) (by have := hal; omega)
      with_reducible refine hcc.mono ?_
      rintro e W4 ⟨v4, rfl, hb4, hO4⟩
      obtain ⟨AL, hAL⟩ : ∃ z, O ++ R = z := ⟨_, rfl⟩
      have hall2 := HALL.out
      rw [hAL] at hO4 hall2
      obtain ⟨A4, c4, rfl, hlc4, _⟩ := hO4.form
      have hb4' := below_stepA (Below.refl _ W3) hb4
      have hbase : W3.heap.size ≤ (W3.alloc (.cells #[.slice A1 O.length c1, .slice A2 R.length c2] 25)).heap.size := by simp
      have hO4 := hO4.low hbase
      have hl6 := hall2.2
      have hnd := hall2.1
      have hso := sortStr_any hO4 (by omega) (by omega) hb4'.size
      have hs14 := now_lup StrR.stays HS1.out hb4'
      have hs24 := now_lup StrR.stays HS2.out hb4'
      have hsl4 := now_lup NodeR.stays HSL3.out hb4'
      have HSO4 := Lib.hid hso; have HB4 := Lib.hid hb4'; have HS14 := Lib.hid hs14; have HS24 := Lib.hid hs24; have HSL4 := Lib.hid hsl4; have HL6 := Lib.hid hl6; have HND := Lib.hid hnd; have HAL := Lib.hid hal; have HLC4 := Lib.hid hlc4
      clear hso hb4' hs14 hs24 hsl4 hl6 hnd hal hlc4
      clear hcc hb4 hbA hbase hO4 hAL hall2
      go_wp2_with fail
      refine HSO4.out.mono ?_
      rintro e W5 ⟨rfl, hb5, zs, hperm, hrow⟩
      have hB35 := HB4.out.trans (hb5.mono (Nat.le_refl _))
      rcases hrow.2 with ⟨_, h00⟩ | ⟨g, cap, cur, hv4, hgb, hgc, hgn, _⟩
      · have := HL6.out; omega
      injection hv4 with e1 e2 e3
      subst e1; subst e3
      have hzn : zs.Nodup := hperm.nodup_iff.2 (nodup_map_on _ _ HND.out fun a _ b _ e => Go.WideShapes.bytes_inj (by simpa using e))
      have hs15 := HS1.out.up StrR.stays old_lt hB35
      have hs25 := HS2.out.up StrR.stays old_lt hB35
      have hsl5 := HSL3.out.up NodeR.stays old_lt hB35
      have hsd := sortedStr_any hs25 (by have := HAL.out; omega) HRS.out
      have hl6z : ((AL.length : Int) != 6) = false := by have := HL6.out; simp; omega
      have HB35 := Lib.hid hB35; have HROW := Lib.hid hrow; have HZN := Lib.hid hzn; have HS15 := Lib.hid hs15; have HSL5 := Lib.hid hsl5; have HSD := Lib.hid hsd; have HGN := Lib.hid hgn
      clear hB35 hrow hzn hs15 hsl5 hsd hgn
      clear hb5 hperm hs25 hgc
      go_wp2_with fail
      refine HSD.out.mono ?_
      rintro e W6 ⟨rfl, hb6⟩
      have hrow6 := owns_heap' HROW.out (fun g' hg' => hb6.block g' (HROW.out.lt g' hg').2)
      have hb36 := HB35.out.trans (hb6.mono HB35.out.size)
      have hcp := compactStr_any hrow6 HZN.out (by have := HL6.out; omega) hb36.size HGN.out
      have HCP := Lib.hid hcp; have HB36 := Lib.hid hb36
      clear hcp hb36
      clear hb6 hrow6
      go_wp2_with fail
      refine HCP.out.mono ?_
      rintro e W7 ⟨rfl, hb7⟩
      have hb37 := HB36.out.trans hb7
      have hs17 := HS1.out.up StrR.stays old_lt hb37
      have hsl7 := HSL3.out.up NodeR.stays old_lt hb37
      have hb7w := HB3.out.trans (hb37.mono HB3.out.size)
      have HB37 := Lib.hid hb37; have HS17 := Lib.hid hs17; have HSL7 := Lib.hid hsl7; have HB7w := Lib.hid hb7w
      clear hb37 hs17 hsl7 hb7w
      clear hb7
      go_wp2_with fail
      go_loopg [13, 14, 16, 17, 85, 96] NL.length (fun gg _ _ _ _ s85 _ wr => ∃ kk : Nat, kk ≤ NL.length ∧ NL.length - kk ≤ gg ∧ s85 = .int .i64 kk ∧ Aside (Below W3.heap.size W3 wr))
      case atStart => exact ⟨0, Nat.zero_le _, by omega, rfl, HB37⟩
      case round =>
        obtain ⟨kk, hkk, hg, rfl, BW3⟩ := hrel
        have hkb : kk ≤ 6 := by have := HLEN.out; omega
        by_cases hlt3 : kk < NL.length
        · have hltz3 : (kk : Int) < (NL.length : Int) := by omega
          obtain ⟨b1, off, cs, rfl, hbF, hcs, hr, hcell⟩ := (HSL3.out.up NodeR.stays old_lt BW3.out).at_ (k := kk) hlt3
          have hxm := List.getElem_mem hlt3
          generalize NL[kk] = x at hxm hr
          obtain ⟨uv, rfl, _, hu⟩ := hr
          obtain ⟨U1, u1, rfl, _, hu2, hu3, _⟩ := hu.form
          unfold maxLen at hu2
          have hc0 := hcell 0 _ rfl
          have hc1 := hcell 1 _ rfl
          simp only [Nat.add_zero] at hc0
          have hix := index_strs (.slice A1 O.length c1) O (old W3.heap.size) x.name
          have hua := fun (u : ByteArray) (a : Nat) hu ha => HUA.out x u a hxm hu ha
          obtain ⟨z, hz⟩ : ∃ z, fidx (isS x.name) O = z := ⟨_, rfl⟩
          rw [hz] at hix hua
          have HIX := Lib.hid hix; have HUX := Lib.hid hua
          clear hix hua
          clear hcell hcs hz hxm
          go_upto_region 23 with fail
          have hBx := Box.made wr 27 #[.string x.name, .slice U1 x.uses.length u1]
          have hbx : Below wr.heap.size wr (wr.alloc (.cells #[.string x.name, .slice U1 x.uses.length u1] 27)) := by go_grown
          have hzx : (wr.alloc (.cells #[.string x.name, .slice U1 x.uses.length u1] 27)).heap.size = wr.heap.size + 1 := by simp
          generalize wr.alloc (.cells #[.string x.name, .slice U1 x.uses.length u1] 27) = W8 at hBx hbx hzx ⊢
          have hb8 := BW3.out.trans (hbx.mono BW3.out.size)
          have hs18 := HS1.out.up StrR.stays old_lt hb8
          have hix := HIX.out _ hs18
          have hux := hu.up StrR.stays (F := old W3.heap.size) (fun k hk => Nat.lt_of_lt_of_le hk BW3.out.size) hbx
          have x0 := hBx.at_ 0 _ rfl
          have x1 := hBx.at_ 1 _ rfl
          have HIX8 := Lib.hid hix; have HB8 := Lib.hid hb8; have HUU := Lib.hid hux
          clear hix hb8 hux
          clear hBx hbx hzx hc0 hc1 HIX hu
          go_wp2_with (go_at_call 13; (with_reducible refine HIX8.out.mono ?_); rintro e w' ⟨rfl, rfl⟩)
          go_loopg [16, 17, 96] x.uses.length (fun gg _ _ s96 wq => ∃ jj : Nat, jj ≤ x.uses.length ∧ x.uses.length - jj ≤ gg ∧ s96 = .int .i64 jj ∧ W8 = wq)
          case atStart => exact ⟨0, Nat.zero_le _, by omega, rfl, rfl⟩
          case round =>
            obtain ⟨jj, hjj, hg4, rfl, rfl⟩ := hrel
            by_cases hlt4 : jj < x.uses.length
            · have hltz4 : (jj : Int) < (x.uses.length : Int) := by omega
              obtain ⟨b2, off2, ds, rfl, hbF2, hds, ⟨rfl, _⟩, hcell2⟩ := HUU.out.at_ (k := jj) hlt4
              have q0 := hcell2 0 _ rfl
              have hum := List.getElem_mem hlt4
              generalize x.uses[jj] = u at hum q0
              simp only [Nat.mul_one, Nat.add_zero] at q0
              have hs18 := HS1.out.up StrR.stays old_lt HB8.out
              have hiu := index_strs (.slice A1 O.length c1) O (old W3.heap.size) u W8 hs18
              obtain ⟨y, hy⟩ : ∃ y, fidx (isS u) O = y := ⟨_, rfl⟩
              have hyz : 0 ≤ z → y < z := fun h0 => by
                have h1 := HUX.out u z.toNat hum (by omega)
                rw [hy] at h1
                omega
              rw [hy] at hiu
              have HIU := Lib.hid hiu; have HYZ := Lib.hid hyz
              clear hiu hyz
              clear hcell2 hds hum hy hs18
              by_cases h0 : 0 ≤ z
              · have h1 : ¬ z ≤ y := by have := HYZ.out h0; omega
                go_wp2_with (go_at_call 13; (with_reducible refine HIU.out.mono ?_); rintro e w' ⟨rfl, rfl⟩)
                go_roundg (x.uses.length - (jj + 1))
                case measure => omega
                case rel => exact ⟨jj + 1, by omega, by omega, by go_num, rfl⟩
              · go_wp2_with (go_at_call 13; (with_reducible refine HIU.out.mono ?_); rintro e w' ⟨rfl, rfl⟩)
                go_roundg (x.uses.length - (jj + 1))
                case measure => omega
                case rel => exact ⟨jj + 1, by omega, by omega, by go_num, rfl⟩
            · have hltz4 : ¬ (jj : Int) < (x.uses.length : Int) := by omega
              obtain rfl : jj = x.uses.length := by omega
              go_wp2_with fail
              go_roundg (NL.length - (kk + 1))
              case measure => omega
              case rel => exact ⟨kk + 1, by omega, by omega, by go_num, aside HB8.out⟩
        · have hltz3 : ¬ (kk : Int) < (NL.length : Int) := by omega
          obtain rfl : kk = NL.length := by omega
          go_wp2_with fail
          go_ret
          exact ⟨rfl, HB3.out.trans (BW3.out.mono HB3.out.size)⟩

end Go.Proofs.YtafhepilcmimlaaDoor
