/- Does a node lead to one: the reference's leadsTo. -/
import Derived.Test.YtejiaimcgmpliaaGraphOrder
import Derived.Test.YtejiaimcgmpliaaBase
namespace Go.Proofs.Ytejiaimcgmpliaa
open Go.RowKit Go.Shelf

theorem SliceOf.grew {α : Type} {R : CR α} {sz by_ base : Nat} {F : Foot} {w w' : World} {row : Option Nat} {v : Value} {l : List α} (hR : Stays R) (h : SliceOf R sz by_ w F v l) (hg : Grew base w w' row) (hF : ∀ k, F k → k < w.heap.size ∧ some k ≠ row) : SliceOf R sz by_ w' F v l :=
  h.stays hR (fun _ h => h) (keeps_of_heap fun k hk => hg.block k (hF k hk).1 (hF k hk).2)

theorem strs_of {e : TypeId} {base : Nat} {w : World} {F : Foot} {v : Value} {l : List ByteArray} (h : Owns StrR 1 e base w F v l) : Owns StrR 1 e base w none_ v l := by
  obtain ⟨xs, h1, h2, _⟩ := h
  exact ⟨xs, h1, ⟨h2.1, fun i x hi => h2.2 i x hi⟩, fun _ h => h.elim⟩
/-- What is seen when a step begins to add. -/
def baseT (l : List Node) (f : ByteArray) (s : Nat) (u : ByteArray) : Bool := if s = 0 then false else seenT l f s u
theorem baseT_next (l : List Node) (f : ByteArray) (s : Nat) (u : ByteArray) : seenT l f (s + 1) u = (baseT l f s u || nextOf l (seenT l f s) u) := by
  unfold baseT
  cases s with
  | zero => simp [seenT_one]
  | succ s => simp [seenT_more]

/-- What the nodes that are seen, among the first i, use. -/
def nextTo (l : List Node) (S : ByteArray → Bool) (i : Nat) (t : ByteArray) : Bool := nextOf (l.take i) S t
theorem nextTo_succ {l : List Node} {S : ByteArray → Bool} {i : Nat} {x : Node} (hx : l[i]? = some x) (t : ByteArray) : nextTo l S (i + 1) t = (nextTo l S i t || (S x.name && hasS x.uses t)) := by
  unfold nextTo nextOf
  rw [List.take_add_one, hx, Option.toList_some, List.any_append]
  simp
theorem hasS_app (a b : List ByteArray) (t : ByteArray) : hasS (a ++ b) t = (hasS a t || hasS b t) := by simp [hasS]
theorem has_snoc (us : List ByteArray) (x y : ByteArray) : hasS (us ++ [x]) y = (hasS us y || isS y x) := by simp [hasS]
theorem hasS_nil (t : ByteArray) : hasS [] t = false := rfl
theorem isS_self (t : ByteArray) : isS t t = true := by simp [isS]
theorem seen_more' {a : Bool} {u x : ByteArray} {xs : List ByteArray} (h : hasS xs x = true) : (hasS xs u || isS u x) = hasS xs u := by
  cases hu : isS u x with
  | false => simp
  | true =>
    have : x = u := by simpa [isS] using hu
    subst this; rw [h]; simp

set_option maxRecDepth 100000 in
set_option maxHeartbeats 8000000 in
theorem leadsTo_any (l : List Node) (f t : ByteArray) (lv : Value) (w : World) (h0 : nodesErr l = 0) (hf : okS f) (hl : SliceOf NodeR 2 40 w (old w.heap.size) lv l) :
    Calls Try.prog 44 #[lv, .string f, .string t, .int .i64 12] w fun e w' => e = .returned (.bool (leadsB l f t 12)) ∧ Below w.heap.size w w' := by
  obtain ⟨B, d, rfl, _, _, hll, _⟩ := hl.form
  obtain ⟨h10, hR, h24⟩ := nodes_rising h0
  obtain ⟨E, hE⟩ : ∃ E, leadsB l f t 12 = E := ⟨_, rfl⟩
  rw [hE]
  have HL := Lib.hid hl; have HE := Lib.hid hE; have H24 := Lib.hid h24
  clear hl hE h24
  clear h0
  go_enter Try.func44, Try.ntmps44
  go_upto_region 4 with fail
  have hBs := Box.made w 9 #[.string f]
  have hbs : Below w.heap.size w (w.alloc (.cells #[.string f] 9)) := by go_grown
  have hzs : (w.alloc (.cells #[.string f] 9)).heap.size = w.heap.size + 1 := by simp
  generalize w.alloc (.cells #[.string f] 9) = W1 at hBs hbs hzs ⊢
  have hO1 : Owns StrR 1 9 w.heap.size W1 none_ (.slice (some ⟨w.heap.size, 0, none⟩) 1 1) [f] :=
    ⟨[.string f], ⟨by simp, .inr ⟨w.heap.size, 1, #[.string f], rfl, Nat.le_refl _, hBs, Nat.le_refl _, by unfold maxLen; omega, by simp, by simp⟩⟩, RowsR.one rfl ⟨rfl, hf⟩, fun _ h => h.elim⟩
  have HO1 := Lib.hid hO1; have HB1 := Lib.hid hbs
  clear hO1 hbs
  clear hBs hzs
  go_wp2_with fail
  go_loopg [9, 10, 11, 12, 13, 14] 12 (fun gg s9 s10 s11 _ _ _ wr => ∃ (s n c : Nat) (A : Option Addr) (z : Bool) (xs : List ByteArray), s ≤ 12 ∧ 12 - s ≤ gg ∧ s11 = .int .i64 s ∧ s9 = .slice A n c ∧ s10 = .bool z ∧ Aside (n = xs.length) ∧ Aside (z = decide (s = 0)) ∧ xs.length ≤ 1 + 240 * s ∧ Aside (∀ u, hasS xs u = seenT l f s u) ∧
    Aside (∀ j, j < s → nextOf l (seenT l f j) t = false) ∧ Aside (Owns StrR 1 9 w.heap.size wr none_ (.slice A n c) xs) ∧ Aside (Below w.heap.size w wr))
  case atStart => exact ⟨0, 1, 1, some ⟨w.heap.size, 0, none⟩, true, [f], Nat.zero_le _, by omega, rfl, rfl, rfl, aside rfl, aside rfl, by simp, aside (fun u => by simp [hasS, isS, seenT, eq_comm]), aside (fun j hj => absurd hj (Nat.not_lt_zero _)), aside HO1.out, aside HB1.out⟩
  case round =>
    obtain ⟨s, n, c, A, z, xs, hs, hg, rfl, rfl, rfl, hn, hz, hxl, hsn, hno, hO, BW⟩ := hrel
    obtain ⟨W2, rfl⟩ : ∃ W, W = wr := ⟨_, rfl⟩
    obtain rfl : n = xs.length := hn.out
    by_cases hlt : s < 12
    · have hltz : (s : Int) < 12 := by omega
      have hsl := hO.out.slice StrR.stays (by_ := 16) (F' := old W2.heap.size) (fun k hk => hk.elim) (fun k h1 h2 => h2) (by omega) (by omega)
      have HSL := Lib.hid hsl
      clear hsl
      go_wp2_with fail
      go_loopg [12, 13] l.length (fun gg s12 s13 wr => ∃ (i n c : Nat) (A : Option Addr) (ys : List ByteArray), i ≤ l.length ∧ l.length - i ≤ gg ∧ s13 = .int .i64 i ∧ s12 = .slice A n c ∧ Aside (n = ys.length) ∧ ys.length ≤ 24 * i ∧ Aside (∀ u, hasS ys u = nextTo l (seenT l f s) i u) ∧
        Aside (Owns StrR 1 9 W2.heap.size wr none_ (.slice A n c) ys) ∧ Aside (Below W2.heap.size W2 wr))
      case atStart => exact ⟨0, 0, 0, none, [], Nat.zero_le _, by omega, rfl, rfl, aside rfl, by simp, aside (fun u => by simp [hasS, nextTo, nextOf]), aside Owns.nil_, aside (Below.refl _ _)⟩
      case round =>
        obtain ⟨i, n2, c2, A2, ys, hi, hg2, rfl, rfl, hn2, hyl, hyn, hO2, BW2⟩ := hrel
        obtain ⟨W3, rfl⟩ : ∃ W, W = wr := ⟨_, rfl⟩
        obtain rfl : n2 = ys.length := hn2.out
        have hbw := BW.out.trans (BW2.out.mono BW.out.size)
        by_cases hlt2 : i < l.length
        · have hltz2 : (i : Int) < (l.length : Int) := by omega
          obtain ⟨b1, off, cs, rfl, hbF, hcs, hr, hcell⟩ := (HL.out.stays NodeR.stays (fun _ h => h) (Keeps.of_below hbw fun _ h => h)).at_ hlt2
          have hq1 : b1 < W3.heap.size := Nat.lt_of_lt_of_le hbF hbw.size
          have hx := List.getElem?_eq_getElem hlt2
          have hxu := H24.out _ (List.getElem_mem hlt2)
          generalize l[i] = x at hx hr hxu
          obtain ⟨A3, c3, rfl, hox, hu⟩ := NodeR.form hr
          have hc0 := hcell 0 _ rfl
          have hc1 := hcell 1 _ rfl
          simp only [Nat.add_zero] at hc0
          have hht := hasText_any _ xs (old W2.heap.size) x.name W3 (HSL.out.stays StrR.stays (fun _ h => h) (Keeps.of_below BW2.out fun _ h => h))
          rw [hsn.out] at hht
          have hnx := fun u => nextTo_succ (S := seenT l f s) hx u
          obtain ⟨q, hq⟩ : ∃ q, seenT l f s x.name = q := ⟨_, rfl⟩
          rw [hq] at hht
          have HHT := Lib.hid hht; have HNX := Lib.hid hnx; have HQ := Lib.hid hq; have HBW := Lib.hid hbw; have HU := Lib.hid hu
          clear hht hnx hq hbw hu
          clear hr hcell hcs hbF hx
          go_wp2_with fail
          refine HHT.out.mono ?_
          rintro e w' ⟨rfl, rfl⟩
          cases q with
          | false =>
            go_wp2_with fail
            go_roundg (l.length - (i + 1))
            case measure => omega
            case rel => exact ⟨i + 1, _, c2, A2, ys, by omega, by omega, by go_num, rfl, aside rfl, by omega, aside (fun u => by rw [HNX.out u, HQ.out, hyn.out u]; simp), aside hO2.out, aside BW2.out⟩
          | true =>
            have hG : ∀ k, old w.heap.size k → k < W3.heap.size ∧ some k ≠ (Value.slice A2 ys.length c2).ownBlock := fun k hk => ⟨Nat.lt_of_lt_of_le hk HBW.out.size, fun e => by have := (hO2.out.row e.symm).1; have := BW.out.size; exact absurd hk (by unfold old; omega)⟩
            have hxs : 24 * i + 24 = 24 * (i + 1) := by omega
            have HG := Lib.hid hG
            clear hG
            go_wp2_with (at_builtin; go_must ((refine wpList_push_list (F := none_) (G := old w.heap.size) (by_ := 16) StrR.stays (fun cs x h => StrR.one (w := W3) (F := none_) cs x h) (.string ⟨#[]⟩) _ _ 23 rfl rfl Try.underlying23 (bytes := 16) (by kernel_rfl) hO2.out rfl rfl (by decide) rfl HU.out HG.out (by unfold maxLen; omega) (by omega) BW2.out.size ?_); (intro A5 c5 W8 hO8 hg8 _; have hb8 := BW2.out.trans (hg8.below (B := W2.heap.size) (Nat.le_refl _) BW2.out.size); have HO8 := Lib.hid (strs_of hO8); have HB8 := Lib.hid hb8; clear hO8 hg8 hb8)))
            go_roundg (l.length - (i + 1))
            case measure => omega
            case rel => exact ⟨i + 1, _, c5, A5, ys ++ x.uses, by omega, by omega, by go_num, rfl, aside (by simp), by simp; omega, aside (fun u => by rw [HNX.out u, HQ.out, hasS_app, hyn.out u]; simp), aside HO8.out, aside HB8.out⟩
        · have hltz2 : ¬ (i : Int) < (l.length : Int) := by omega
          obtain rfl : i = l.length := by omega
          have hyl2 : ys.length ≤ 240 := by omega
          have hyn2 : ∀ u, hasS ys u = nextOf l (seenT l f s) u := fun u => by rw [hyn.out u]; unfold nextTo; rw [List.take_length]
          have hnl := hO2.out.slice StrR.stays (by_ := 16) (F' := fresh W2.heap.size W3.heap.size) (fun k hk => hk.elim) (fun k h1 h2 => ⟨h1, h2⟩) (by omega) (by omega)
          have hht := hasText_any _ ys _ t W3 hnl
          rw [hyn2] at hht
          obtain ⟨q, hq⟩ : ∃ q, nextOf l (seenT l f s) t = q := ⟨_, rfl⟩
          rw [hq] at hht
          have hO3 := hO.out.below StrR.stays BW2.out
          have hlow : ∀ g, (Value.slice A xs.length c).ownBlock = some g → g < W2.heap.size := fun g hg => (hO.out.row hg).2
          have HHT := Lib.hid hht; have HQ := Lib.hid hq; have HBW := Lib.hid hbw; have HYN := Lib.hid hyn2; have HNL := Lib.hid hnl; have HO3 := Lib.hid hO3; have HLOW := Lib.hid hlow
          clear hht hq hbw hyn2 hnl hO3 hlow
          clear hyn hO2 hO
          go_wp2_with fail
          refine HHT.out.mono ?_
          rintro e w' ⟨rfl, rfl⟩
          cases q with
          | true =>
            have hE : E = true := by rw [← HE.out]; exact leads_hit (by omega) HQ.out
            subst hE
            go_wp2_with fail
            go_ret
            exact ⟨rfl, HBW.out⟩
          | false =>
            have hno2 := seenB HQ.out hno.out
            have HNO := Lib.hid hno2
            clear hno2
            clear hno HHT
            go_upto_if 46 with (fail)
            go_cut [9, 10] (fun s9 s10 wc => ∃ (n c : Nat) (A : Option Addr) (zs : List ByteArray), s9 = .slice A n c ∧ s10 = .bool false ∧ wc = W3 ∧ Aside (n = zs.length) ∧ zs.length ≤ xs.length ∧ Aside (∀ u, hasS zs u = baseT l f s u) ∧ Aside (Owns StrR 1 9 w.heap.size W3 none_ (.slice A n c) zs) ∧ Aside (∀ g, (Value.slice A n c).ownBlock = some g → g < W2.heap.size ∨ W3.heap.size ≤ g))
            case first =>
              by_cases hs0 : s = 0
              · have hz1 : z = true := by rw [hz.out]; simp [hs0]
                subst hz1
                go_wp2_with fail
                go_meet
                exact ⟨0, 0, none, [], rfl, rfl, rfl, aside rfl, by simp, aside (fun u => by unfold baseT; rw [if_pos hs0]; rfl), aside Owns.nil_, aside (fun g hg => by cases hg)⟩
              · have hz1 : z = false := by rw [hz.out]; simp [hs0]
                subst hz1
                go_wp2_with fail
                go_meet
                exact ⟨_, c, A, xs, rfl, rfl, rfl, aside rfl, Nat.le_refl _, aside (fun u => by unfold baseT; rw [if_neg hs0]; exact hsn.out u), aside HO3.out, aside (fun g hg => .inl (HLOW.out g hg))⟩
            case rest =>
            obtain ⟨n3, c3, A3, zs0, rfl, rfl, rfl, hn3, hzl, hzn, hO3, hl3⟩ := hcut
            obtain rfl : n3 = zs0.length := hn3.out
            go_wp2_with fail
            go_loopg [9, 14] ys.length (fun gg s9 s14 wr => ∃ (j n c : Nat) (A : Option Addr) (zs : List ByteArray), j ≤ ys.length ∧ ys.length - j ≤ gg ∧ s14 = .int .i64 j ∧ s9 = .slice A n c ∧ Aside (n = zs.length) ∧ zs.length ≤ xs.length + j ∧ Aside (∀ u, hasS zs u = (baseT l f s u || hasS (ys.take j) u)) ∧
              Aside (Owns StrR 1 9 w.heap.size wr none_ (.slice A n c) zs) ∧ Aside (∀ g, (Value.slice A n c).ownBlock = some g → g < W2.heap.size ∨ wc.heap.size ≤ g) ∧ Aside (SliceOf StrR 1 16 wr (fresh W2.heap.size wc.heap.size) (.slice A2 ys.length c2) ys) ∧ Aside (Below w.heap.size w wr) ∧ wc.heap.size ≤ wr.heap.size)
            case atStart => exact ⟨0, _, c3, A3, zs0, Nat.zero_le _, by omega, rfl, rfl, aside rfl, by omega, aside (fun u => by rw [hzn.out u]; simp [hasS]), aside hO3.out, aside hl3.out, aside HNL.out, aside HBW.out, Nat.le_refl _⟩
            case round =>
              obtain ⟨j, n4, c4, A4, zs, hj, hg3, rfl, rfl, hn4, hzl2, hzn2, hO4, hl4, hnl4, BW4, hsz4⟩ := hrel
              obtain ⟨W5, rfl⟩ : ∃ W, W = wr := ⟨_, rfl⟩
              obtain rfl : n4 = zs.length := hn4.out
              by_cases hlt3 : j < ys.length
              · have hltz3 : (j : Int) < (ys.length : Int) := by omega
                obtain ⟨b2, off2, cs, rfl, hbF, hcs, ⟨rfl, hoy⟩, hcell⟩ := hnl4.out.at_ hlt3
                have hc0 := hcell 0 _ rfl
                simp only [Nat.mul_one, Nat.add_zero] at hc0
                have hy := List.getElem?_eq_getElem hlt3
                generalize ys[j] = y at hy hc0 hoy
                have hsl5 := hO4.out.slice StrR.stays (by_ := 16) (F' := old W5.heap.size) (fun k hk => hk.elim) (fun k h1 h2 => h2) (by omega) (by omega)
                have hht := hasText_any _ zs _ y W5 hsl5
                have htk : ∀ u, hasS (ys.take (j + 1)) u = (hasS (ys.take j) u || isS u y) := fun u => by rw [List.take_add_one, hy, Option.toList_some, has_snoc]
                obtain ⟨q, hq⟩ : ∃ q, hasS zs y = q := ⟨_, rfl⟩
                rw [hq] at hht
                have HHT := Lib.hid hht; have HQ2 := Lib.hid hq; have HTK := Lib.hid htk
                clear hht hq htk
                clear hcell hcs hbF hsl5 hy
                go_wp2_with fail
                refine HHT.out.mono ?_
                rintro e w' ⟨rfl, rfl⟩
                cases q with
                | true =>
                  have hnew : ∀ u, hasS zs u = (baseT l f s u || hasS (ys.take (j + 1)) u) := fun u => by
                    rw [HTK.out u, ← Bool.or_assoc, ← hzn2.out u]
                    cases hu : isS u y with
                    | false => simp
                    | true =>
                      have : y = u := by simpa [isS] using hu
                      subst this; rw [HQ2.out]; rfl
                  have HNEW := Lib.hid hnew
                  clear hnew
                  clear hzn2
                  go_wp2_with fail
                  go_roundg (ys.length - (j + 1))
                  case measure => omega
                  case rel => exact ⟨j + 1, _, c4, A4, zs, by omega, by omega, by go_num, rfl, aside rfl, by omega, aside HNEW.out, aside hO4.out, aside hl4.out, aside hnl4.out, aside BW4.out, hsz4⟩
                | false =>
                  go_wp2_with (at_builtin; go_must ((refine wpList_push StrR.stays (.string ⟨#[]⟩) [.string y] y rfl rfl Try.underlying23 (bytes := 16) (by kernel_rfl) hO4.out rfl rfl (by decide) rfl rfl (show StrR W5 none_ _ _ from ⟨rfl, hoy⟩) (StrR.one (w := W5) (F := none_) _ _ ⟨rfl, hoy⟩) (fun k hk => hk.elim) (by unfold maxLen; omega) (by omega) BW4.out.size ?_); (intro A6 c6 W6 hO6 hg6 hl6; have HO6 := Lib.hid (strs_of hO6); have HG6 := Lib.hid hg6; have HL6 := Lib.hid hl6; clear hO6 hg6 hl6)))
                  go_roundg (ys.length - (j + 1))
                  case measure => omega
                  case rel =>
                    refine ⟨j + 1, _, c6, A6, zs ++ [y], by omega, by omega, by go_num, rfl, aside (by simp), by simp; omega, aside (fun u => by rw [has_snoc, HTK.out u, hzn2.out u, Bool.or_assoc]), aside HO6.out, aside ?_, aside ?_, aside (BW4.out.trans (HG6.out.below (B := w.heap.size) (Nat.le_refl _) BW4.out.size)), Nat.le_trans hsz4 HG6.out.size⟩
                    · intro g hg
                      rcases HL6.out with h | ⟨g', h, h'⟩
                      · exact hl4.out g (h.symm.trans hg)
                      · rw [hg] at h; injection h with h; subst h; exact .inr (Nat.le_trans hsz4 h')
                    · exact hnl4.out.grew StrR.stays HG6.out (fun k hk => ⟨Nat.lt_of_lt_of_le hk.2 hsz4, fun e => by rcases hl4.out k e.symm with h | h; exact absurd hk.1 (by omega); exact absurd hk.2 (by omega)⟩)
              · have hltz3 : ¬ (j : Int) < (ys.length : Int) := by omega
                obtain rfl : j = ys.length := by omega
                have hnew : ∀ u, hasS zs u = seenT l f (s + 1) u := fun u => by rw [hzn2.out u, List.take_length, HYN.out u, baseT_next]
                have HNEW := Lib.hid hnew
                clear hnew
                clear hzn2 hnl4
                go_wp2_with fail
                go_roundg (12 - (s + 1))
                case measure => omega
                case rel => exact ⟨s + 1, _, c4, A4, false, zs, by omega, by omega, by go_num, rfl, rfl, aside rfl, aside (by simp), by omega, aside HNEW.out, aside HNO.out, aside hO4.out, aside BW4.out⟩
    · have hltz : ¬ (s : Int) < 12 := by omega
      obtain rfl : s = 12 := by omega
      have hE : E = false := by rw [← HE.out]; exact leads_miss hno.out
      subst hE
      go_wp2_with fail
      go_ret
      exact ⟨rfl, BW.out⟩

end Go.Proofs.Ytejiaimcgmpliaa
