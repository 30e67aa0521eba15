/- In what order nodes are looked at: the reference's OrderOf. -/
import Derived.Test.YtejiaimcgmpliaaGraphLeads
import Derived.Deep.RegionHeld3
namespace Go.Proofs.Ytejiaimcgmpliaa
open Go.RowKit Go.Shelf

theorem seen_snoc2 {α : Type} {p : α → Bool} {l : List α} {k : Nat} {x : α} (hx : l[k]? = some x) (h : p x = false) (hb : ∀ j, j < k → ∀ y, l[j]? = some y → p y = false) : ∀ j, j < k + 1 → ∀ y, l[j]? = some y → p y = false := by
  intro j hj y hy
  by_cases e : j = k
  · subst e; rw [hx] at hy; injection hy with hy; subst hy; exact h
  · exact hb j (by omega) y hy
/-- Two rows in two blocks. -/
def Apart (v v' : Value) : Prop := ∀ g, v.ownBlock = some g → v'.ownBlock ≠ some g
theorem Apart.symm {v v' : Value} (h : Apart v v') : Apart v' v := fun g h1 h2 => h g h2 h1
theorem Apart.push {v v2 v' : Value} {n : Nat} (h : Apart v v') (hv : v2.ownBlock = v.ownBlock ∨ ∃ g, v2.ownBlock = some g ∧ n ≤ g) (hl : ∀ g, v'.ownBlock = some g → g < n) : Apart v2 v' := by
  intro g h1 h2
  rcases hv with hv | ⟨g', hv, hg⟩
  · exact h g (hv.symm.trans h1) h2
  · rw [h1] at hv; injection hv with hv; subst hv
    have := hl g h2
    omega
theorem Owns.grew {α : Type} {R : CR α} {sz base b2 : Nat} {e : TypeId} {w w' : World} {v v' : Value} {l : List α} (hR : Stays R) (h : Owns R sz e base w none_ v l) (hg : Grew b2 w w' v'.ownBlock) (ha : Apart v v') : Owns R sz e base w' none_ v l :=
  h.kept hR hg.size fun k hk hor => hg.block k hk (fun e => hor.elim id fun h1 => ha k h1 e.symm)

/-- What the reference leaves. -/
def OrderedR (l : List Node) (w : World) (e : Ending) (w' : World) : Prop := ∃ v1 v2 : Value, e = .returned (.tuple #[v1, v2, .int .i64 (nodesErr l)]) ∧ Below w.heap.size w w' ∧
  SliceOf StrR 1 16 w' (fresh w.heap.size w'.heap.size) v1 (if nodesErr l = 0 then orderOf l else []) ∧ SliceOf StrR 1 16 w' (fresh w.heap.size w'.heap.size) v2 (if nodesErr l = 0 then roundsOf l else [])

set_option maxRecDepth 100000 in
set_option maxHeartbeats 8000000 in
theorem orderOf_any (l : List Node) (lv : Value) (w : World) (hl : SliceOf NodeR 2 40 w (old w.heap.size) lv l) :
    Calls Try.prog 13 #[lv] w (OrderedR l w) := by
  obtain ⟨B, d, rfl, _, _, hll, _⟩ := hl.form
  have hck := nodesFault_any _ l (old w.heap.size) w old_lt hl
  have hld := fun h0 f t (hf : okS f) U (hU : Below w.heap.size w U) => leadsTo_any l f t _ U h0 hf (now_lup NodeR.stays hl hU)
  obtain ⟨z, hz⟩ : ∃ z, nodesErr l = z := ⟨_, rfl⟩
  rw [hz] at hck
  unfold OrderedR
  rw [hz]
  have HL := Lib.hid hl; have HCK := Lib.hid hck; have HLD := Lib.hid hld; have HZ := Lib.hid hz
  clear hl hck hld hz
  go_enter Try.func13, Try.ntmps13
  go_wp2_with fail
  refine HCK.out.mono ?_
  rintro e W1 ⟨rfl, hb1⟩
  by_cases hz0 : z = 0
  · subst hz0
    obtain ⟨h10, hR, _⟩ := nodes_rising HZ.out
    have HB1 := Lib.hid hb1; have HR := Lib.hid hR
    clear hb1 hR
    clear HCK
    go_wp2_with fail
    go_loopg [6, 7, 8] l.length (fun gg s6 s7 s8 wr => ∃ (kk n c n2 c2 : Nat) (A A2 : Option Addr), kk ≤ l.length ∧ l.length - kk ≤ gg ∧ s8 = .int .i64 kk ∧ s6 = .slice A n c ∧ s7 = .slice A2 n2 c2 ∧ Aside (n = kk) ∧ Aside (n2 = (roundsTo l kk).length) ∧
      Aside (Owns StrR 1 9 W1.heap.size wr none_ (.slice A n c) ((l.take kk).map Node.name)) ∧ Aside (Owns StrR 1 9 W1.heap.size wr none_ (.slice A2 n2 c2) (roundsTo l kk)) ∧ Aside (Apart (.slice A n c) (.slice A2 n2 c2)) ∧ Aside (Below W1.heap.size W1 wr))
    case atStart => exact ⟨0, 0, 0, 0, 0, none, none, Nat.zero_le _, by omega, rfl, rfl, rfl, aside rfl, aside rfl, aside Owns.nil_, aside Owns.nil_, aside (fun g hg => by cases hg), aside (Below.refl _ _)⟩
    case round =>
      obtain ⟨kk, n, c, n2, c2, A, A2, hkk, hg, rfl, rfl, rfl, hn, hn2, hO, hO2, hap, BW⟩ := hrel
      obtain ⟨W2, rfl⟩ : ∃ W, W = wr := ⟨_, rfl⟩
      have hbw := HB1.out.trans (BW.out.mono HB1.out.size)
      by_cases hlt : kk < l.length
      · have hltz : (kk : Int) < (l.length : Int) := by omega
        obtain ⟨b1, off, cs, hB, hbF, hcs, hr, hcell⟩ := (HL.out.stays NodeR.stays (fun _ h => h) (Keeps.of_below hbw fun _ h => h)).at_ hlt
        have hx := List.getElem?_eq_getElem hlt
        generalize l[kk] = x at hx hr
        obtain ⟨A3, c3, rfl, hox, hu⟩ := NodeR.form hr
        have hc0 := hcell 0 _ rfl
        have hc1 := hcell 1 _ rfl
        simp only [Nat.add_zero] at hc0
        subst hB
        have hq : b1 < W2.heap.size := Nat.lt_of_lt_of_le hbF hbw.size
        have hq0 : b1 < w.heap.size := hbF
        have hlm : ((l.take kk).map Node.name).length = kk := by simp; omega
        have hrl := roundsTo_le l kk
        have hsucc := roundsTo_succ l kk
        have hna := nameAt_some hx
        have hld := fun U (hU : Below w.heap.size w U) => HLD.out HZ.out x.name x.name hox U hU
        rw [round_leads HR.out hx] at hld
        have hmp : (l.take (kk + 1)).map Node.name = (l.take kk).map Node.name ++ [x.name] := by rw [List.take_add_one, hx, Option.toList_some, List.map_append]; rfl
        have hlow : ∀ g, (Value.slice A2 n2 c2).ownBlock = some g → g < W2.heap.size := fun g hg => (hO2.out.row hg).2
        obtain ⟨q, hq2⟩ : ∃ q, inRound l kk = q := ⟨_, rfl⟩
        rw [hq2] at hld hsucc
        have HBW := Lib.hid hbw; have HSUC := Lib.hid hsucc; have HLDX := Lib.hid hld; have HMP := Lib.hid hmp; have HLM := Lib.hid hlm; have HRL := Lib.hid hrl; have HNA := Lib.hid hna; have HLOW := Lib.hid hlow
        clear hbw hsucc hld hmp hlm hrl hna hlow
        clear hr hcell hcs hbF hu hx hq2
        go_wp2_with (at_builtin; go_must ((refine wpList_push StrR.stays (.string ⟨#[]⟩) [.string x.name] x.name rfl rfl Try.underlying23 (bytes := 16) (by kernel_rfl) hO.out rfl rfl (by decide) rfl rfl (show StrR W2 none_ _ _ from ⟨rfl, hox⟩) (StrR.one (w := W2) (F := none_) _ _ ⟨rfl, hox⟩) (fun k hk => hk.elim) (by unfold maxLen; have := HLM.out; omega) (by have := HLM.out; omega) BW.out.size ?_); (intro A5 c5 W5 hO5 hg5 hl5; have HO5 := Lib.hid (strs_of hO5); have HO25 := Lib.hid (hO2.out.grew StrR.stays hg5 hap.out.symm); have HAP5 := Lib.hid (hap.out.push hl5 HLOW.out); have HB5 := Lib.hid (BW.out.trans (hg5.below (B := W1.heap.size) (Nat.le_refl _) BW.out.size)); have HB25 := Lib.hid (hg5.below (B := w.heap.size) HB1.out.size HBW.out.size); clear hO5 hg5 hl5)))
        have hbw5 := HBW.out.trans HB25.out
        have hq5 : b1 < W5.heap.size := Nat.lt_of_lt_of_le hq0 hbw5.size
        have k0 : W5.cell? ⟨b1, off + kk * 2, none⟩ = some (.string x.name) := (HB25.out.cell (p := ⟨b1, off + kk * 2, none⟩) hq0).trans hc0
        have hdr : Below W5.heap.size W5 W5.drew := by go_grown
        have HS := Lib.hid (show ∀ w', Below W5.heap.size W5 w' → (w'.cell? ⟨b1, off + kk * 2, none⟩ = some (.string x.name)) from fun w' h => (h.cell (p := ⟨b1, off + kk * 2, none⟩) hq5).trans k0)
        have HBW5 := Lib.hid hbw5; have HBk := Lib.hid hdr
        clear hbw5 hdr
        clear hc0 hc1 hO hO2 hap BW
        go_cut [45] (fun s45 wc => s45 = .bool q ∧ Aside (Below W5.heap.size W5 wc))
        case first =>
          go_region_held3 (fun w' => w'.cell? ⟨b1, off + kk * 2, none⟩ = some (.string x.name))
            (exact HS.out _ (by first | exact HBk.out | exact HBk.out.alloc HBk.out.size _ | (go_grown; done) | exact (HBk.out.alloc HBk.out.size _).alloc (HBk.out.alloc HBk.out.size _).size _))
            ((go_at_call 44; (with_reducible refine (HLDX.out _ (HBW5.out.trans (HBk.out.mono HBW5.out.size))).mono ?_); rintro e w7 ⟨rfl, hb7⟩; have hb8 := below_step HBk.out hb7; have HBk := Lib.hid hb8; clear hb7 hb8))
          all_goals
            go_wp2_with fail
            go_meet
            exact ⟨rfl, aside HBk.out⟩
        case rest =>
        obtain ⟨rfl, hb6⟩ := hcut
        obtain ⟨W6, rfl⟩ : ∃ W, W = wc := ⟨_, rfl⟩
        have k6 := HS.out W6 hb6.out
        have hO6 := HO5.out.below StrR.stays hb6.out
        have hO26 := HO25.out.below StrR.stays hb6.out
        have hb16 := HB5.out.trans (hb6.out.mono HB5.out.size)
        have hq6 : b1 < W6.heap.size := Nat.lt_of_lt_of_le hq5 hb6.out.size
        have hl6 : ∀ g, (Value.slice A5 (((l.take kk).map Node.name).length + 1) c5).ownBlock = some g → g < W6.heap.size := fun g hg => (hO6.row hg).2
        have HO6 := Lib.hid hO6; have HO26 := Lib.hid hO26; have HB16 := Lib.hid hb16; have HL6 := Lib.hid hl6
        clear hO6 hO26 hb16 hl6
        clear hb6 k0 HO5 HO25
        cases q with
        | true =>
          have hs2 : roundsTo l (kk + 1) = roundsTo l kk ++ [x.name] := by rw [HSUC.out, if_pos rfl, HNA.out]
          have HS2 := Lib.hid hs2
          clear hs2
          go_wp2_with (at_builtin; go_must ((refine wpList_push StrR.stays (.string ⟨#[]⟩) [.string x.name] x.name rfl rfl Try.underlying23 (bytes := 16) (by kernel_rfl) HO26.out rfl rfl (by decide) rfl rfl (show StrR W6 none_ _ _ from ⟨rfl, hox⟩) (StrR.one (w := W6) (F := none_) _ _ ⟨rfl, hox⟩) (fun k hk => hk.elim) (by unfold maxLen; have := HRL.out; omega) (by have := HRL.out; omega) HB16.out.size ?_); (intro A7 c7 W7 hO7 hg7 hl7; have HO7 := Lib.hid (strs_of hO7); have HO17 := Lib.hid (HO6.out.grew StrR.stays hg7 HAP5.out); have HAP7 := Lib.hid (HAP5.out.symm.push hl7 HL6.out).symm; have HB7 := Lib.hid (HB16.out.trans (hg7.below (B := W1.heap.size) (Nat.le_refl _) HB16.out.size)); clear hO7 hg7 hl7)))
          go_roundg (l.length - (kk + 1))
          case measure => omega
          case rel => exact ⟨kk + 1, _, c5, _, c7, A5, A7, by omega, by omega, by go_num, rfl, rfl, aside rfl, aside (by rw [HS2.out]; simp), aside (by rw [HMP.out]; have h := HO17.out; rw [HLM.out] at h; exact h), aside (by rw [HS2.out]; exact HO7.out), aside (by have h := HAP7.out; rw [HLM.out] at h; exact h), aside HB7.out⟩
        | false =>
          have hs2 : roundsTo l (kk + 1) = roundsTo l kk := by rw [HSUC.out]; simp
          have HS2 := Lib.hid hs2
          clear hs2
          go_wp2_with fail
          go_roundg (l.length - (kk + 1))
          case measure => omega
          case rel => exact ⟨kk + 1, _, c5, n2, c2, A5, A2, by omega, by omega, by go_num, rfl, rfl, aside rfl, aside (by rw [HS2.out]; exact hn2.out), aside (by rw [HMP.out]; have h := HO6.out; rw [HLM.out] at h; exact h), aside (by rw [HS2.out]; exact HO26.out), aside (by have h := HAP5.out; rw [HLM.out] at h; exact h), aside HB16.out⟩
      · have hltz : ¬ (kk : Int) < (l.length : Int) := by omega
        obtain rfl : kk = l.length := by omega
        have hrl := roundsTo_le l l.length
        have htk : (l.take l.length).map Node.name = l.map Node.name := by rw [List.take_length]
        have hO := hO.out
        rw [htk] at hO
        have hs1 := hO.slice StrR.stays (by_ := 16) (F' := fresh w.heap.size W2.heap.size) (fun k hk => hk.elim) (fun k h1 h2 => ⟨by have := HB1.out.size; omega, h2⟩) (by simp; omega) (by simp; omega)
        have hs2 := hO2.out.slice StrR.stays (by_ := 16) (F' := fresh w.heap.size W2.heap.size) (fun k hk => hk.elim) (fun k h1 h2 => ⟨by have := HB1.out.size; omega, h2⟩) (by omega) (by omega)
        have hup : ∀ U, Below W2.heap.size W2 U → SliceOf StrR 1 16 U (fresh w.heap.size W2.heap.size) (.slice A n c) (l.map Node.name) ∧ SliceOf StrR 1 16 U (fresh w.heap.size W2.heap.size) (.slice A2 n2 c2) (roundsOf l) := fun U hU =>
          ⟨hs1.stays StrR.stays (fun _ h => h) (Keeps.of_below hU fun k hk => hk.2), hs2.stays StrR.stays (fun _ h => h) (Keeps.of_below hU fun k hk => hk.2)⟩
        have HUP := Lib.hid hup; have HBW := Lib.hid hbw
        clear hup hbw
        clear hO hO2 hap BW htk hs1 hs2 hn hn2 HLD hrl
        go_wp2_with fail
        go_loopg [9, 10, 11, 12, 13, 14] l.length (fun gg s9 s10 _ _ _ _ wr => ∃ (ss n c : Nat) (A : Option Addr), ss ≤ l.length ∧ l.length - ss ≤ gg ∧ s10 = .int .i64 ss ∧ s9 = .slice A n c ∧ Aside (n = (orderTo l ss).length) ∧
          Aside (Owns StrR 1 9 W2.heap.size wr none_ (.slice A n c) (orderTo l ss)) ∧ Aside (Below W2.heap.size W2 wr))
        case atStart => exact ⟨0, 0, 0, none, Nat.zero_le _, by omega, rfl, rfl, aside rfl, aside Owns.nil_, aside (Below.refl _ _)⟩
        case round =>
          obtain ⟨ss, n3, c3, A3, hss, hg3, rfl, rfl, hn3, hO3, BW3⟩ := hrel
          obtain ⟨W3, rfl⟩ : ∃ W, W = wr := ⟨_, rfl⟩
          obtain rfl : n3 = (orderTo l ss).length := hn3.out
          by_cases hlt : ss < l.length
          · have hltz : (ss : Int) < (l.length : Int) := by omega
            have hol := orderTo_le l ss
            have hsl := hO3.out.slice StrR.stays (by_ := 16) (F' := fresh W2.heap.size W3.heap.size) (fun k hk => hk.elim) (fun k h1 h2 => ⟨h1, h2⟩) (by omega) (by omega)
            have hO3' := hO3.out
            have hb3 := BW3.out
            have HO3 := Lib.hid hO3'; have HSL := Lib.hid hsl; have HB3 := Lib.hid hb3; have HOL := Lib.hid hol
            clear hO3' hsl hb3 hol
            clear hO3 BW3 hn3
            go_wp2_with fail
            go_loopg [9, 11, 12, 13, 14] l.length (fun gg s9 s11 _ _ _ wr => ∃ i : Nat, i ≤ l.length ∧ l.length - i ≤ gg ∧ s11 = .int .i64 i ∧ s9 = .slice A3 (orderTo l ss).length c3 ∧ wr = W3 ∧ Aside (∀ j, j < i → ∀ y, l[j]? = some y → readyR l (orderTo l ss) y = false))
            case atStart => exact ⟨0, Nat.zero_le _, by omega, rfl, rfl, rfl, aside (fun j hj => absurd hj (Nat.not_lt_zero _))⟩
            case round =>
              obtain ⟨i, hil, hg4, rfl, rfl, rfl, hNR⟩ := hrel
              obtain ⟨W4, rfl⟩ : ∃ W, W = wr := ⟨_, rfl⟩
              by_cases hlt2 : i < l.length
              · have hltz2 : (i : Int) < (l.length : Int) := by omega
                have hbw := HBW.out.trans (HB3.out.mono HBW.out.size)
                obtain ⟨b1, off, cs, hB, hbF, hcs, hr, hcell⟩ := (HL.out.stays NodeR.stays (fun _ h => h) (Keeps.of_below hbw fun _ h => h)).at_ hlt2
                have hx := List.getElem?_eq_getElem hlt2
                generalize l[i] = x at hx hr
                obtain ⟨A4, c4, rfl, hox, hu⟩ := NodeR.form hr
                have hc0 := hcell 0 _ rfl
                have hc1 := hcell 1 _ rfl
                simp only [Nat.add_zero] at hc0
                subst hB
                have hq : b1 < W4.heap.size := Nat.lt_of_lt_of_le hbF hbw.size
                have hup := HUP.out W4 HB3.out
                have hha := fun u => hasText_any _ (l.map Node.name) _ u W4 hup.1
                have hhr := fun u => hasText_any _ (roundsOf l) _ u W4 hup.2
                have hho := fun u => hasText_any _ (orderTo l ss) _ u W4 HSL.out
                have hst := fun h => order_step (l := l) (s := ss) HR.out hx h hNR.out
                have hrd : readyR l (orderTo l ss) x = ((!(hasS (roundsOf l) x.name) && !(hasS (orderTo l ss) x.name)) && x.uses.all (useFine l (orderTo l ss))) := rfl
                obtain ⟨q1, hq1⟩ : ∃ q, hasS (roundsOf l) x.name = q := ⟨_, rfl⟩
                obtain ⟨q2, hq2⟩ : ∃ q, hasS (orderTo l ss) x.name = q := ⟨_, rfl⟩
                have hhr1 := hhr x.name
                have hho1 := hho x.name
                rw [hq1] at hhr1 hrd
                rw [hq2] at hho1 hrd
                have HHA := Lib.hid hha; have HHR := Lib.hid hhr; have HHO := Lib.hid hho; have HST := Lib.hid hst; have HRD := Lib.hid hrd; have HHR1 := Lib.hid hhr1; have HHO1 := Lib.hid hho1; have HU := Lib.hid hu; have HX := Lib.hid hx
                clear hha hhr hho hst hrd hhr1 hho1 hu hx
                clear hr hcell hcs hbF hq1 hq2 hup
                go_upto_region 19 with fail
                go_cut [12] (fun s12 wc => s12 = .bool (!q1 && !q2) ∧ wc = W4)
                case first =>
                  go_wp2_with fail
                  refine HHR1.out.mono ?_
                  rintro e w' ⟨rfl, rfl⟩
                  cases q1 with
                  | true =>
                    go_wp2_with fail
                    go_meet
                    exact ⟨rfl, rfl⟩
                  | false =>
                    go_wp2_with fail
                    refine HHO1.out.mono ?_
                    rintro e w' ⟨rfl, rfl⟩
                    go_wp2_with fail
                    go_meet
                    exact ⟨by simp, rfl⟩
                case rest =>
                obtain ⟨rfl, rfl⟩ := hcut
                generalize (!q1 && !q2) = q0 at *
                obtain ⟨_, _, _, _, _, hul, _⟩ := HU.out.form
                clear HHR1 HHO1
                go_wp2_with fail
                go_loopg [12, 13, 14] x.uses.length (fun gg s12 s13 _ wr => ∃ (j : Nat) (r : Bool), j ≤ x.uses.length ∧ x.uses.length - j ≤ gg ∧ s13 = .int .i64 j ∧ s12 = .bool r ∧ wr = wc ∧ Aside (r = (q0 && (x.uses.take j).all (useFine l (orderTo l ss)))))
                case atStart => exact ⟨0, q0, Nat.zero_le _, by omega, rfl, rfl, rfl, aside (by simp)⟩
                case round =>
                  obtain ⟨j, r, hj, hg5, rfl, rfl, rfl, hrr⟩ := hrel
                  obtain ⟨W4, rfl⟩ : ∃ W, W = wr := ⟨_, rfl⟩
                  by_cases hlt3 : j < x.uses.length
                  · have hltz3 : (j : Int) < (x.uses.length : Int) := by omega
                    obtain ⟨b2, off2, cs, rfl, hbF, hcs, ⟨rfl, hoy⟩, hcell⟩ := HU.out.at_ hlt3
                    have hc0 := hcell 0 _ rfl
                    simp only [Nat.mul_one, Nat.add_zero] at hc0
                    have hy := List.getElem?_eq_getElem hlt3
                    generalize x.uses[j] = u at *
                    have hnew : ∀ r', r' = (r && useFine l (orderTo l ss) u) → r' = (q0 && (x.uses.take (j + 1)).all (useFine l (orderTo l ss))) := fun r' h => by
                      rw [h, List.take_add_one, hy, Option.toList_some, List.all_append, ← Bool.and_assoc, ← hrr.out]; simp
                    have huf : useFine l (orderTo l ss) u = (!(hasS (l.map Node.name) u) || (hasS (roundsOf l) u || hasS (orderTo l ss) u)) := rfl
                    have hha := HHA.out u
                    have hhr := HHR.out u
                    have hho := HHO.out u
                    obtain ⟨qa, hqa⟩ : ∃ q, hasS (l.map Node.name) u = q := ⟨_, rfl⟩
                    obtain ⟨qr, hqr⟩ : ∃ q, hasS (roundsOf l) u = q := ⟨_, rfl⟩
                    obtain ⟨qo, hqo⟩ : ∃ q, hasS (orderTo l ss) u = q := ⟨_, rfl⟩
                    rw [hqa] at hha huf
                    rw [hqr] at hhr huf
                    rw [hqo] at hho huf
                    rw [huf] at hnew
                    have HHA1 := Lib.hid hha; have HHR1 := Lib.hid hhr; have HHO1 := Lib.hid hho; have HNEW := Lib.hid hnew
                    clear hha hhr hho hnew
                    clear hcell hcs hbF hqa hqr hqo huf hy
                    cases r with
                    | false =>
                      go_wp2_with fail
                      go_roundg (x.uses.length - (j + 1))
                      case measure => omega
                      case rel => exact ⟨j + 1, false, by omega, by omega, by go_num, rfl, rfl, aside (HNEW.out _ rfl)⟩
                    | true =>
                      go_wp2_with fail
                      refine HHA1.out.mono ?_
                      rintro e w' ⟨rfl, rfl⟩
                      cases qa with
                      | false =>
                        go_wp2_with fail
                        go_roundg (x.uses.length - (j + 1))
                        case measure => omega
                        case rel => exact ⟨j + 1, true, by omega, by omega, by go_num, rfl, rfl, aside (HNEW.out _ rfl)⟩
                      | true =>
                        go_wp2_with fail
                        refine HHR1.out.mono ?_
                        rintro e w' ⟨rfl, rfl⟩
                        cases qr with
                        | true =>
                          go_wp2_with fail
                          go_roundg (x.uses.length - (j + 1))
                          case measure => omega
                          case rel => exact ⟨j + 1, true, by omega, by omega, by go_num, rfl, rfl, aside (HNEW.out _ rfl)⟩
                        | false =>
                          go_wp2_with fail
                          refine HHO1.out.mono ?_
                          rintro e w' ⟨rfl, rfl⟩
                          go_wp2_with fail
                          go_roundg (x.uses.length - (j + 1))
                          case measure => omega
                          case rel => exact ⟨j + 1, qo, by omega, by omega, by go_num, rfl, rfl, aside (HNEW.out _ (by simp))⟩
                  · have hltz3 : ¬ (j : Int) < (x.uses.length : Int) := by omega
                    obtain rfl : j = x.uses.length := by omega
                    have hrd : readyR l (orderTo l ss) x = r := by rw [HRD.out, hrr.out, List.take_length]
                    cases r with
                    | false =>
                      have HNR2 := Lib.hid (seen_snoc2 HX.out hrd hNR.out)
                      clear hrr hrd HRD hNR
                      go_wp2_with fail
                      go_roundg (l.length - (i + 1))
                      case measure => omega
                      case rel => exact ⟨i + 1, by omega, by omega, by go_num, rfl, rfl, aside HNR2.out⟩
                    | true =>
                      have hst2 := HST.out hrd
                      have HST2 := Lib.hid hst2
                      clear hst2
                      clear hrr hrd HRD hNR
                      go_wp2_with (at_builtin; go_must ((refine wpList_push StrR.stays (.string ⟨#[]⟩) [.string x.name] x.name rfl rfl Try.underlying23 (bytes := 16) (by kernel_rfl) HO3.out rfl rfl (by decide) rfl rfl (show StrR W4 none_ _ _ from ⟨rfl, hox⟩) (StrR.one (w := W4) (F := none_) _ _ ⟨rfl, hox⟩) (fun k hk => hk.elim) (by unfold maxLen; have := HOL.out; omega) (by have := HOL.out; omega) HB3.out.size ?_); (intro A7 c7 W7 hO7 hg7 hl7; have HO7 := Lib.hid (strs_of hO7); have HB7 := Lib.hid (HB3.out.trans (hg7.below (B := W2.heap.size) (Nat.le_refl _) HB3.out.size)); clear hO7 hg7 hl7)))
                      go_roundg (l.length - (ss + 1))
                      case measure => omega
                      case rel => exact ⟨ss + 1, _, c7, A7, by omega, by omega, by go_num, rfl, aside (by rw [HST2.out]; simp), aside (by rw [HST2.out]; exact HO7.out), aside HB7.out⟩
              · have hltz2 : ¬ (i : Int) < (l.length : Int) := by omega
                obtain rfl : i = l.length := by omega
                have hst2 : orderTo l (ss + 1) = orderTo l ss := order_stop HR.out hNR.out
                have HST2 := Lib.hid hst2
                clear hst2
                clear hNR
                go_wp2_with fail
                go_roundg (l.length - (ss + 1))
                case measure => omega
                case rel => exact ⟨ss + 1, _, c3, A3, by omega, by omega, by go_num, rfl, aside (by rw [HST2.out]), aside (by rw [HST2.out]; exact HO3.out), aside HB3.out⟩
          · have hltz : ¬ (ss : Int) < (l.length : Int) := by omega
            obtain rfl : ss = l.length := by omega
            have hbw := HBW.out.trans (BW3.out.mono HBW.out.size)
            have hol := orderTo_le l l.length
            have hs1 := hO3.out.slice StrR.stays (by_ := 16) (F' := fresh w.heap.size W3.heap.size) (fun k hk => hk.elim) (fun k h1 h2 => ⟨by have := HBW.out.size; omega, h2⟩) (by omega) (by omega)
            have hs2 := (HUP.out W3 BW3.out).2.stays StrR.stays (F' := fresh w.heap.size W3.heap.size) (fun k hk => ⟨hk.1, Nat.lt_of_lt_of_le hk.2 BW3.out.size⟩) (Keeps.refl _ _)
            have HS1 := Lib.hid hs1; have HS2 := Lib.hid hs2; have HBWE := Lib.hid hbw
            clear hs1 hs2 hbw
            clear hO3 BW3 hn3
            go_wp2_with fail
            go_ret3
            exact ⟨_, _, rfl, HBWE.out, HS1.out, HS2.out⟩
  · have hCz : (z == 0) = false := by simp [hz0]
    have HB1 := Lib.hid hb1
    clear hb1
    clear HCK HLD
    go_wp2_with fail
    go_ret3
    exact ⟨_, _, rfl, HB1.out, SliceOf.nil_, SliceOf.nil_⟩

end Go.Proofs.Ytejiaimcgmpliaa
