/- The types of a module, by their names; what is wrong with others: the reference's TypesOf. -/
import Derived.Test.YtoejhgbndehaiaaTypeAll
import Derived.Test.YtoejhgbndehaiaaAliasUse
import Derived.Test.YtoejhgbndehaiaaSolveRef
import Derived.Test.YtoejhgbndehaiaaSolvedOf
import Derived.Handy
namespace Go.Proofs.Ytoejhgbndehaiaa
open Go.RowKit Go.Shelf

theorem knownR_one {d : Known} : ∀ u ∈ [Value.string d.name, .string d.is_], u.oneCell' = true := by
  intro u hu
  simp only [List.mem_cons, List.not_mem_nil, or_false] at hu
  rcases hu with rfl | rfl <;> rfl

theorem gt_ltS (a b : ByteArray) : (!Op.bytesLess a.toList b.toList && !(a.toList == b.toList)) = ltS b a := by
  have h1 : Op.bytesLess a.toList b.toList = ltS a b := rfl
  rw [h1]
  cases h : ltS b a with
  | true =>
    have h2 := ltS_asymm h
    have h3 := ltS_ne h
    have h4 : (a.toList == b.toList) = false := by
      rw [beq_eq_false_iff_ne]
      intro e
      rw [ByteArray.toList_eq, ByteArray.toList_eq] at e
      exact h3 (data_inj e).symm
    rw [h2, h4]; rfl
  | false =>
    cases h2 : ltS a b with
    | true => rfl
    | false =>
      obtain rfl := ltS_total h2 h
      simp

theorem Owns.at_ {α : Type} {R : CR α} {sz base : Nat} {e : TypeId} {F : Foot} {w : World} {A : Option Addr} {n c : Nat} {l : List α} {k : Nat} (h : Owns R sz e base w F (.slice A n c) l) (hk : k < l.length) :
    ∃ b off cs, A = some ⟨b, off, none⟩ ∧ b < w.heap.size ∧ (Value.slice A n c).ownBlock = some b ∧ cs.length = sz ∧ R w F cs l[k] ∧ ∀ j u, cs[j]? = some u → w.cell? ⟨b, off + k * sz + j, none⟩ = some u := by
  obtain ⟨xs, h1, h2, _⟩ := h
  rcases h1.2 with ⟨_, h0⟩ | ⟨g, cap, cur, hv, hb, hcell, hlen, hcap, hcs, htk⟩
  · omega
  · injection hv with hv1 hv2 hv3
    subst hv1
    obtain ⟨cs, k1, k2, k3⟩ := h2.2 k l[k] (List.getElem?_eq_getElem hk)
    refine ⟨g, 0, cs, rfl, (Array.getElem?_eq_some_iff.1 hcell).1, rfl, k1, k2, fun j u hj => ?_⟩
    have h4 := k3 j u hj
    have hlt : k * sz + j < xs.length := (List.getElem?_eq_some_iff.1 h4).1
    rw [← htk, List.getElem?_take_of_lt (by rw [h1.1] at hlt; exact hlt)] at h4
    simp only [World.cell?, hcell, Nat.zero_add]
    simpa using h4

set_option maxRecDepth 100000 in
set_option maxHeartbeats 16000000 in
theorem typesOf_any (m : Module) (l : List Import) (hm0 : modErr m = 0) (hl0 : importsErr l = 0) (ds : List Value) (lv : Value) (w : World)
    (hm : ModuleR w (old w.heap.size) ds m) (hl : SliceOf ImportR 4 72 w (old w.heap.size) lv l) :
    Calls Try.prog 11 #[.agg ds.toArray, lv] w fun e w' => ∃ v1 v2 : Value, e = .returned (.tuple #[v1, v2]) ∧ Below w.heap.size w w' ∧ SliceOf KnownR 2 32 w' (fresh w.heap.size w'.heap.size) v1 (typesOf m l) ∧ SliceOf DiagR 2 24 w' (fresh w.heap.size w'.heap.size) v2 (typesBad m l) := by
  obtain ⟨U1, u1, T1, e1, T2, e2, rfl, _, hT, _⟩ := ModuleR.form hm
  obtain ⟨L1, l1, rfl, _⟩ := hl.form
  have h24 := modErr_small hm0
  have hsv := fun (U : World) (p : Ty) (cs : List Value) (hU : Below w.heap.size w U) (hp : tyErr 10 p = 0) (hr : TyR U (old U.heap.size) cs p) =>
    solvedOf_any m l hm0 hl0 10 ⟨#[]⟩ p [.slice U1 m.uses.length u1, .slice T1 m.types.length e1, .slice T2 m.funcs.length e2] cs (.slice L1 l.length l1) U hp (Nat.le_refl _) (now_up ModuleR.stays hm hU) (now_lup ImportR.stays hl hU) hr
  have hta := fun (U : World) (t : ByteArray) (hU : Below w.heap.size w U) =>
    typeAt_any m t [.slice U1 m.uses.length u1, .slice T1 m.types.length e1, .slice T2 m.funcs.length e2] (old U.heap.size) U old_lt (now_up ModuleR.stays hm hU)
  have hnf : ∀ x ∈ m.types, nameOk x.name = true := fun x hx => (fieldErr_fine (eachErr_zero (mod_zero hm0).1 x hx)).1
  have hst := small_of_err hl0
  have hTc := hT.caps
  have ht64 : m.types.length ≤ 24 := by omega
  have HSV := Lib.hid hsv; have HTA := Lib.hid hta; have HNF := Lib.hid hnf; have HST := Lib.hid hst; have HT := Lib.hid hT; have H24 := Lib.hid h24
  clear hsv hta hnf hst hT h24
  clear hm hl hm0 hl0
  go_enter Try.func11, Try.ntmps11
  go_wp2_with fail
  have hBb := Box.made w 39 #[.slice U1 m.uses.length u1, .slice T1 m.types.length e1, .slice T2 m.funcs.length e2]
  have hbb : Below w.heap.size w (w.alloc (.cells #[.slice U1 m.uses.length u1, .slice T1 m.types.length e1, .slice T2 m.funcs.length e2] 39)) := by go_grown
  have hzb : (w.alloc (.cells #[.slice U1 m.uses.length u1, .slice T1 m.types.length e1, .slice T2 m.funcs.length e2] 39)).heap.size = w.heap.size + 1 := by simp
  generalize w.alloc (.cells #[.slice U1 m.uses.length u1, .slice T1 m.types.length e1, .slice T2 m.funcs.length e2] 39) = W1 at hBb hbb hzb ⊢
  have HB := Lib.hid hBb; have Hb := Lib.hid hbb; have Hz := Lib.hid hzb
  clear hBb hbb hzb
  go_loopg [6, 7, 8, 9, 10, 11, 12, 13, 14] m.types.length (fun gg s6 s7 s8 s9 s10 s11 s12 s13 s14 wr => ∃ (kk n c n2 c2 : Nat) (A A2 : Option Addr), kk ≤ m.types.length ∧ m.types.length - kk ≤ gg ∧ s8 = .int .i64 kk ∧ s6 = .slice A n c ∧ s7 = .slice A2 n2 c2 ∧ Aside (n = (sortBy Known.name (goodTo m l kk)).length) ∧ Aside (n2 = (badTo m l kk).length) ∧
    Aside (Owns KnownR 2 68 W1.heap.size wr none_ (.slice A n c) (sortBy Known.name (goodTo m l kk))) ∧ Aside (Owns DiagR 2 64 W1.heap.size wr none_ (.slice A2 n2 c2) (badTo m l kk)) ∧ Aside (Apart (.slice A n c) (.slice A2 n2 c2)) ∧ Aside (Below W1.heap.size W1 wr))
  case atStart => exact ⟨0, 0, 0, 0, 0, none, none, Nat.zero_le _, by omega, rfl, rfl, rfl, aside rfl, aside rfl, aside Owns.nil_, aside Owns.nil_, aside (fun g hg => by cases hg), aside (Below.refl _ _)⟩
  case round =>
    obtain ⟨kk, n, c, n2, c2, A, A2, hkk, hg, rfl, rfl, rfl, hn, hn2, hO, hO2, hap, BW⟩ := hrel
    obtain ⟨wo, rfl⟩ : ∃ W, W = wr := ⟨_, rfl⟩
    have hB1 := HB.out.later BW.out HB.out.lt
    have hbw := Hb.out.trans (BW.out.mono Hb.out.size)
    by_cases hlt : kk < m.types.length
    · have hltz : (kk : Int) < (m.types.length : Int) := by omega
      have hat := now_lup FieldR.stays HT.out hbw
      obtain ⟨bp, offp, cs, hP1, hbF, hcs, hpr, hcell⟩ := hat.at_ (k := kk) hlt
      have hpx := List.getElem?_eq_getElem hlt
      have hnm := HNF.out _ (List.getElem_mem hlt)
      generalize m.types[kk] = p at hpx hpr hnm
      obtain ⟨d1, d2, d3, d4, rfl, hpn, hpt⟩ := FieldR.form hpr
      have hc0 := hcell 0 _ rfl
      simp only [Nat.add_zero] at hc0
      subst hP1
      have hg4 := goodTo_le (m := m) (l := l) kk
      have hg5 : (sortBy Known.name (goodTo m l kk)).length ≤ kk := by rw [sortBy_length]; exact hg4
      have hb4 := badTo_le (m := m) (l := l) kk
      have hp0 := fun h => typeCode_seen (l := l) hpx h
      have hp1 := fun h => typeCode_new (l := l) hpx h
      have hq0 := fun h => goodTo_bad (l := l) hpx h
      have hq1 := fun h => badTo_bad (l := l) hpx h
      have hq2 := fun h => goodTo_good (l := l) hpx h
      have hq3 := fun h => badTo_good (l := l) hpx h
      have hfl := fidx_lt hpx
      obtain ⟨za, hza⟩ : ∃ z, (m.types.take kk).any (fieldIs p.name) = z := ⟨_, rfl⟩
      rw [hza] at hp0 hp1 hfl
      have hnt := nameTy_fine hnm
      have htr : TyR wo (old wo.heap.size) [.int .i64 4, .string ⟨#[]⟩, .string p.name, .slice none 0 0] (nameTy p.name) := ⟨1, _, rfl, (show I64 4 from ⟨by decide, by decide⟩), Nat.zero_le _, hpn, SliceOf.nil_⟩
      have hsv := HSV.out wo (nameTy p.name) _ hbw hnt htr
      have hsz := typeTxt_small (m := m) HST.out p.name
      have hci := typeCode_i64 (m := m) (l := l) ⟨#[]⟩ (nameTy p.name)
      generalize solveOf m l ⟨#[]⟩ (nameTy p.name) = r at hsv hsz hci hp1 hq2
      obtain ⟨S, C⟩ := r
      dsimp only at hsv hsz hci hp1 hq2
      have hoS : okS S := by unfold okS; omega
      have y0 := hB1.at_ 0 _ rfl
      have y1 := hB1.at_ 1 _ rfl
      have y2 := hB1.at_ 2 _ rfl
      have HC1 := Lib.hid hB1; have HBw := Lib.hid hbw; have HPN := Lib.hid hpn; have HP0 := Lib.hid hp0; have HP1 := Lib.hid hp1; have HQ0 := Lib.hid hq0; have HQ1 := Lib.hid hq1; have HQ2 := Lib.hid hq2; have HQ3 := Lib.hid hq3; have HFL := Lib.hid hfl; have HG4 := Lib.hid hg4; have HG5 := Lib.hid hg5; have HB4 := Lib.hid hb4; have HSVP := Lib.hid hsv; have HOS := Lib.hid hoS; have HCI := Lib.hid hci
      clear hB1 hbw hpn hp0 hp1 hq0 hq1 hq2 hq3 hfl hg4 hg5 hb4 hsv hoS hci
      clear hpr hcell hcs hbF hpt hat hnm hnt htr hsz hpx
      go_wp2_with fail
      refine HSVP.out.mono ?_
      rintro e W6 ⟨rfl, hb6⟩
      have hB1 := HC1.out.later hb6 HC1.out.lt
      have hbw6 := HBw.out.trans (hb6.mono HBw.out.size)
      have hta := HTA.out W6 p.name hbw6
      have hb16 := BW.out.trans (hb6.mono BW.out.size)
      have hO6 := hO.out.below KnownR.stays hb6
      have hO26 := hO2.out.below DiagR.stays hb6
      clear y0 y1 y2 hc0 HSVP hb6
      have y0 := hB1.at_ 0 _ rfl
      have y1 := hB1.at_ 1 _ rfl
      have y2 := hB1.at_ 2 _ rfl
      generalize fidx (fieldIs p.name) m.types = fi at hta HFL
      have HC6 := Lib.hid hB1; have HBw6 := Lib.hid hbw6; have HB6 := Lib.hid hb16; have HO6 := Lib.hid hO6; have HO26 := Lib.hid hO26; have HTAP := Lib.hid hta
      clear hB1 hbw6 hb16 hO6 hO26 hta
      clear HC1 HBw BW hO hO2
      go_wp2_with fail
      refine HTAP.out.mono ?_
      rintro e W7 ⟨rfl, hb7⟩
      have hbw7 := HBw6.out.trans (hb7.mono HBw6.out.size)
      have hb17 := HB6.out.trans (hb7.mono HB6.out.size)
      have hO7 := HO6.out.below KnownR.stays hb7
      have hO27 := HO26.out.below DiagR.stays hb7
      clear y0 y1 y2 HTAP hb7
      have hfl := HFL.out
      have HBw7 := Lib.hid hbw7; have HB7 := Lib.hid hb17; have HO7 := Lib.hid hO7; have HO27 := Lib.hid hO27
      clear hbw7 hb17 hO7 hO27
      clear HC6 HBw6 HB6 HO6 HO26 HFL
      cases za with
      | true =>
        have hcode := HP0.out rfl
        have hq0 := HQ0.out (by rw [hcode]; decide)
        have hq1 := HQ1.out (by rw [hcode]; decide)
        rw [hcode] at hq1
        have HQ0' := Lib.hid hq0; have HQ1' := Lib.hid hq1
        clear hq0 hq1
        clear HP0 HP1 HQ0 HQ1 HQ2 HQ3 hcode
        go_wp2_with (at_builtin; go_must ((refine wpList_push DiagR.stays (.agg #[.string ⟨#[]⟩, .int .i64 0]) [.string p.name, .int .i64 4] ⟨p.name, 4⟩ rfl rfl Try.underlying31 (bytes := 24) (by kernel_rfl) HO27.out rfl rfl (by decide) rfl rfl (show DiagR W7 none_ _ _ from ⟨rfl, HPN.out, (show I64 4 from ⟨by decide, by decide⟩)⟩) (diag_one (d := ⟨p.name, 4⟩)) (fun k hk => hk.elim) (by unfold maxLen; have := HB4.out; omega) (by have := HB4.out; omega) (by have := HB7.out.size; omega) ?_); (intro A8 c8 W8 hO8 hgr hloc; have hb8 := HB7.out.trans (hgr.below (B := W1.heap.size) (Nat.le_refl _) HB7.out.size); have hO9 := HO7.out.grew KnownR.stays hgr hap.out; have hap8 := hap.out.symm.push hloc (fun g hg => (HO7.out.row hg).2); have HO8 := Lib.hid hO8; have HO9 := Lib.hid hO9; have HB8 := Lib.hid hb8; have HAP := Lib.hid hap8; clear hO8 hgr hb8 hO9 hap8 hloc)))
        go_roundg (m.types.length - (kk + 1))
        case measure => omega
        case rel =>
          exact ⟨kk + 1, n, c, (badTo m l kk).length + 1, c8, A, A8, by omega, by omega, by go_num, rfl, rfl, aside (by rw [HQ0'.out]; exact hn.out), aside (by rw [HQ1'.out]; simp), aside (by rw [HQ0'.out]; exact HO9.out), aside (by rw [HQ1'.out]; exact Owns.wider DiagR.stays HO8.out (fun k hk => hk.elim id id) (fun k hk => hk.elim)), aside HAP.out.symm, aside HB8.out⟩
      | false =>
        have hcode := HP1.out rfl
        by_cases hC : C = 0
        · subst hC
          have hq2 := HQ2.out hcode
          have hq3 := HQ3.out hcode
          have HQ2' := Lib.hid hq2; have HQ3' := Lib.hid hq3
          clear hq2 hq3
          clear HP0 HP1 HQ0 HQ1 HQ2 HQ3 hcode
          obtain ⟨lo, hlo⟩ : ∃ z, sortBy Known.name (goodTo m l kk) = z := ⟨_, rfl⟩
          rw [hlo] at HO7 HG5 hn
          obtain ⟨bd, hbd⟩ : ∃ z, badTo m l kk = z := ⟨_, rfl⟩
          rw [hbd] at HO27 HB4 hn2
          have hn' : n = lo.length := hn.out
          subst hn'
          have HLO := Lib.hid hlo; have HBD := Lib.hid hbd
          clear hlo hbd
          go_wp2_with fail
          go_loopg [12, 13, 14] lo.length (fun gg s12 s13 s14 wr => ∃ (jj nb cb : Nat) (B : Option Addr) (P : List Known) (d : Bool), jj ≤ lo.length ∧ lo.length - jj ≤ gg ∧ s14 = .int .i64 jj ∧ s12 = .slice B nb cb ∧ s13 = .bool d ∧ Aside (nb = P.length) ∧ Aside (insTo Known.name ⟨p.name, S⟩ lo jj = (P, d)) ∧
            Aside (Owns KnownR 2 68 W1.heap.size wr none_ (.slice B nb cb) P) ∧ Aside (Owns KnownR 2 68 W1.heap.size wr none_ (.slice A lo.length c) lo) ∧ Aside (Owns DiagR 2 64 W1.heap.size wr none_ (.slice A2 n2 c2) bd) ∧ Aside (Apart (.slice B nb cb) (.slice A lo.length c)) ∧ Aside (Apart (.slice B nb cb) (.slice A2 n2 c2)) ∧ Aside (Below W1.heap.size W1 wr))
          case atStart => exact ⟨0, 0, 0, none, [], false, Nat.zero_le _, by omega, rfl, rfl, rfl, aside rfl, aside insTo_zero, aside Owns.nil_, aside HO7.out, aside HO27.out, aside (fun g hg => by cases hg), aside (fun g hg => by cases hg), aside HB7.out⟩
          case round =>
            obtain ⟨jj, nb, cb, B, P, d, hjj, hg2, rfl, rfl, rfl, hnb, hin, hO, hOo, hOd, ha1, ha2, BW⟩ := hrel
            have hpl : P.length ≤ jj + 1 := by have h := insTo_small (f := Known.name) (y := ⟨p.name, S⟩) (l := lo) jj; rw [hin.out] at h; exact h
            have hnb' : nb = P.length := hnb.out
            subst hnb'
            have hg5 := HG5.out
            have hpl' : P.length ≤ 25 := by omega
            by_cases hltj : jj < lo.length
            · have hltzj : (jj : Int) < (lo.length : Int) := by omega
              obtain ⟨bo, off, cs, hA, hbo, hob, hcs, ⟨rfl, hxn, hxi⟩, hcell⟩ := hOo.out.at_ hltj
              have hx := List.getElem?_eq_getElem hltj
              generalize lo[jj] = x at hx hxn hxi hcell hcs
              have hc0 := hcell 0 _ rfl
              have hc1 := hcell 1 _ rfl
              simp only [Nat.add_zero] at hc0
              subst hA
              have hs := insTo_succ (f := Known.name) (y := ⟨p.name, S⟩) hx
              rw [hin.out] at hs
              have hne : some bo ≠ (Value.slice B P.length cb).ownBlock := fun e => ha1.out.symm bo hob e.symm
              have HS := Lib.hid hs; have HX := Lib.hid hx; have HXN := Lib.hid hxn; have HXI := Lib.hid hxi; have HNE := Lib.hid hne
              clear hs hx hxn hxi hne
              clear hcell hcs
              cases d with
              | true =>
                go_wp2_with (at_builtin; go_must ((refine wpList_push KnownR.stays (.agg #[.string ⟨#[]⟩, .string ⟨#[]⟩]) [.string x.name, .string x.is_] x rfl rfl Try.underlying27 (bytes := 32) (by kernel_rfl) hO.out rfl rfl (by decide) rfl rfl (show KnownR _ none_ _ _ from ⟨rfl, HXN.out, HXI.out⟩) (knownR_one (d := x)) (fun k hk => hk.elim) (by unfold maxLen; omega) (by omega) (by have := BW.out.size; omega) ?_); (intro A8 c8 W8 hO8 hgr hloc; have hb8 := BW.out.trans (hgr.below (B := W1.heap.size) (Nat.le_refl _) BW.out.size); have hOo8 := hOo.out.grew KnownR.stays hgr ha1.out.symm; have hOd8 := hOd.out.grew DiagR.stays hgr ha2.out.symm; have ha18 := ha1.out.push hloc (fun g hg => (hOo.out.row hg).2); have ha28 := ha2.out.push hloc (fun g hg => (hOd.out.row hg).2); have HO8 := Lib.hid hO8; have HOo8 := Lib.hid hOo8; have HOd8 := Lib.hid hOd8; have HB8 := Lib.hid hb8; have HA1 := Lib.hid ha18; have HA2 := Lib.hid ha28; clear hO8 hgr hb8 hOo8 hOd8 ha18 ha28 hloc)))
                go_roundg (lo.length - (jj + 1))
                case measure => omega
                case rel =>
                  exact ⟨jj + 1, P.length + 1, c8, A8, P ++ [x], true, by omega, by omega, by go_num, rfl, rfl, aside (by simp), aside (HS.out.trans (insStep_done P)), aside (Owns.wider KnownR.stays HO8.out (fun k hk => hk.elim id id) (fun k hk => hk.elim)), aside HOo8.out, aside HOd8.out, aside HA1.out, aside HA2.out, aside HB8.out⟩
              | false =>
                cases hq : (!Op.bytesLess x.name.toList p.name.toList && !(x.name.toList == p.name.toList)) with
                | false =>
                  have hq' : ltS p.name x.name = false := (gt_ltS _ _).symm.trans hq
                  have HQ := Lib.hid hq'; clear hq'
                  go_wp2_with (at_builtin; go_must ((refine wpList_push KnownR.stays (.agg #[.string ⟨#[]⟩, .string ⟨#[]⟩]) [.string x.name, .string x.is_] x rfl rfl Try.underlying27 (bytes := 32) (by kernel_rfl) hO.out rfl rfl (by decide) rfl rfl (show KnownR _ none_ _ _ from ⟨rfl, HXN.out, HXI.out⟩) (knownR_one (d := x)) (fun k hk => hk.elim) (by unfold maxLen; omega) (by omega) (by have := BW.out.size; omega) ?_); (intro A8 c8 W8 hO8 hgr hloc; have hb8 := BW.out.trans (hgr.below (B := W1.heap.size) (Nat.le_refl _) BW.out.size); have hOo8 := hOo.out.grew KnownR.stays hgr ha1.out.symm; have hOd8 := hOd.out.grew DiagR.stays hgr ha2.out.symm; have ha18 := ha1.out.push hloc (fun g hg => (hOo.out.row hg).2); have ha28 := ha2.out.push hloc (fun g hg => (hOd.out.row hg).2); have HO8 := Lib.hid hO8; have HOo8 := Lib.hid hOo8; have HOd8 := Lib.hid hOd8; have HB8 := Lib.hid hb8; have HA1 := Lib.hid ha18; have HA2 := Lib.hid ha28; clear hO8 hgr hb8 hOo8 hOd8 ha18 ha28 hloc)))
                  go_roundg (lo.length - (jj + 1))
                  case measure => omega
                  case rel =>
                    exact ⟨jj + 1, P.length + 1, c8, A8, P ++ [x], false, by omega, by omega, by go_num, rfl, rfl, aside (by simp), aside (HS.out.trans (insStep_low P HQ.out)), aside (Owns.wider KnownR.stays HO8.out (fun k hk => hk.elim id id) (fun k hk => hk.elim)), aside HOo8.out, aside HOd8.out, aside HA1.out, aside HA2.out, aside HB8.out⟩
                | true =>
                  have hq' : ltS p.name x.name = true := (gt_ltS _ _).symm.trans hq
                  have HQ := Lib.hid hq'; clear hq'
                  go_upto_region 20 with (at_builtin; go_must ((refine wpList_push KnownR.stays (.agg #[.string ⟨#[]⟩, .string ⟨#[]⟩]) [.string p.name, .string S] ⟨p.name, S⟩ rfl rfl Try.underlying27 (bytes := 32) (by kernel_rfl) hO.out rfl rfl (by decide) rfl rfl (show KnownR _ none_ _ _ from ⟨rfl, HPN.out, HOS.out⟩) (knownR_one (d := ⟨p.name, S⟩)) (fun k hk => hk.elim) (by unfold maxLen; omega) (by omega) (by have := BW.out.size; omega) ?_); (intro A7 c7 W7' hO7' hgr hloc; have hb8 := BW.out.trans (hgr.below (B := W1.heap.size) (Nat.le_refl _) BW.out.size); have hOo8 := hOo.out.grew KnownR.stays hgr ha1.out.symm; have hOd8 := hOd.out.grew DiagR.stays hgr ha2.out.symm; have ha18 := ha1.out.push hloc (fun g hg => (hOo.out.row hg).2); have ha28 := ha2.out.push hloc (fun g hg => (hOd.out.row hg).2); have z0 := (World.cell?_of_block (a := ⟨bo, off + jj * 2, none⟩) (hgr.block bo hbo HNE.out)).trans hc0; have z1 := (World.cell?_of_block (a := ⟨bo, off + jj * 2 + 1, none⟩) (hgr.block bo hbo HNE.out)).trans hc1; clear hc0 hc1; have HO7' := Lib.hid (Owns.wider KnownR.stays hO7' (F' := none_) (fun k hk => hk.elim id id) (fun k hk => hk.elim)); have HOo7 := Lib.hid hOo8; have HOd7 := Lib.hid hOd8; have HB7' := Lib.hid hb8; have HA17 := Lib.hid ha18; have HA27 := Lib.hid ha28; clear hO7' hgr hb8 hOo8 hOd8 ha18 ha28 hloc)))
                  have hpl1 : (P ++ [(⟨p.name, S⟩ : Known)]).length = P.length + 1 := by simp
                  go_wp2_with (at_builtin; go_must ((refine wpList_push KnownR.stays (.agg #[.string ⟨#[]⟩, .string ⟨#[]⟩]) [.string x.name, .string x.is_] x rfl rfl Try.underlying27 (bytes := 32) (by kernel_rfl) HO7'.out rfl rfl (by decide) rfl rfl (show KnownR _ none_ _ _ from ⟨rfl, HXN.out, HXI.out⟩) (knownR_one (d := x)) (fun k hk => hk.elim) (by unfold maxLen; omega) (by omega) (by have := HB7'.out.size; omega) ?_); (intro A8 c8 W8 hO8 hgr hloc; have hb8 := HB7'.out.trans (hgr.below (B := W1.heap.size) (Nat.le_refl _) HB7'.out.size); have hOo8 := HOo7.out.grew KnownR.stays hgr HA17.out.symm; have hOd8 := HOd7.out.grew DiagR.stays hgr HA27.out.symm; have ha18 := HA17.out.push hloc (fun g hg => (HOo7.out.row hg).2); have ha28 := HA27.out.push hloc (fun g hg => (HOd7.out.row hg).2); have HO8 := Lib.hid hO8; have HOo8 := Lib.hid hOo8; have HOd8 := Lib.hid hOd8; have HB8 := Lib.hid hb8; have HA1 := Lib.hid ha18; have HA2 := Lib.hid ha28; clear hO8 hgr hb8 hOo8 hOd8 ha18 ha28 hloc)))
                  go_roundg (lo.length - (jj + 1))
                  case measure => omega
                  case rel =>
                    exact ⟨jj + 1, P.length + 1 + 1, c8, A8, P ++ [⟨p.name, S⟩, x], true, by omega, by omega, by go_num, rfl, rfl, aside (by simp), aside (HS.out.trans (insStep_hit P HQ.out)), aside (by have h := Owns.wider KnownR.stays HO8.out (F' := none_) (fun k hk => hk.elim id id) (fun k hk => hk.elim); rw [hpl1] at h; simpa using h), aside HOo8.out, aside HOd8.out, aside (by have h := HA1.out; rw [hpl1] at h; exact h), aside (by have h := HA2.out; rw [hpl1] at h; exact h), aside HB8.out⟩
            · have hltzj : ¬ (jj : Int) < (lo.length : Int) := by omega
              obtain rfl : jj = lo.length := by omega
              cases d with
              | true =>
                have he := insTo_end_done (f := Known.name) (y := (⟨p.name, S⟩ : Known)) (l := lo) (by rw [hin.out])
                rw [hin.out] at he
                have hnew : sortBy Known.name (goodTo m l (kk + 1)) = P := by rw [HQ2'.out, sortBy_snoc, HLO.out]; exact he.symm
                clear he
                have hbn : badTo m l (kk + 1) = bd := by rw [HQ3'.out, HBD.out]
                have HNEW := Lib.hid hnew; have HBN := Lib.hid hbn
                clear hnew hbn
                go_wp2_with fail
                go_roundg (m.types.length - (kk + 1))
                case measure => omega
                case rel =>
                  exact ⟨kk + 1, P.length, cb, n2, c2, B, A2, by omega, by omega, by go_num, rfl, rfl, aside (by rw [HNEW.out]), aside (by rw [HBN.out]; exact hn2.out), aside (by rw [HNEW.out]; exact hO.out), aside (by rw [HBN.out]; exact hOd.out), aside ha2.out, aside BW.out⟩
              | false =>
                have he := insTo_end_not (f := Known.name) (y := (⟨p.name, S⟩ : Known)) (l := lo) (by rw [hin.out])
                rw [hin.out] at he
                have hnew : sortBy Known.name (goodTo m l (kk + 1)) = P ++ [⟨p.name, S⟩] := by rw [HQ2'.out, sortBy_snoc, HLO.out]; exact he.symm
                clear he
                have hbn : badTo m l (kk + 1) = bd := by rw [HQ3'.out, HBD.out]
                have HNEW := Lib.hid hnew; have HBN := Lib.hid hbn
                clear hnew hbn
                go_wp2_with (at_builtin; go_must ((refine wpList_push KnownR.stays (.agg #[.string ⟨#[]⟩, .string ⟨#[]⟩]) [.string p.name, .string S] ⟨p.name, S⟩ rfl rfl Try.underlying27 (bytes := 32) (by kernel_rfl) hO.out rfl rfl (by decide) rfl rfl (show KnownR _ none_ _ _ from ⟨rfl, HPN.out, HOS.out⟩) (knownR_one (d := ⟨p.name, S⟩)) (fun k hk => hk.elim) (by unfold maxLen; omega) (by omega) (by have := BW.out.size; omega) ?_); (intro A8 c8 W8 hO8 hgr hloc; have hb8 := BW.out.trans (hgr.below (B := W1.heap.size) (Nat.le_refl _) BW.out.size); have hOd8 := hOd.out.grew DiagR.stays hgr ha2.out.symm; have ha28 := ha2.out.push hloc (fun g hg => (hOd.out.row hg).2); have HO8 := Lib.hid hO8; have HOd8 := Lib.hid hOd8; have HB8 := Lib.hid hb8; have HA2 := Lib.hid ha28; clear hO8 hgr hb8 hOd8 ha28 hloc)))
                go_roundg (m.types.length - (kk + 1))
                case measure => omega
                case rel =>
                  exact ⟨kk + 1, P.length + 1, c8, n2, c2, A8, A2, by omega, by omega, by go_num, rfl, rfl, aside (by rw [HNEW.out]; simp), aside (by rw [HBN.out]; exact hn2.out), aside (by rw [HNEW.out]; exact Owns.wider KnownR.stays HO8.out (fun k hk => hk.elim id id) (fun k hk => hk.elim)), aside (by rw [HBN.out]; exact HOd8.out), aside HA2.out, aside HB8.out⟩
        · have hCz : (C == 0) = false := by simp [hC]
          have hq0 := HQ0.out (by rw [hcode]; exact hC)
          have hq1 := HQ1.out (by rw [hcode]; exact hC)
          rw [hcode] at hq1
          have HQ0' := Lib.hid hq0; have HQ1' := Lib.hid hq1
          clear hq0 hq1
          clear HP0 HP1 HQ0 HQ1 HQ2 HQ3 hcode
          go_wp2_with (at_builtin; go_must ((refine wpList_push DiagR.stays (.agg #[.string ⟨#[]⟩, .int .i64 0]) [.string p.name, .int .i64 C] ⟨p.name, C⟩ rfl rfl Try.underlying31 (bytes := 24) (by kernel_rfl) HO27.out rfl rfl (by decide) rfl rfl (show DiagR W7 none_ _ _ from ⟨rfl, HPN.out, HCI.out⟩) (diag_one (d := ⟨p.name, C⟩)) (fun k hk => hk.elim) (by unfold maxLen; have := HB4.out; omega) (by have := HB4.out; omega) (by have := HB7.out.size; omega) ?_); (intro A8 c8 W8 hO8 hgr hloc; have hb8 := HB7.out.trans (hgr.below (B := W1.heap.size) (Nat.le_refl _) HB7.out.size); have hO9 := HO7.out.grew KnownR.stays hgr hap.out; have hap8 := hap.out.symm.push hloc (fun g hg => (HO7.out.row hg).2); have HO8 := Lib.hid hO8; have HO9 := Lib.hid hO9; have HB8 := Lib.hid hb8; have HAP := Lib.hid hap8; clear hO8 hgr hb8 hO9 hap8 hloc)))
          go_roundg (m.types.length - (kk + 1))
          case measure => omega
          case rel =>
            exact ⟨kk + 1, n, c, (badTo m l kk).length + 1, c8, A, A8, by omega, by omega, by go_num, rfl, rfl, aside (by rw [HQ0'.out]; exact hn.out), aside (by rw [HQ1'.out]; simp), aside (by rw [HQ0'.out]; exact HO9.out), aside (by rw [HQ1'.out]; exact Owns.wider DiagR.stays HO8.out (fun k hk => hk.elim id id) (fun k hk => hk.elim)), aside HAP.out.symm, aside HB8.out⟩
    · have hltz : ¬ (kk : Int) < (m.types.length : Int) := by omega
      obtain rfl : kk = m.types.length := by omega
      have hg4 := goodTo_le (m := m) (l := l) m.types.length
      have hb4 := badTo_le (m := m) (l := l) m.types.length
      have hlow := Hz.out
      have y1 := hB1.at_ 1 _ rfl
      have hsl := hO.out.slice KnownR.stays (by_ := 32) (F' := fresh w.heap.size wo.heap.size) (fun k hk => hk.elim) (fun k h1 h2 => ⟨by omega, h2⟩) (by rw [sortBy_length]; omega) (by rw [sortBy_length]; omega)
      have hsl2 := hO2.out.slice DiagR.stays (by_ := 24) (F' := fresh w.heap.size wo.heap.size) (fun k hk => hk.elim) (fun k h1 h2 => ⟨by omega, h2⟩) (by omega) (by omega)
      have HSL := Lib.hid hsl; have HSL2 := Lib.hid hsl2; have HBW6 := Lib.hid hbw
      clear hsl hsl2 hbw
      clear hB1
      go_wp2_with fail
      go_ret2
      exact ⟨_, _, rfl, HBW6.out, HSL.out, HSL2.out⟩

end Go.Proofs.Ytoejhgbndehaiaa
