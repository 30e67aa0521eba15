/- Texts that belong together: TypeWalk, TypesA. -/
import Derived.Test.YtoejhgbndehaiaaTypeAll
import Derived.Test.YtoejhgbndehaiaaAliasUse
import Derived.Test.YtoejhgbndehaiaaSolveRef
import Derived.Test.YtoejhgbndehaiaaSortLays
import Derived.Handy
/- The types of a module, by their names: alias.Types. -/
namespace Go.Proofs.Ytoejhgbndehaiaa
open Go.RowKit Go.Shelf

theorem known_one {d : Known} : ∀ u ∈ [Value.string d.name, .string d.is_], u.oneCell' = true := by
  intro u hu
  simp only [List.mem_cons, List.not_mem_nil, or_false] at hu
  rcases hu with rfl | rfl <;> rfl

set_option maxRecDepth 100000 in
set_option maxHeartbeats 400000 in
theorem typesEq_any (x : Field) (cs : List Value) (F : Foot) (t : ByteArray) (b : Nat) (W : World) (hx : FieldR W F cs x) (ha : W.cell? ⟨b, 0, none⟩ = some (.string t)) :
    Calls Try.prog 23 #[.agg cs.toArray, .pointer (some ⟨b, 0, none⟩)] W fun e w' => e = .returned (.bool (fieldIs t x)) ∧ Below W.heap.size W w' := by
  have hlt := World.block_lt_of_cell? W _ ha
  obtain ⟨c0, c1, c2, c3, rfl, _, ht⟩ := FieldR.form hx
  obtain ⟨A2, n2, hf⟩ := TyR.form ht
  simp only [List.cons.injEq, and_true] at hf
  obtain ⟨rfl, rfl, rfl, rfl⟩ := hf
  clear hx ht
  unfold fieldIs eqB
  go_enter Try.func23, Try.ntmps23
  cases hq : (x.name.toList == t.toList)
  all_goals (go_wp2; go_ret; exact ⟨by simp, by go_grown⟩)

set_option maxHeartbeats 400000 in
theorem typesSeen_any (l : List Field) (T1 : Option Addr) (n e1 : Nat) (_hn : n = l.length) (t : ByteArray) (b : Nat) (F : Foot) (w : World) (hF : ∀ k, F k → k < w.heap.size) (hl : SliceOf FieldR 5 80 w F (.slice T1 n e1) l) (ha : w.cell? ⟨b, 0, none⟩ = some (.string t)) :
    Calls Try.prog 22 #[.slice T1 n e1, .func (.func 23) #[] #[.pointer (some ⟨b, 0, none⟩)]] w fun e w' => e = .returned (.bool (l.any (fieldIs t))) ∧ Below w.heap.size w w' :=
  containsFunc_fields (.slice T1 n e1) l F 23 #[.pointer (some ⟨b, 0, none⟩)] (fieldIs t) w (enters_of Try.func23 (by kernel_rfl) rfl) hF hl (fun U x cs _ hU hr => by
    have h := typesEq_any x cs F t b U hr ((hU.cell (World.block_lt_of_cell? w _ ha)).trans ha)
    obtain ⟨_, _, _, _, rfl, _, _⟩ := FieldR.form hr
    exact h)

set_option maxRecDepth 100000 in
set_option maxHeartbeats 1000000 in
theorem typesCmp_any (s s' t t' : ByteArray) (W : World) : Calls Try.prog 26 #[.agg #[.string s, .string s'], .agg #[.string t, .string t']] W fun e w' => e = .returned (.int .i64 (Lib.compareBytes s.data.toList t.data.toList)) ∧ ∃ q os, w' = Sort.grow (W.drewN q) os := by
  have hcon := fun W' => Try.strings_Compare s t W'
  generalize Lib.compareBytes s.data.toList t.data.toList = r at hcon ⊢
  go_enter Try.func26, Try.ntmps26
  go_wp2_with (go_at_call 27; refine (hcon _).mono ?_; rintro e w' ⟨rfl, rfl⟩)
  go_ret
  exact ⟨rfl, 0, _, by rw [Sort.alloc_eq_grow, Sort.alloc_eq_grow, Sort.grow_grow]; rfl⟩

/-- A Known's cells. -/
def knownCells (cs : List Value) (s : ByteArray) : Prop := ∃ t, cs = [.string s, .string t]
set_option maxHeartbeats 1000000 in
theorem sortKnowns_any {base : Nat} {F : Foot} {w : World} {v : Value} {l : List Known} (h : Owns KnownR 2 68 base w F v l) (hl : l.length ≤ 100) (hd : Apart_ Known.name l) :
    Calls Try.prog 25 #[v, .func (.func 26) #[] #[]] w fun en w' => en = .returned (.tuple #[]) ∧ Owns KnownR 2 68 base w' F v (sortBy Known.name l) ∧ Grew base w w' v.ownBlock := by
  have hcon := sort_owned KnownR.stays Known.name knownCells 2 (by rintro cs s ⟨t, rfl⟩; exact ⟨rfl, by intro u hu; simp only [List.mem_cons, List.not_mem_nil, or_false] at hu; rcases hu with rfl | rfl <;> rfl⟩) (by rintro w F cs x ⟨rfl, _⟩; exact ⟨_, rfl⟩)
    Try.sortKnown Try.isAgg68 Try.sizeOf68 26 (enters_of Try.func26 (by kernel_rfl) rfl)
    (by rintro cs ds s t W ⟨s', rfl⟩ ⟨t', rfl⟩; exact typesCmp_any s s' t t' W) h (by omega)
  change Calls Try.prog 25 _ _ _ at hcon
  refine hcon.mono ?_
  rintro e w' ⟨he, l', hp, hs, hO, hg⟩
  rw [sorted_one hp hd hs] at hO
  exact ⟨he, hO, hg⟩

end Go.Proofs.Ytoejhgbndehaiaa

/- The types of a module, by their names; what is wrong with others: alias.Types. -/
namespace Go.Proofs.Ytoejhgbndehaiaa
open Go.RowKit Go.Shelf

set_option maxRecDepth 100000 in
set_option maxHeartbeats 8000000 in
theorem aliasTypes_any (m : Module) (l : List Import) (hm0 : modErr m = 0) (hl0 : importsErr l = 0) (ds : List Value) (lv : Value) (w : World)
    (hm : ModuleR w (old w.heap.size) ds m) (hl : SliceOf ImportR 4 72 w (old w.heap.size) lv l) :
    Calls Try.prog 10 #[.agg ds.toArray, lv] w fun e w' => ∃ v1 v2 : Value, e = .returned (.tuple #[v1, v2]) ∧ Below w.heap.size w w' ∧ SliceOf KnownR 2 32 w' (fresh w.heap.size w'.heap.size) v1 (typesOf m l) ∧ SliceOf DiagR 2 24 w' (fresh w.heap.size w'.heap.size) v2 (typesBad m l) := by
  obtain ⟨U1, u1, T1, e1, T2, e2, rfl, _, hT, _⟩ := ModuleR.form hm
  obtain ⟨L1, l1, rfl, _⟩ := hl.form
  have h24 := modErr_small hm0
  have hsv := fun (U : World) (p : Ty) (cs : List Value) (hU : Below w.heap.size w U) (hp : tyErr 10 p = 0) (hr : TyR U (old U.heap.size) cs p) =>
    aliasSolve_any m l hm0 hl0 10 ⟨#[]⟩ p [.slice U1 m.uses.length u1, .slice T1 m.types.length e1, .slice T2 m.funcs.length e2] cs (.slice L1 l.length l1) U hp (Nat.le_refl _) (Nat.zero_le _) (now_up ModuleR.stays hm hU) (now_lup ImportR.stays hl hU) hr
  have hnf : ∀ x ∈ m.types, nameOk x.name = true := fun x hx => (fieldErr_fine (eachErr_zero (mod_zero hm0).1 x hx)).1
  have hst := small_of_err hl0
  have hTc := hT.caps
  have ht64 : m.types.length ≤ 24 := by omega
  have HSV := Lib.hid hsv; have HNF := Lib.hid hnf; have HST := Lib.hid hst; have HT := Lib.hid hT; have H24 := Lib.hid h24
  clear hsv hnf hst hT h24
  clear hm hl hm0 hl0
  go_enter Try.func10, Try.ntmps10
  go_wp2_with fail
  have hBb := Box.made w 39 #[.slice U1 m.uses.length u1, .slice T1 m.types.length e1, .slice T2 m.funcs.length e2]
  have hbb : Below w.heap.size w (w.alloc (.cells #[.slice U1 m.uses.length u1, .slice T1 m.types.length e1, .slice T2 m.funcs.length e2] 39)) := by go_grown
  have hzb : (w.alloc (.cells #[.slice U1 m.uses.length u1, .slice T1 m.types.length e1, .slice T2 m.funcs.length e2] 39)).heap.size = w.heap.size + 1 := by simp
  generalize w.alloc (.cells #[.slice U1 m.uses.length u1, .slice T1 m.types.length e1, .slice T2 m.funcs.length e2] 39) = W1 at hBb hbb hzb ⊢
  have HB := Lib.hid hBb; have Hb := Lib.hid hbb; have Hz := Lib.hid hzb
  clear hBb hbb hzb
  go_loopg [6, 7, 8, 9, 10, 11, 15] m.types.length (fun gg s6 s7 s8 s9 s10 s11 s15 wr => ∃ (kk n c n2 c2 : Nat) (A A2 : Option Addr), kk ≤ m.types.length ∧ m.types.length - kk ≤ gg ∧ s15 = .int .i64 kk ∧ s6 = .slice A n c ∧ s7 = .slice A2 n2 c2 ∧ Aside (n = (goodTo m l kk).length) ∧ Aside (n2 = (badTo m l kk).length) ∧
    Aside (Owns KnownR 2 68 W1.heap.size wr none_ (.slice A n c) (goodTo m l kk)) ∧ Aside (Owns DiagR 2 64 W1.heap.size wr none_ (.slice A2 n2 c2) (badTo m l kk)) ∧ Aside (Apart (.slice A n c) (.slice A2 n2 c2)) ∧ Aside (Below W1.heap.size W1 wr))
  case atStart => exact ⟨0, 0, 0, 0, 0, none, none, Nat.zero_le _, by omega, rfl, rfl, rfl, aside rfl, aside rfl, aside Owns.nil_, aside Owns.nil_, aside (fun g hg => by cases hg), aside (Below.refl _ _)⟩
  case round =>
    obtain ⟨kk, n, c, n2, c2, A, A2, hkk, hg, rfl, rfl, rfl, hn, hn2, hO, hO2, hap, BW⟩ := hrel
    have hB1 := HB.out.later BW.out HB.out.lt
    have hbw := Hb.out.trans (BW.out.mono Hb.out.size)
    by_cases hlt : kk < m.types.length
    · have hltz : (kk : Int) < (m.types.length : Int) := by omega
      have hat := now_lup FieldR.stays HT.out hbw
      obtain ⟨bp, offp, cs, hP1, hbF, hcs, hpr, hcell⟩ := hat.at_ (k := kk) hlt
      have hpx := List.getElem?_eq_getElem hlt
      have hnm := HNF.out _ (List.getElem_mem hlt)
      generalize m.types[kk] = p at hpx hpr hnm
      obtain ⟨d1, d2, d3, d4, rfl, hpn, hpt⟩ := FieldR.form hpr
      obtain ⟨A4, n4, hf⟩ := TyR.form hpt
      simp only [List.cons.injEq, and_true] at hf
      obtain ⟨rfl, rfl, rfl, rfl⟩ := hf
      have hc0 := hcell 0 _ rfl
      have hc1 := hcell 1 _ rfl
      have hc2 := hcell 2 _ rfl
      have hc3 := hcell 3 _ rfl
      have hc4 := hcell 4 _ rfl
      simp only [Nat.add_zero] at hc0
      subst hP1
      have hqp : bp < wr.heap.size := hbF
      have htk := hat.take (k := kk) (by omega)
      have htl : (m.types.take kk).length = kk := by simp; omega
      have hg4 := goodTo_le (m := m) (l := l) kk
      have hb4 := badTo_le (m := m) (l := l) kk
      have hp0 := fun h => typeCode_seen (l := l) hpx h
      have hp1 := fun h => typeCode_new (l := l) hpx h
      have hq0 := fun h => goodTo_bad (l := l) hpx h
      have hq1 := fun h => badTo_bad (l := l) hpx h
      have hq2 := fun h => goodTo_good (l := l) hpx h
      have hq3 := fun h => badTo_good (l := l) hpx h
      obtain ⟨za, hza⟩ : ∃ z, (m.types.take kk).any (fieldIs p.name) = z := ⟨_, rfl⟩
      rw [hza] at hp0 hp1
      have HAT := Lib.hid hat; have HTK := Lib.hid htk; have HNM := Lib.hid hnm; have HPX := Lib.hid hpx; have HPN := Lib.hid hpn; have HP0 := Lib.hid hp0; have HP1 := Lib.hid hp1; have HQ0 := Lib.hid hq0; have HQ1 := Lib.hid hq1; have HQ2 := Lib.hid hq2; have HQ3 := Lib.hid hq3; have HTL := Lib.hid htl; have HZA := Lib.hid hza; have HC1 := Lib.hid hB1; have HBw := Lib.hid hbw; have HG4 := Lib.hid hg4; have HB4 := Lib.hid hb4
      clear hat htk hnm hpx hpn hp0 hp1 hq0 hq1 hq2 hq3 htl hza hB1 hbw hg4 hb4
      clear hpr hcell hcs hbF hpt
      have y1 := HC1.out.at_ 1 _ rfl
      go_upto_region 6 with fail
      clear y1
      have hBp := Box.made wr 60 #[.string p.name, .int .i64 p.is_.kind, .string p.is_.of_, .string p.is_.name, .slice A4 p.is_.args.length n4]
      have hbp : Below wr.heap.size wr (wr.alloc (.cells #[.string p.name, .int .i64 p.is_.kind, .string p.is_.of_, .string p.is_.name, .slice A4 p.is_.args.length n4] 60)) := by go_grown
      have hzp : (wr.alloc (.cells #[.string p.name, .int .i64 p.is_.kind, .string p.is_.of_, .string p.is_.name, .slice A4 p.is_.args.length n4] 60)).heap.size = wr.heap.size + 1 := by simp
      generalize wr.alloc (.cells #[.string p.name, .int .i64 p.is_.kind, .string p.is_.of_, .string p.is_.name, .slice A4 p.is_.args.length n4] 60) = W4 at hBp hbp hzp ⊢
      have hB1 := HC1.out.later hbp HC1.out.lt
      have hbw := HBw.out.trans (hbp.mono HBw.out.size)
      have hb4 := BW.out.trans (hbp.mono BW.out.size)
      have hO4 := hO.out.below KnownR.stays hbp
      have hO24 := hO2.out.below DiagR.stays hbp
      have hpc := typesSeen_any (m.types.take kk) (some ⟨bp, offp, none⟩) kk e1 HTL.out.symm p.name wr.heap.size (old W4.heap.size) W4 old_lt (now_lup FieldR.stays HTK.out hbp) (hBp.at_ 0 _ rfl)
      rw [HZA.out] at hpc
      clear hc0 hc1 hc2 hc3 hc4 hzp
      have y1 := hB1.at_ 1 _ rfl
      have HB1' := Lib.hid hB1; have HBw4 := Lib.hid hbw; have HB44 := Lib.hid hb4; have HO4 := Lib.hid hO4; have HO24 := Lib.hid hO24; have HPC := Lib.hid hpc; have HBP := Lib.hid hBp
      clear hB1 hbw hb4 hO4 hO24 hpc hBp
      clear hbp HC1 hO hO2 BW HAT HTK HBw
      go_wp2_with fail
      refine HPC.out.mono ?_
      rintro e W5 ⟨rfl, hb5⟩
      have hB1 := HB1'.out.later hb5 HB1'.out.lt
      have hBp := HBP.out.later hb5 HBP.out.lt
      have hbw := HBw4.out.trans (hb5.mono HBw4.out.size)
      have hb4 := HB44.out.trans (hb5.mono HB44.out.size)
      have hO5 := HO4.out.below KnownR.stays hb5
      have hO25 := HO24.out.below DiagR.stays hb5
      clear y1 HPC hb5
      have p0 := hBp.at_ 0 _ rfl
      cases za with
      | true =>
        have hcode := HP0.out rfl
        have hq0 := HQ0.out (by rw [hcode]; decide)
        have hq1 := HQ1.out (by rw [hcode]; decide)
        rw [hcode] at hq1
        have HO5 := Lib.hid hO5; have HO25 := Lib.hid hO25; have HBw5 := Lib.hid hbw; have HB5 := Lib.hid hb4; have HQ0' := Lib.hid hq0; have HQ1' := Lib.hid hq1
        clear hO5 hO25 hbw hb4 hq0 hq1
        clear hB1 hBp HP0 HP1 HQ0 HQ1 HQ2 HQ3
        go_wp2_with (at_builtin; go_must ((refine wpList_push DiagR.stays (.agg #[.string ⟨#[]⟩, .int .i64 0]) [.string p.name, .int .i64 4] ⟨p.name, 4⟩ rfl rfl Try.underlying31 (bytes := 24) (by kernel_rfl) HO25.out rfl rfl (by decide) rfl rfl (show DiagR W5 none_ _ _ from ⟨rfl, HPN.out, (show I64 4 from ⟨by decide, by decide⟩)⟩) (diag_one (d := ⟨p.name, 4⟩)) (fun k hk => hk.elim) (by unfold maxLen; have := HB4.out; omega) (by have := HB4.out; omega) (by have := HB5.out.size; omega) ?_); (intro A6 c6 W6 hO6 hgr hloc; have hb6 := HB5.out.trans (hgr.below (B := W1.heap.size) (Nat.le_refl _) HB5.out.size); have hO7 := HO5.out.grew KnownR.stays hgr hap.out; have hap6 := hap.out.symm.push hloc (fun g hg => (HO5.out.row hg).2); have HO6 := Lib.hid hO6; have HO7 := Lib.hid hO7; have HB6 := Lib.hid hb6; have HAP := Lib.hid hap6; clear hO6 hgr hb6 hO7 hap6 hloc)))
        go_roundg (m.types.length - (kk + 1))
        case measure => omega
        case rel =>
          exact ⟨kk + 1, n, c, (badTo m l kk).length + 1, c6, A, A6, by omega, by omega, by go_num, rfl, rfl, aside (by rw [HQ0'.out]; exact hn.out), aside (by rw [HQ1'.out]; simp), aside (by rw [HQ0'.out]; exact HO7.out), aside (by rw [HQ1'.out]; exact Owns.wider DiagR.stays HO6.out (fun k hk => hk.elim id id) (fun k hk => hk.elim)), aside HAP.out.symm, aside HB6.out⟩
      | false =>
        have hcode := HP1.out rfl
        have hnt := nameTy_fine HNM.out
        have htr : TyR W5 (old W5.heap.size) [.int .i64 4, .string ⟨#[]⟩, .string p.name, .slice none 0 0] (nameTy p.name) := ⟨1, _, rfl, (show I64 4 from ⟨by decide, by decide⟩), Nat.zero_le _, HPN.out, SliceOf.nil_⟩
        have hsv := HSV.out W5 (nameTy p.name) _ hbw hnt htr
        have hsz := typeTxt_small (m := m) HST.out p.name
        have hci := typeCode_i64 (m := m) (l := l) ⟨#[]⟩ (nameTy p.name)
        have hq0 := HQ0.out
        have hq1 := HQ1.out
        have hq2 := HQ2.out
        have hq3 := HQ3.out
        rw [hcode] at hq0 hq1 hq2 hq3
        generalize solveOf m l ⟨#[]⟩ (nameTy p.name) = r at hsv hsz hci hq0 hq1 hq2 hq3
        obtain ⟨S, C⟩ := r
        dsimp only at hsv hsz hci hq0 hq1 hq2 hq3
        have y0 := hB1.at_ 0 _ rfl
        have y1 := hB1.at_ 1 _ rfl
        have y2 := hB1.at_ 2 _ rfl
        have HB1' := Lib.hid hB1; have HBP' := Lib.hid hBp; have HO5 := Lib.hid hO5; have HO25 := Lib.hid hO25; have HBw5 := Lib.hid hbw; have HB5 := Lib.hid hb4; have HSVP := Lib.hid hsv; have HSZ := Lib.hid hsz; have HCI := Lib.hid hci; have HQ0' := Lib.hid hq0; have HQ1' := Lib.hid hq1; have HQ2' := Lib.hid hq2; have HQ3' := Lib.hid hq3
        clear hB1 hBp hO5 hO25 hbw hb4 hsv hsz hci hq0 hq1 hq2 hq3
        clear HP0 HP1 HQ0 HQ1 HQ2 HQ3 htr hnt hcode
        go_wp2_with fail
        refine HSVP.out.mono ?_
        rintro e W6 ⟨rfl, hb6⟩
        have hBp := HBP'.out.later hb6 HBP'.out.lt
        have hbw := HBw5.out.trans (hb6.mono HBw5.out.size)
        have hb4 := HB5.out.trans (hb6.mono HB5.out.size)
        have hO6 := HO5.out.below KnownR.stays hb6
        have hO26 := HO25.out.below DiagR.stays hb6
        clear y0 y1 y2 p0 HSVP hb6
        have p0 := hBp.at_ 0 _ rfl
        have hoS : okS S := by have := HSZ.out; unfold okS; omega
        have HO6 := Lib.hid hO6; have HO26 := Lib.hid hO26; have HBw6 := Lib.hid hbw; have HB6 := Lib.hid hb4
        clear hO6 hO26 hbw hb4
        clear hBp
        by_cases hC : C = 0
        · subst hC
          have hq2 := HQ2'.out rfl
          have hq3 := HQ3'.out rfl
          have HQ2'' := Lib.hid hq2; have HQ3'' := Lib.hid hq3
          clear hq2 hq3
          go_wp2_with (at_builtin; go_must ((refine wpList_push KnownR.stays (.agg #[.string ⟨#[]⟩, .string ⟨#[]⟩]) [.string p.name, .string S] ⟨p.name, S⟩ rfl rfl Try.underlying27 (bytes := 32) (by kernel_rfl) HO6.out rfl rfl (by decide) rfl rfl (show KnownR W6 none_ _ _ from ⟨rfl, HPN.out, hoS⟩) (known_one (d := ⟨p.name, S⟩)) (fun k hk => hk.elim) (by unfold maxLen; have := HG4.out; omega) (by have := HG4.out; omega) (by have := HB6.out.size; omega) ?_); (intro A7 c7 W7 hO7 hgr hloc; have hb7 := HB6.out.trans (hgr.below (B := W1.heap.size) (Nat.le_refl _) HB6.out.size); have hO8 := HO26.out.grew DiagR.stays hgr hap.out.symm; have hap7 := hap.out.push hloc (fun g hg => (HO26.out.row hg).2); have HO7 := Lib.hid hO7; have HO8 := Lib.hid hO8; have HB7 := Lib.hid hb7; have HAP := Lib.hid hap7; clear hO7 hgr hb7 hO8 hap7 hloc)))
          go_roundg (m.types.length - (kk + 1))
          case measure => omega
          case rel =>
            exact ⟨kk + 1, (goodTo m l kk).length + 1, c7, n2, c2, A7, A2, by omega, by omega, by go_num, rfl, rfl, aside (by rw [HQ2''.out]; simp), aside (by rw [HQ3''.out]; exact hn2.out), aside (by rw [HQ2''.out]; exact Owns.wider KnownR.stays HO7.out (fun k hk => hk.elim id id) (fun k hk => hk.elim)), aside (by rw [HQ3''.out]; exact HO8.out), aside HAP.out, aside HB7.out⟩
        · have hCz : (C == 0) = false := by simp [hC]
          have hq0 := HQ0'.out hC
          have hq1 := HQ1'.out hC
          have HQ0'' := Lib.hid hq0; have HQ1'' := Lib.hid hq1
          clear hq0 hq1
          go_wp2_with (at_builtin; go_must ((refine wpList_push DiagR.stays (.agg #[.string ⟨#[]⟩, .int .i64 0]) [.string p.name, .int .i64 C] ⟨p.name, C⟩ rfl rfl Try.underlying31 (bytes := 24) (by kernel_rfl) HO26.out rfl rfl (by decide) rfl rfl (show DiagR W6 none_ _ _ from ⟨rfl, HPN.out, HCI.out⟩) (diag_one (d := ⟨p.name, C⟩)) (fun k hk => hk.elim) (by unfold maxLen; have := HB4.out; omega) (by have := HB4.out; omega) (by have := HB6.out.size; omega) ?_); (intro A7 c7 W7 hO7 hgr hloc; have hb7 := HB6.out.trans (hgr.below (B := W1.heap.size) (Nat.le_refl _) HB6.out.size); have hO8 := HO6.out.grew KnownR.stays hgr hap.out; have hap7 := hap.out.symm.push hloc (fun g hg => (HO6.out.row hg).2); have HO7 := Lib.hid hO7; have HO8 := Lib.hid hO8; have HB7 := Lib.hid hb7; have HAP := Lib.hid hap7; clear hO7 hgr hb7 hO8 hap7 hloc)))
          go_roundg (m.types.length - (kk + 1))
          case measure => omega
          case rel =>
            exact ⟨kk + 1, n, c, (badTo m l kk).length + 1, c7, A, A7, by omega, by omega, by go_num, rfl, rfl, aside (by rw [HQ0''.out]; exact hn.out), aside (by rw [HQ1''.out]; simp), aside (by rw [HQ0''.out]; exact HO8.out), aside (by rw [HQ1''.out]; exact Owns.wider DiagR.stays HO7.out (fun k hk => hk.elim id id) (fun k hk => hk.elim)), aside HAP.out.symm, aside HB7.out⟩
    · have hltz : ¬ (kk : Int) < (m.types.length : Int) := by omega
      obtain rfl : kk = m.types.length := by omega
      have hg4 := goodTo_le (m := m) (l := l) m.types.length
      have hb4 := badTo_le (m := m) (l := l) m.types.length
      have hso := sortKnowns_any hO.out (by omega) (goodTo_apart _)
      have HSO := Lib.hid hso; have HC1 := Lib.hid hB1; have HBw := Lib.hid hbw
      clear hso hB1 hbw
      go_wp2_with fail
      refine HSO.out.mono ?_
      rintro e W6 ⟨rfl, hO6, hgr⟩
      have hlow := Hz.out
      have hO26 := hO2.out.grew DiagR.stays hgr hap.out.symm
      have hb6 := BW.out.trans (hgr.below (B := W1.heap.size) (Nat.le_refl _) BW.out.size)
      have hbw6 := Hb.out.trans (hb6.mono Hb.out.size)
      have hsl := hO6.slice KnownR.stays (by_ := 32) (F' := fresh w.heap.size W6.heap.size) (fun k hk => hk.elim) (fun k h1 h2 => ⟨by omega, h2⟩) (by rw [sortBy_length]; omega) (by rw [sortBy_length]; omega)
      have hsl2 := hO26.slice DiagR.stays (by_ := 24) (F' := fresh w.heap.size W6.heap.size) (fun k hk => hk.elim) (fun k h1 h2 => ⟨by omega, h2⟩) (by omega) (by omega)
      have HSL := Lib.hid hsl; have HSL2 := Lib.hid hsl2; have HBW6 := Lib.hid hbw6
      clear hsl hsl2 hbw6
      clear hO6 hgr hO26 hb6
      go_wp2_with fail
      go_ret2
      exact ⟨_, _, rfl, HBW6.out, HSL.out, HSL2.out⟩

end Go.Proofs.Ytoejhgbndehaiaa
