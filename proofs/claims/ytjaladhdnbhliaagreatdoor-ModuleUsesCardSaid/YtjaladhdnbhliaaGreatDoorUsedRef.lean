/- The names that a source uses, each once, sorted: the reference's UsedOf. -/
import Derived.Test.YtjaladhdnbhliaaGreatDoorRefModule
import Derived.Test.YtjaladhdnbhliaaGreatDoorUsesG
import Derived.Test.YtjaladhdnbhliaaGreatDoorLayIn
import Derived.Test.YtjaladhdnbhliaaGreatDoorTwo
import Derived.Deep.CutBlock
namespace Go.Proofs.YtjaladhdnbhliaaGreatDoor
open Go.RowKit Go.Shelf

/-- How far the scan that lays a name in has come; if it is there already nothing is laid in. -/
def scanU (za : Bool) (y : ByteArray) (lo : List ByteArray) (k : Nat) : List ByteArray × Bool := if za = true then (lo.take k, true) else insTo id y lo k
theorem scanU_zero {za : Bool} {y : ByteArray} {lo : List ByteArray} : scanU za y lo 0 = ([], za) := by
  unfold scanU
  cases za <;> rfl
theorem scanU_succ {za : Bool} {x y : ByteArray} {lo : List ByteArray} {k : Nat} (hx : lo[k]? = some x) : scanU za y lo (k + 1) = insStep id y (scanU za y lo k) x := by
  unfold scanU
  cases za with
  | true => rw [if_pos rfl, if_pos rfl, insStep_done, List.take_add_one, hx]; rfl
  | false => rw [if_neg (by decide), if_neg (by decide), insTo_succ hx]
theorem scanU_small {za : Bool} {y : ByteArray} {lo : List ByteArray} (k : Nat) : (scanU za y lo k).1.length ≤ k + 1 := by
  unfold scanU
  split
  · rw [List.length_take]; omega
  · exact insTo_small k
theorem scanU_done {za : Bool} {y : ByteArray} {lo P : List ByteArray} (hz : hasS lo y = za) (h : scanU za y lo lo.length = (P, true)) : insU lo y = P := by
  unfold scanU at h
  unfold insU
  rw [hz]
  cases za with
  | true =>
    rw [if_pos rfl] at h ⊢
    injection h with h _
    rw [← h, List.take_length]
  | false =>
    rw [if_neg (by decide)] at h ⊢
    have := insTo_end_done (f := id) (y := y) (l := lo) (by rw [h])
    rw [h] at this
    exact this.symm
theorem scanU_not {za : Bool} {y : ByteArray} {lo P : List ByteArray} (hz : hasS lo y = za) (h : scanU za y lo lo.length = (P, false)) : insU lo y = P ++ [y] := by
  unfold scanU at h
  unfold insU
  rw [hz]
  cases za with
  | true =>
    rw [if_pos rfl] at h
    injection h with _ h
    cases h
  | false =>
    rw [if_neg (by decide)] at h ⊢
    have := insTo_end_not (f := id) (y := y) (l := lo) (by rw [h])
    rw [h] at this
    exact this.symm
theorem strU_one {w : World} {F : Foot} (cs : List Value) (x : ByteArray) (h : StrR w F cs x) : ∀ u ∈ cs, u.oneCell' = true := by
  obtain ⟨rfl, _⟩ := h
  intro u hu
  simp only [List.mem_cons, List.not_mem_nil, or_false] at hu
  subst hu
  rfl

set_option maxRecDepth 100000 in
set_option maxHeartbeats 16000000 in
theorem usedOf_any (s : ByteArray) (W : World) : Calls Tryz.prog 14 #[.string s] W fun e w' => ∃ v, e = .returned v ∧ Below W.heap.size W w' ∧ SliceOf StrR 1 16 w' (fresh W.heap.size w'.heap.size) v (usedR s) := by
  have h2 := moduleOf_any s W
  have hg := readR_good s
  obtain ⟨R, hR⟩ : ∃ R, usedR s = R := ⟨_, rfl⟩
  rw [hR]
  unfold usedR at hR
  obtain ⟨⟨m, k⟩, hE⟩ : ∃ E, readR s = E := ⟨_, rfl⟩
  rw [hE] at h2 hg hR
  dsimp only at hg hR
  have H2 := Lib.hid h2; have HG := Lib.hid hg; have HR := Lib.hid hR
  clear h2 hg hR
  clear hE
  go_enter Tryz.func14, Tryz.ntmps14
  go_wp2_with fail
  refine H2.out.mono ?_
  rintro e W1 ⟨v1, v2, v3, rfl, hb1, hm1⟩
  dsimp only at hm1 ⊢
  obtain ⟨U1, u1, T1, t1, X1, x1, hcs, hu1, _⟩ := ModuleR.form hm1
  simp only [List.cons.injEq, and_true] at hcs
  obtain ⟨rfl, rfl, rfl⟩ := hcs
  obtain ⟨hl24, hname⟩ := mod_uses HG.out
  have hs1 := hb1.size
  have HB1 := Lib.hid hb1; have HU1 := Lib.hid hu1
  clear hb1 hu1
  clear hm1 H2
  go_upto_region 2 with fail
  have hBm := Box.made W1 27 #[.slice U1 m.uses.length u1, .slice T1 m.types.length t1, .slice X1 m.funcs.length x1]
  have hbm : Below W1.heap.size W1 (W1.alloc (.cells #[.slice U1 m.uses.length u1, .slice T1 m.types.length t1, .slice X1 m.funcs.length x1] 27)) := by go_grown
  have hzm : (W1.alloc (.cells #[.slice U1 m.uses.length u1, .slice T1 m.types.length t1, .slice X1 m.funcs.length x1] 27)).heap.size = W1.heap.size + 1 := by simp
  generalize W1.alloc (.cells #[.slice U1 m.uses.length u1, .slice T1 m.types.length t1, .slice X1 m.funcs.length x1] 27) = W2 at hBm hbm hzm ⊢
  have hbw2 := HB1.out.trans (hbm.mono HB1.out.size)
  have hu2 := now_list StrR.stays (HU1.out.up StrR.stays fresh_lt hbm) (fun k hk => Nat.lt_of_lt_of_le hk.2 hbm.size)
  have hs2 := hbm.size
  generalize m.uses = us at HR hl24 hname hu2 HU1 hBm ⊢
  have HM := Lib.hid hBm; have HB2 := Lib.hid hbw2; have HU2 := Lib.hid hu2; have HNAME := Lib.hid hname
  clear hBm hbw2 hu2 hname
  clear hbm hzm HB1 HU1
  go_wp2_with fail
  go_loopg [5, 6, 7, 8, 9] us.length (fun gg s5 s6 s7 s8 s9 wr => ∃ (kk n c : Nat) (A : Option Addr), kk ≤ us.length ∧ us.length - kk ≤ gg ∧ s6 = .int .i64 kk ∧ s5 = .slice A n c ∧ Aside (n = (usedOf (us.take kk)).length) ∧ Aside (Owns StrR 1 9 W2.heap.size wr none_ (.slice A n c) (usedOf (us.take kk))) ∧ Aside (Below W2.heap.size W2 wr))
  case atStart => exact ⟨0, 0, 0, none, Nat.zero_le _, by omega, rfl, rfl, aside rfl, aside Owns.nil_, aside (Below.refl _ _)⟩
  case round =>
    obtain ⟨kk, n, c, A, hkk, hg, rfl, rfl, hn, hO, BW⟩ := hrel
    obtain ⟨wo, rfl⟩ : ∃ W, W = wr := ⟨_, rfl⟩
    have hB1 := HM.out.later BW.out HM.out.lt
    have hbw := HB2.out.trans (BW.out.mono HB2.out.size)
    by_cases hlt : kk < us.length
    · have hltz : (kk : Int) < (us.length : Int) := by omega
      obtain ⟨b1, off, cs, hU, hbF, hcs, ⟨rfl, hyo⟩, hcell⟩ := HU2.out.at_ (k := kk) hlt
      subst hU
      have hq2 := hcell 0 _ rfl
      simp only [Nat.mul_one, Nat.add_zero] at hq2
      have hb1l : b1 < W2.heap.size := hbF
      have hy := List.getElem?_eq_getElem hlt
      generalize us[kk] = y at hy hyo hq2
      have hq0 := (BW.out.cell (p := ⟨b1, off + kk, none⟩) hb1l).trans hq2
      have hsucc := usedOf_take hy
      have hg5 : (usedOf (us.take kk)).length ≤ kk := Nat.le_trans (usedOf_length _) (by rw [List.length_take]; omega)
      obtain ⟨lo, hlo⟩ : ∃ z, usedOf (us.take kk) = z := ⟨_, rfl⟩
      rw [hlo] at hn hO hsucc hg5
      obtain rfl : n = lo.length := hn.out
      have hht := hasText_any (.slice A lo.length c) lo (fresh W2.heap.size wo.heap.size) y wo (hO.out.slice StrR.stays (fun k hk => hk.elim) (fun k h1 h2 => ⟨h1, h2⟩) (by omega) (by omega))
      obtain ⟨za, hza⟩ : ∃ z, hasS lo y = z := ⟨_, rfl⟩
      rw [hza] at hht
      have p0 := hB1.at_ 0 _ rfl
      have HSU := Lib.hid hsucc; have HG5 := Lib.hid hg5; have HHT := Lib.hid hht; have HZA := Lib.hid hza; have HQ2 := Lib.hid hq2
      clear hsucc hg5 hht hza hq2
      clear hB1 hcell hcs hy hlo hbw
      go_wp2_with fail
      refine HHT.out.mono ?_
      rintro e w' ⟨rfl, rfl⟩
      clear hq0 p0
      go_wp2_with fail
      go_loopg [7, 8, 9] lo.length (fun gg s7 s8 s9 wr => ∃ (jj nb cb : Nat) (B : Option Addr) (P : List ByteArray) (d : Bool), jj ≤ lo.length ∧ lo.length - jj ≤ gg ∧ s9 = .int .i64 jj ∧ s7 = .slice B nb cb ∧ s8 = .bool d ∧ Aside (nb = P.length) ∧ Aside (scanU za y lo jj = (P, d)) ∧
        Aside (Owns StrR 1 9 W2.heap.size wr none_ (.slice B nb cb) P) ∧ Aside (Owns StrR 1 9 W2.heap.size wr none_ (.slice A lo.length c) lo) ∧ Aside (Apart (.slice B nb cb) (.slice A lo.length c)) ∧ Aside (Below W2.heap.size W2 wr))
      case atStart => exact ⟨0, 0, 0, none, [], za, Nat.zero_le _, by omega, rfl, rfl, rfl, aside rfl, aside scanU_zero, aside Owns.nil_, aside hO.out, aside (fun g hg => by cases hg), BW⟩
      case round =>
        clear hO BW
        obtain ⟨jj, nb, cb, B, P, d, hjj, hg2, rfl, rfl, rfl, hnb, hin, hOp, hOo, ha1, BW⟩ := hrel
        obtain ⟨wi, rfl⟩ : ∃ W, W = wr := ⟨_, rfl⟩
        have hpl : P.length ≤ jj + 1 := by have h := scanU_small (za := za) (y := y) (lo := lo) jj; rw [hin.out] at h; exact h
        obtain rfl : nb = P.length := hnb.out
        have hg5 := HG5.out
        have hB1 := HM.out.later BW.out HM.out.lt
        have hq0 := (BW.out.cell (p := ⟨b1, off + kk, none⟩) hb1l).trans HQ2.out
        by_cases hltj : jj < lo.length
        · have hltzj : (jj : Int) < (lo.length : Int) := by omega
          obtain ⟨bo, offo, cs, hA, hbo, hob, hcs, ⟨rfl, hxo⟩, hcell⟩ := hOo.out.at_ hltj
          have hx := List.getElem?_eq_getElem hltj
          have hd0 := hcell 0 _ rfl
          generalize lo[jj] = x at hx hxo hd0
          simp only [Nat.mul_one, Nat.add_zero] at hd0
          subst hA
          have hs := scanU_succ (za := za) (y := y) hx
          rw [hin.out] at hs
          have hgt := gt_ltS x y
          obtain ⟨zl, hzl⟩ : ∃ z, ltS y x = z := ⟨_, rfl⟩
          rw [hzl] at hgt
          have hne : some bo ≠ (Value.slice B P.length cb).ownBlock := fun e => ha1.out.symm bo hob e.symm
          have p0 := hB1.at_ 0 _ rfl
          have HS := Lib.hid hs; have HZL := Lib.hid hzl; have HNE := Lib.hid hne; have HOP := Lib.hid hOp; have HOO' := Lib.hid hOo; have HAP' := Lib.hid ha1; have HBI := Lib.hid BW; have HB1' := Lib.hid hB1
          clear hs hzl hne hOp hOo ha1 BW hB1
          clear hcell hcs hin hx hob
          go_upto_region 11 with fail
          obtain ⟨z, hz⟩ : ∃ z, (!d && zl) = z := ⟨_, rfl⟩
          have HZ := Lib.hid hz
          clear hz
          go_cut [48] (fun s wc => s = .bool z ∧ Aside (Below wi.heap.size wi wc))
          case first =>
            cases d with
            | true =>
              obtain rfl : false = z := HZ.out
              go_wp2_with fail
              go_quiet (fail)
              go_wp2_with fail
              go_meet
              exact ⟨rfl, aside (below_drewN (Below.refl _ _) _)⟩
            | false =>
              cases zl with
              | true =>
                obtain rfl : true = z := HZ.out
                go_wp2_with fail
                go_quiet (fail)
                go_wp2_with fail
                go_meet
                exact ⟨rfl, aside (below_drewN (Below.refl _ _) _)⟩
              | false =>
                obtain rfl : false = z := HZ.out
                go_wp2_with fail
                go_quiet (fail)
                go_wp2_with fail
                go_meet
                exact ⟨rfl, aside (below_drewN (Below.refl _ _) _)⟩
          case rest =>
          obtain ⟨rfl, hbi⟩ := hcut
          obtain ⟨wj, rfl⟩ : ∃ W, W = wc := ⟨_, rfl⟩
          have hbj := HBI.out.out.trans (hbi.out.mono HBI.out.out.size)
          have hpj := Owns.below StrR.stays HOP.out.out hbi.out
          have hoj := Owns.below StrR.stays HOO'.out.out hbi.out
          have hboj : bo < wj.heap.size := Nat.lt_of_lt_of_le hbo hbi.out.size
          have hd0 := (hbi.out.cell (p := ⟨bo, offo + jj, none⟩) hbo).trans hd0
          have hq0 := (hbj.cell (p := ⟨b1, off + kk, none⟩) hb1l).trans HQ2.out
          have hB1 := HM.out.later hbj HM.out.lt
          clear p0
          have p0 := hB1.at_ 0 _ rfl
          have hwj := hbj.size
          have hap := HAP'.out.out
          have HPJ := Lib.hid hpj; have HOO := Lib.hid hoj; have HBJ := Lib.hid hbj; have HAP := Lib.hid hap
          clear hpj hoj hbj hap
          clear hbi hB1 HOP HOO' HAP' HB1' hgt
          cases d with
          | true =>
            obtain rfl : false = z := HZ.out
            go_wp2_with (at_builtin; go_must ((refine wpList_push StrR.stays (.string ⟨#[]⟩) [.string x] x rfl rfl Tryz.underlying23 (bytes := 16) (by kernel_rfl) HPJ.out rfl rfl (by decide) rfl rfl (show StrR _ none_ _ _ from ⟨rfl, hxo⟩) (strU_one (w := wj) (F := none_) [.string x] x ⟨rfl, hxo⟩) (fun k hk => hk.elim) (by unfold maxLen; omega) (by omega) (by omega) ?_); (intro A8 c8 W8 hO8 hgr hloc; have hb8 := HBJ.out.trans (hgr.below (B := W2.heap.size) (Nat.le_refl _) HBJ.out.size); have hOo8 := HOO.out.grew StrR.stays hgr HAP.out.symm; have ha8 := HAP.out.push hloc (fun g hg => (HOO.out.row hg).2); have HO8 := Lib.hid (Owns.wider StrR.stays hO8 (F' := none_) (fun k hk => hk.elim id id) (fun k hk => hk.elim)); have HOO8 := Lib.hid hOo8; have HB8 := Lib.hid hb8; have HA8 := Lib.hid ha8; clear hO8 hgr hb8 hOo8 ha8 hloc)))
            go_roundg (lo.length - (jj + 1))
            case measure => omega
            case rel => exact ⟨jj + 1, P.length + 1, c8, A8, P ++ [x], true, by omega, by omega, by go_num, rfl, rfl, aside (by simp), aside (HS.out.trans (insStep_done P)), aside HO8.out, aside HOO8.out, aside HA8.out, aside HB8.out⟩
          | false =>
            cases zl with
            | false =>
              obtain rfl : false = z := HZ.out
              go_wp2_with (at_builtin; go_must ((refine wpList_push StrR.stays (.string ⟨#[]⟩) [.string x] x rfl rfl Tryz.underlying23 (bytes := 16) (by kernel_rfl) HPJ.out rfl rfl (by decide) rfl rfl (show StrR _ none_ _ _ from ⟨rfl, hxo⟩) (strU_one (w := wj) (F := none_) [.string x] x ⟨rfl, hxo⟩) (fun k hk => hk.elim) (by unfold maxLen; omega) (by omega) (by omega) ?_); (intro A8 c8 W8 hO8 hgr hloc; have hb8 := HBJ.out.trans (hgr.below (B := W2.heap.size) (Nat.le_refl _) HBJ.out.size); have hOo8 := HOO.out.grew StrR.stays hgr HAP.out.symm; have ha8 := HAP.out.push hloc (fun g hg => (HOO.out.row hg).2); have HO8 := Lib.hid (Owns.wider StrR.stays hO8 (F' := none_) (fun k hk => hk.elim id id) (fun k hk => hk.elim)); have HOO8 := Lib.hid hOo8; have HB8 := Lib.hid hb8; have HA8 := Lib.hid ha8; clear hO8 hgr hb8 hOo8 ha8 hloc)))
              go_roundg (lo.length - (jj + 1))
              case measure => omega
              case rel => exact ⟨jj + 1, P.length + 1, c8, A8, P ++ [x], false, by omega, by omega, by go_num, rfl, rfl, aside (by simp), aside (HS.out.trans (insStep_low P HZL.out)), aside HO8.out, aside HOO8.out, aside HA8.out, aside HB8.out⟩
            | true =>
              obtain rfl : true = z := HZ.out
              go_upto_region 13 with (at_builtin; go_must ((refine wpList_push StrR.stays (.string ⟨#[]⟩) [.string y] y rfl rfl Tryz.underlying23 (bytes := 16) (by kernel_rfl) HPJ.out rfl rfl (by decide) rfl rfl (show StrR _ none_ _ _ from ⟨rfl, hyo⟩) (strU_one (w := wj) (F := none_) [.string y] y ⟨rfl, hyo⟩) (fun k hk => hk.elim) (by unfold maxLen; omega) (by omega) (by omega) ?_); (intro A7 c7 W7 hO7 hgr hloc; have hb8 := HBJ.out.trans (hgr.below (B := W2.heap.size) (Nat.le_refl _) HBJ.out.size); have hOo8 := HOO.out.grew StrR.stays hgr HAP.out.symm; have ha8 := HAP.out.push hloc (fun g hg => (HOO.out.row hg).2); have z0 := (World.cell?_of_block (a := ⟨bo, offo + jj, none⟩) (hgr.block bo hboj HNE.out)).trans hd0; clear hd0; have hw7 := hb8.size; have HO7 := Lib.hid (Owns.wider StrR.stays hO7 (F' := none_) (fun k hk => hk.elim id id) (fun k hk => hk.elim)); have HOO7 := Lib.hid hOo8; have HB7 := Lib.hid hb8; have HA7 := Lib.hid ha8; clear hO7 hgr hb8 hOo8 ha8 hloc)))
              have hpl1 : (P ++ [y]).length = P.length + 1 := by simp
              go_wp2_with (at_builtin; go_must ((refine wpList_push StrR.stays (.string ⟨#[]⟩) [.string x] x rfl rfl Tryz.underlying23 (bytes := 16) (by kernel_rfl) HO7.out rfl rfl (by decide) rfl rfl (show StrR _ none_ _ _ from ⟨rfl, hxo⟩) (strU_one (w := wj) (F := none_) [.string x] x ⟨rfl, hxo⟩) (fun k hk => hk.elim) (by unfold maxLen; omega) (by omega) (by omega) ?_); (intro A8 c8 W8 hO8 hgr hloc; have hb8 := HB7.out.trans (hgr.below (B := W2.heap.size) (Nat.le_refl _) HB7.out.size); have hOo8 := HOO7.out.grew StrR.stays hgr HA7.out.symm; have ha8 := HA7.out.push hloc (fun g hg => (HOO7.out.row hg).2); have HO8 := Lib.hid (Owns.wider StrR.stays hO8 (F' := none_) (fun k hk => hk.elim id id) (fun k hk => hk.elim)); have HOO8 := Lib.hid hOo8; have HB8 := Lib.hid hb8; have HA8 := Lib.hid ha8; clear hO8 hgr hb8 hOo8 ha8 hloc)))
              go_roundg (lo.length - (jj + 1))
              case measure => omega
              case rel => exact ⟨jj + 1, P.length + 1 + 1, c8, A8, P ++ [y, x], true, by omega, by omega, by go_num, rfl, rfl, aside (by simp), aside (HS.out.trans (insStep_hit P HZL.out)), aside (by have h := HO8.out; rw [hpl1] at h; simpa using h), aside HOO8.out, aside (by have h := HA8.out; rw [hpl1] at h; exact h), aside HB8.out⟩
        · have hltzj : ¬ (jj : Int) < (lo.length : Int) := by omega
          obtain rfl : jj = lo.length := by omega
          have p0 := hB1.at_ 0 _ rfl
          cases d with
          | true =>
            have hnew : usedOf (us.take (kk + 1)) = P := by rw [HSU.out]; exact scanU_done HZA.out hin.out
            have HNEW := Lib.hid hnew
            clear hnew
            go_wp2_with fail
            go_roundg (us.length - (kk + 1))
            case measure => omega
            case rel => exact ⟨kk + 1, P.length, cb, B, by omega, by omega, by go_num, rfl, aside (by rw [HNEW.out]), aside (by rw [HNEW.out]; exact hOp.out), BW⟩
          | false =>
            have hnew : usedOf (us.take (kk + 1)) = P ++ [y] := by rw [HSU.out]; exact scanU_not HZA.out hin.out
            obtain ⟨wj, rfl⟩ : ∃ W, W = wi := ⟨_, rfl⟩
            have hwj := BW.out.size
            have HNEW := Lib.hid hnew
            clear hnew
            go_wp2_with (at_builtin; go_must ((refine wpList_push StrR.stays (.string ⟨#[]⟩) [.string y] y rfl rfl Tryz.underlying23 (bytes := 16) (by kernel_rfl) hOp.out rfl rfl (by decide) rfl rfl (show StrR _ none_ _ _ from ⟨rfl, hyo⟩) (strU_one (w := wj) (F := none_) [.string y] y ⟨rfl, hyo⟩) (fun k hk => hk.elim) (by unfold maxLen; omega) (by omega) (by omega) ?_); (intro A8 c8 W8 hO8 hgr hloc; have hb8 := BW.out.trans (hgr.below (B := W2.heap.size) (Nat.le_refl _) BW.out.size); have HO8 := Lib.hid (Owns.wider StrR.stays hO8 (F' := none_) (fun k hk => hk.elim id id) (fun k hk => hk.elim)); have HB8 := Lib.hid hb8; clear hO8 hgr hb8 hloc)))
            go_roundg (us.length - (kk + 1))
            case measure => omega
            case rel => exact ⟨kk + 1, P.length + 1, c8, A8, by omega, by omega, by go_num, rfl, aside (by rw [HNEW.out]; simp), aside (by rw [HNEW.out]; exact HO8.out), aside HB8.out⟩
    · have hltz : ¬ (kk : Int) < (us.length : Int) := by omega
      obtain rfl : kk = us.length := by omega
      have hO2 := hO.out
      have hn2 := hn.out
      rw [List.take_length] at hO2 hn2
      subst hn2
      rw [HR.out] at hO2 ⊢
      have h24 : R.length ≤ 24 := by rw [← HR.out]; exact Nat.le_trans (usedOf_length _) hl24
      have hsl := hO2.slice StrR.stays (by_ := 16) (F' := fresh W.heap.size wo.heap.size) (fun k hk => hk.elim) (fun k h1 h2 => ⟨by omega, h2⟩) (by omega) (by omega)
      have p0 := hB1.at_ 0 _ rfl
      have HSL := Lib.hid hsl; have HBW := Lib.hid hbw
      clear hsl hbw
      clear hB1
      go_wp2_with fail
      go_ret
      exact ⟨_, rfl, HBW.out, HSL.out⟩

end Go.Proofs.YtjaladhdnbhliaaGreatDoor
