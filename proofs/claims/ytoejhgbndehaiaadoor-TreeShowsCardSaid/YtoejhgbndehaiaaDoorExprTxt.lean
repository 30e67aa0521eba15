/- Expressions as texts: tree.exprText. -/
import Derived.Test.YtoejhgbndehaiaaDoorTypeTxt
import Derived.Test.YtoejhgbndehaiaaDoorTreeChk2
import Derived.Test.YtoejhgbndehaiaaDoorClone
import Derived.Deep.RegionWith
import Derived.Deep.DeepCutAuto
import Derived.Deep.QuietTactic
import Derived.BigQuiet
import Derived.WalkSmall
import Derived.Lib.LaidTab
namespace Go.Proofs.YtoejhgbndehaiaaDoor
open Go.RowKit Go.Shelf

theorem joins_any (v : Value) (l : List ByteArray) (F : Foot) (w : World) (hF : ∀ k, F k → k < w.heap.size) (hv : SliceOf StrR 1 16 w F v l) (hl : (joined l).size ≤ 140737488355328) :
    Calls Tryd.prog 32 #[v, .string ⟨#[44, 32]⟩] w fun e w' => e = .returned (.string (joined l)) ∧ Below w.heap.size w w' := by
  obtain ⟨A, cap, rfl, h1, h2, h3, h3', h4⟩ := hv
  cases l with
  | nil => exact (Tryd.strings_Join_none A cap ⟨#[44, 32]⟩ w).mono fun e w' ⟨he, hw⟩ => ⟨he, hw ▸ Below.refl _ _⟩
  | cons x r =>
    obtain ⟨b, off, rfl, hb, hx⟩ := h4 (by simp)
    refine (Tryd.strings_Join b off cap (x :: r) ⟨#[44, 32]⟩ w (fun j y hj => ?_) (hF _ hb) h3' h1 ?_).mono fun e w' ⟨he, hw⟩ => ⟨he, hw⟩
    · obtain ⟨cs, hc, ⟨rfl, _⟩, hcell⟩ := hx j y hj
      have := hcell 0 _ rfl
      simpa using this
    · rw [ba_size, joined, ba_of] at hl; exact hl

/-- The library's table of powers lies in the memory. -/
def Pow (w : World) : Prop := Lib.TabIs Tryd.prog w "internal/strconv.uint64pow10" .u64 Lib.pow10Tab
theorem pow_named : Tryd.prog.globalNamed "internal/strconv.uint64pow10" = some 3 := by kernel_rfl
theorem Pow.lt {w : World} (h : Pow w) : 3 < w.heap.size := by
  have hc := h.cell pow_named 0 (by decide)
  exact World.block_lt_of_cell? w _ hc
theorem Pow.later {w w' : World} (h : Pow w) (hb : Below w.heap.size w w') : Pow w' := by
  unfold Pow Lib.TabIs at h ⊢
  rw [← h]
  unfold World.var?
  have hlt := Pow.lt (w := w) h
  simp only [pow_named]
  have := hb.block _ hlt
  simp [this]

set_option maxRecDepth 100000 in
theorem itoa_any (v : Int) (w : World) (h0 : 0 ≤ v) (h1 : v ≤ 999999) (hp : Pow w) :
    Calls Tryd.prog 59 #[.int .i64 v] w fun e w' => e = .returned (.string (decTxt v)) ∧ Below w.heap.size w w' :=
  (Tryd.strconv_Itoa v (by omega) (by omega) w hp).mono fun e w' ⟨he, k, os, hw⟩ => ⟨he, by
    subst hw
    exact ⟨rfl, rfl, rfl, by simp [Sort.grow], fun j hj => Sort.heap_grow_old _ _ hj⟩⟩

/-- The elements of an expression's list. -/
theorem ex_args {w : World} {F : Foot} {k v : Int} {o s : ByteArray} {args : List Ex} {A : Option Addr} {n c : Nat} {cs : List Value} (hcs : cs = [.int .i64 k, .int .i64 v, .string o, .string s, .slice A n c]) (h : ExR w F cs (.mk k v o s args)) :
    SliceOf ExR 5 72 w F (.slice A n c) args ∧ okS o ∧ okS s ∧ I64 v ∧ I64 k := by
  subst hcs
  obtain ⟨m, h⟩ := h
  cases m with
  | zero => exact h.elim
  | succ m =>
    obtain ⟨av, he, hk, hv, ho, hs, hav⟩ := h
    simp only [List.cons.injEq, and_true] at he
    obtain ⟨_, _, _, _, rfl⟩ := he
    refine ⟨?_, ho, hs, hv, hk⟩
    obtain ⟨A', cap, e, h1, h2, h3, h3', h4⟩ := hav
    refine ⟨A', cap, e, h1, h2, h3, h3', fun hl => ?_⟩
    obtain ⟨b, off, hA, hb, hx⟩ := h4 hl
    exact ⟨b, off, hA, hb, fun i x hi => by obtain ⟨ds, hc, hr, hcell⟩ := hx i x hi; exact ⟨ds, hc, ⟨m, hr⟩, hcell⟩⟩

theorem argAt_eq {l : List ByteArray} {k : Nat} (hk : k < l.length) : argAt l k = l[k] := by
  unfold argAt
  rw [List.getD_eq_getElem?_getD, List.getElem?_eq_getElem hk]; rfl

set_option maxRecDepth 100000 in
set_option maxHeartbeats 8000000 in
theorem exprText_any : ∀ (n : Nat) (x : Ex) (cs : List Value) (F : Foot) (w : World), n ≤ 10 → exErr n x = 0 → ExR w F cs x → (∀ k, F k → k < w.heap.size) → Pow w →
    Calls Tryd.prog 33 #[.agg cs.toArray] w fun e w' => e = .returned (.string (exTxt n x)) ∧ Below w.heap.size w w' := by
  intro n
  induction n with
  | zero => intro x cs F w _ h; cases h
  | succ n ih =>
    intro x cs F w hn h hx hF hP
    obtain ⟨A, c, rfl⟩ := ExR.form hx
    obtain ⟨k, v, o, s, args⟩ := x
    simp only [Ex.kind, Ex.n, Ex.of_, Ex.s, Ex.args] at *
    obtain ⟨h8, hall, hc⟩ := ex_cases h
    obtain ⟨hA, ho, hs, hv, hk⟩ := ex_args rfl hx
    have hAc : args.length ≤ c ∧ c ≤ 9223372036854775807 := by
      obtain ⟨A', c', e, h1, h2, _⟩ := hA
      injection e with e1 e2 e3
      subst e3
      exact ⟨h1, by unfold maxLen at h2; omega⟩
    have hsz := fun a (ha : a ∈ args) => exTxt_size n a (hall a ha)
    have hmx : exMax n ≤ 38742048900 := Nat.le_trans (exMax_mono (show n ≤ 9 by omega)) (by decide)
    have hrec := fun a (ha : a ∈ args) ds U (hU : Below w.heap.size w U) (hr : ExR U F ds a) => ih a ds F U (by omega) (hall a ha) hr (foot_up hF hU) (hP.later hU)
    have hit := fun (h0 : 0 ≤ v) (h1 : v ≤ 999999) U (hU : Below w.heap.size w U) => itoa_any v U h0 h1 (hP.later hU)
    have hjo := fun (l : List ByteArray) v (G : Foot) U hG hv hl => joins_any v l G U hG hv hl
    have hls : (joined (args.map (exTxt n))).size ≤ 8 * (exMax n + 2) := Nat.le_trans (joined_size (args.map (exTxt n)) fun y hy => by obtain ⟨a, ha, rfl⟩ := List.mem_map.1 hy; exact hsz a ha) (Nat.mul_le_mul_right _ (by rw [List.length_map]; exact h8))
    obtain ⟨E, hE⟩ : ∃ z, exTxt (n + 1) (.mk k v o s args) = z := ⟨_, rfl⟩
    rw [hE]
    have HE := Lib.hid hE; have HC := Lib.hid hc; have HA := Lib.hid hA; have HSZ := Lib.hid hsz; have HREC := Lib.hid hrec; have HIT := Lib.hid hit; have HJO := Lib.hid hjo; have HLS := Lib.hid hls; have HP := Lib.hid hP
    clear hE hc hA hsz hrec hit hjo hls hP
    clear ih hx h hall
    go_enter Tryd.func33, Tryd.ntmps33
    go_upto_region 1 with fail
    have hBe := Box.made w 65 #[.int .i64 k, .int .i64 v, .string o, .string s, .slice A args.length c]
    have hbe : Below w.heap.size w (w.alloc (.cells #[.int .i64 k, .int .i64 v, .string o, .string s, .slice A args.length c] 65)) := by go_grown
    have hze : (w.alloc (.cells #[.int .i64 k, .int .i64 v, .string o, .string s, .slice A args.length c] 65)).heap.size = w.heap.size + 1 := by simp
    generalize w.alloc (.cells #[.int .i64 k, .int .i64 v, .string o, .string s, .slice A args.length c] 65) = W1 at hBe hbe hze ⊢
    have x4 := hBe.at_ 4 _ rfl
    have HB := Lib.hid hBe; have Hb := Lib.hid hbe; have Hz := Lib.hid hze
    clear hBe hbe hze
    go_wp2_with fail
    go_loopg [3, 5, 9] args.length (fun gg s3 s5 s9 wr => ∃ (kk c : Nat) (B : Option Addr) (L : List ByteArray), kk ≤ args.length ∧ args.length - kk ≤ gg ∧ s9 = .int .i64 kk ∧ s3 = .slice B L.length c ∧ Aside (L = (args.take kk).map (exTxt n)) ∧
      Aside (Owns StrR 1 9 W1.heap.size wr none_ (.slice B L.length c) L) ∧ Aside (Below W1.heap.size W1 wr))
    case atStart => exact ⟨0, 0, none, [], Nat.zero_le _, by omega, rfl, rfl, aside rfl, aside Owns.nil_, aside (Below.refl _ _)⟩
    case round =>
      obtain ⟨kk, c', B, L, hkk, hg, rfl, rfl, hL, hO, BW⟩ := hrel
      have hbw := Hb.out.trans (BW.out.mono Hb.out.size)
      have hLl : L.length = kk := by rw [hL.out]; simp; omega
      clear x4
      by_cases hlt : kk < args.length
      · have hltz : (kk : Int) < (args.length : Int) := by omega
        obtain ⟨b1, off, ds, rfl, hbF, hds, hr, hcell⟩ := (HA.out.up ExR.stays hF hbw).at_ (k := kk) hlt
        have hx := List.getElem?_eq_getElem hlt
        have hxm := List.getElem_mem hlt
        generalize args[kk] = a at hx hxm hr
        obtain ⟨A2, c2, rfl⟩ := ExR.form hr
        have hc0 := hcell 0 _ rfl
        have hc1 := hcell 1 _ rfl
        have hc2 := hcell 2 _ rfl
        have hc3 := hcell 3 _ rfl
        have hc4 := hcell 4 _ rfl
        simp only [Nat.add_zero] at hc0
        have hbl : b1 < wr.heap.size := foot_up hF hbw _ hbF
        have hsa := HSZ.out a hxm
        have HX := Lib.hid hx; have HM := Lib.hid hxm; have HR := Lib.hid hr; have HSA := Lib.hid hsa; have HBw := Lib.hid hbw; have HLl := Lib.hid hLl
        clear hx hxm hr hsa hbw hLl
        clear hcell hds
        go_upto_region 5 with fail
        have hBy := Box.made wr 65 #[.int .i64 a.kind, .int .i64 a.n, .string a.of_, .string a.s, .slice A2 a.args.length c2]
        have hby : Below wr.heap.size wr (wr.alloc (.cells #[.int .i64 a.kind, .int .i64 a.n, .string a.of_, .string a.s, .slice A2 a.args.length c2] 65)) := by go_grown
        have hzy : (wr.alloc (.cells #[.int .i64 a.kind, .int .i64 a.n, .string a.of_, .string a.s, .slice A2 a.args.length c2] 65)).heap.size = wr.heap.size + 1 := by simp
        generalize wr.alloc (.cells #[.int .i64 a.kind, .int .i64 a.n, .string a.of_, .string a.s, .slice A2 a.args.length c2] 65) = W4 at hBy hby hzy ⊢
        have y0 := hBy.at_ 0 _ rfl
        have y1 := hBy.at_ 1 _ rfl
        have y2 := hBy.at_ 2 _ rfl
        have y3 := hBy.at_ 3 _ rfl
        have y4 := hBy.at_ 4 _ rfl
        have hbw4 := HBw.out.trans (hby.mono HBw.out.size)
        have hb4 := BW.out.trans (hby.mono BW.out.size)
        have hO4 := hO.out.below StrR.stays hby
        have hrc := HREC.out a HM.out _ W4 hbw4 (ExR.stays.later HR.out hby (foot_up hF HBw.out))
        obtain ⟨T, hT⟩ : ∃ z, exTxt n a = z := ⟨_, rfl⟩
        rw [hT] at hrc HSA
        have HT := Lib.hid hT; have HRC := Lib.hid hrc; have HO4 := Lib.hid hO4; have HB4 := Lib.hid hb4
        clear hT hrc hO4 hb4
        clear hc0 hc1 hc2 hc3 hc4 hBy hby hzy hbw4
        go_wp2_with fail
        refine HRC.out.mono ?_
        rintro e W5 ⟨rfl, hb5⟩
        have hO5 := HO4.out.below StrR.stays hb5
        have hb15 := HB4.out.trans (hb5.mono HB4.out.size)
        have hoT : okS T := by have := HSA.out; unfold okS; omega
        clear y0 y1 y2 y3 y4
        have HO5 := Lib.hid hO5; have HB5 := Lib.hid hb15
        clear hO5 hb15
        clear hb5
        go_wp2_with (at_builtin; go_must ((refine wpList_push StrR.stays (.string ⟨#[]⟩) [.string T] T rfl rfl Tryd.underlying26 (bytes := 16) (by kernel_rfl) HO5.out rfl rfl (by decide) rfl rfl (show StrR W5 none_ _ _ from ⟨rfl, hoT⟩) (StrR.one (w := W5) (F := none_) _ _ ⟨rfl, hoT⟩) (fun k hk => hk.elim) (by unfold maxLen; have := HLl.out; omega) (by have := HLl.out; omega) (by have := HB5.out.size; omega) ?_); (intro A6 c6 W6 hO6 hgr _; have hb6 := HB5.out.trans (hgr.below (B := W1.heap.size) (Nat.le_refl _) HB5.out.size); have HO6 := Lib.hid hO6; have HB6 := Lib.hid hb6; clear hO6 hgr hb6)))
        go_roundg (args.length - (kk + 1))
        case measure => omega
        case rel =>
          refine ⟨kk + 1, c6, A6, L ++ [T], by omega, by omega, by go_num, by simp, aside ?_, aside ?_, aside HB6.out⟩
          · rw [List.take_add_one, HX.out, List.map_append, hL.out]
            simp [HT.out]
          · have h := Owns.wider StrR.stays HO6.out (F' := none_) (fun k hk => hk.elim id id) (fun k hk => hk.elim)
            simpa using h
      · have hltz : ¬ (kk : Int) < (args.length : Int) := by omega
        obtain rfl : kk = args.length := by omega
        have hL2 : L = args.map (exTxt n) := by rw [hL.out, List.take_length]
        have hsl := hO.out.slice StrR.stays (by_ := 16) (F' := old wr.heap.size) (fun k hk => hk.elim) (fun k h1 h2 => h2) (by omega) (by omega)
        have hB1 := HB.out.later BW.out HB.out.lt
        have hE := HE.out
        have hls := HLS.out
        rw [← hL2] at hls
        have hsL : ∀ y ∈ L, y.size ≤ exMax n := fun y hy => by
          rw [hL2] at hy
          obtain ⟨a, ha, rfl⟩ := List.mem_map.1 hy
          exact HSZ.out a ha
        have x0 := hB1.at_ 0 _ rfl
        have x1 := hB1.at_ 1 _ rfl
        have x2 := hB1.at_ 2 _ rfl
        have x3 := hB1.at_ 3 _ rfl
        rcases HC.out with ⟨rfl, h0, h1, _⟩ | ⟨rfl, h1, _⟩ | ⟨rfl, h1, _⟩ | ⟨rfl, h1, h2⟩ | ⟨rfl, h1⟩ | ⟨rfl, h1⟩ | ⟨rfl, h1⟩
        · rw [ex_num] at hE
          have hit := HIT.out h0 h1 wr hbw
          rw [hE] at hit
          have HITP := Lib.hid hit; have HBW := Lib.hid hbw
          clear hit hbw
          clear hsl hB1 hE hls hsL hL2 hLl
          go_wp2_with fail
          refine HITP.out.mono ?_
          rintro e W5 ⟨rfl, hb5⟩
          have hbw := HBW.out.trans (hb5.mono HBW.out.size)
          have HBW5 := Lib.hid hbw
          clear hbw
          clear hb5
          go_wp2_with fail
          go_ret
          exact ⟨rfl, HBW5.out⟩
        · rw [ex_quote] at hE
          subst hE
          have s1 : ¬ 9223372036854775807 < 1 + s.size := by omega
          have s2 : ¬ 9223372036854775807 < 1 + s.size + 1 := by omega
          have HBW := Lib.hid hbw
          clear hbw
          clear hsl hB1 hls hsL hL2 hLl
          go_wp2_with fail
          go_ret
          exact ⟨rfl, HBW.out⟩
        · rw [ex_param] at hE
          subst hE
          have HBW := Lib.hid hbw
          clear hbw
          clear hsl hB1 hls hsL hL2 hLl
          go_wp2_with fail
          go_ret
          exact ⟨rfl, HBW.out⟩
        · rw [ex_call, ← hL2] at hE
          have hnm := fun U => named_any o s U (by omega) (by omega)
          have hns := namedTxt_size h2 (show s.size ≤ 20 by omega)
          have hj := fun U (hU : Below wr.heap.size wr U) => HJO.out L _ _ U (foot_up old_lt hU) (hsl.up StrR.stays old_lt hU) (by omega)
          generalize namedTxt o s = N1 at hE hnm hns
          generalize joined L = J at hE hj hls
          subst hE
          have s1 : ¬ 9223372036854775807 < N1.size + 1 := by omega
          have s2 : ¬ 9223372036854775807 < N1.size + 1 + J.size := by omega
          have s3 : ¬ 9223372036854775807 < N1.size + 1 + J.size + 1 := by omega
          have HBW := Lib.hid hbw; have HNM := Lib.hid hnm; have HJ := Lib.hid hj
          clear hbw hnm hj
          clear hsl hB1 hsL hL2 hLl
          go_wp2_with fail
          refine (HNM.out _).mono ?_
          rintro e w2 ⟨rfl, rfl⟩
          go_wp2_with fail
          refine (HJ.out _ (Below.refl _ _)).mono ?_
          rintro e W5 ⟨rfl, hb5⟩
          have hbw := HBW.out.trans (hb5.mono HBW.out.size)
          have HBW5 := Lib.hid hbw
          clear hbw
          clear hb5
          go_wp2_with fail
          go_ret
          exact ⟨rfl, HBW5.out⟩
        · rw [ex_sum, ← hL2] at hE
          have hl2 : L.length = 2 := by omega
          obtain ⟨b1, o1, d1, hB1', hf1, hd1, ⟨rfl, _⟩, hcell1⟩ := hsl.at_ (k := 0) (by omega)
          obtain ⟨b2, o2, d2, hB2', hf2, hd2, ⟨rfl, _⟩, hcell2⟩ := hsl.at_ (k := 1) (by omega)
          rw [argAt_eq (show 0 < L.length by omega), argAt_eq (show 1 < L.length by omega)] at hE
          have z1 := hsL _ (List.getElem_mem (show 0 < L.length by omega))
          have z2 := hsL _ (List.getElem_mem (show 1 < L.length by omega))
          generalize L[0] = T1 at hE z1 hcell1
          generalize L[1] = T2 at hE z2 hcell2
          subst hB1'
          injection hB2' with hB2'
          injection hB2' with e1 e2
          subst e1; subst e2
          have hq1 := hcell1 0 _ rfl
          have hq2 := hcell2 0 _ rfl
          simp only [Nat.zero_mul, Nat.one_mul, Nat.add_zero] at hq1 hq2
          have hLz : (L.length : Int) = 2 := by omega
          subst hE
          have s1 : ¬ 9223372036854775807 < 1 + T1.size := by omega
          have s2 : ¬ 9223372036854775807 < 1 + T1.size + 3 := by omega
          have s3 : ¬ 9223372036854775807 < 1 + T1.size + 3 + T2.size := by omega
          have s4 : ¬ 9223372036854775807 < 1 + T1.size + 3 + T2.size + 1 := by omega
          rw [hl2]
          have HBW := Lib.hid hbw
          clear hbw
          clear hsl hB1 hls hsL hL2 hL hO
          go_wp2_with fail
          go_quiet (fail)
          go_wp2_with fail
          go_ret
          exact ⟨rfl, below_drewN HBW.out _⟩
        · rw [ex_items, ← hL2] at hE
          have hj := fun U (hU : Below wr.heap.size wr U) => HJO.out L _ _ U (foot_up old_lt hU) (hsl.up StrR.stays old_lt hU) (by omega)
          generalize joined L = J at hE hj hls
          subst hE
          have s1 : ¬ 9223372036854775807 < 1 + J.size := by omega
          have s2 : ¬ 9223372036854775807 < 1 + J.size + 1 := by omega
          have HBW := Lib.hid hbw; have HJ := Lib.hid hj
          clear hbw hj
          clear hsl hB1 hsL hL2 hLl
          go_wp2_with fail
          refine (HJ.out _ (Below.refl _ _)).mono ?_
          rintro e W5 ⟨rfl, hb5⟩
          have hbw := HBW.out.trans (hb5.mono HBW.out.size)
          have HBW5 := Lib.hid hbw
          clear hbw
          clear hb5
          go_wp2_with fail
          go_ret
          exact ⟨rfl, HBW5.out⟩
        · rw [ex_at, ← hL2] at hE
          have hl2 : L.length = 2 := by omega
          obtain ⟨b1, o1, d1, hB1', hf1, hd1, ⟨rfl, _⟩, hcell1⟩ := hsl.at_ (k := 0) (by omega)
          obtain ⟨b2, o2, d2, hB2', hf2, hd2, ⟨rfl, _⟩, hcell2⟩ := hsl.at_ (k := 1) (by omega)
          rw [argAt_eq (show 0 < L.length by omega), argAt_eq (show 1 < L.length by omega)] at hE
          have z1 := hsL _ (List.getElem_mem (show 0 < L.length by omega))
          have z2 := hsL _ (List.getElem_mem (show 1 < L.length by omega))
          generalize L[0] = T1 at hE z1 hcell1
          generalize L[1] = T2 at hE z2 hcell2
          subst hB1'
          injection hB2' with hB2'
          injection hB2' with e1 e2
          subst e1; subst e2
          have hq1 := hcell1 0 _ rfl
          have hq2 := hcell2 0 _ rfl
          simp only [Nat.zero_mul, Nat.one_mul, Nat.add_zero] at hq1 hq2
          subst hE
          have s1 : ¬ 9223372036854775807 < T1.size + 1 := by omega
          have s2 : ¬ 9223372036854775807 < T1.size + 1 + T2.size := by omega
          have s3 : ¬ 9223372036854775807 < T1.size + 1 + T2.size + 1 := by omega
          rw [hl2]
          have HBW := Lib.hid hbw
          clear hbw
          clear hsl hB1 hls hsL hL2 hL hO
          go_wp2_with fail
          go_quiet (fail)
          go_wp2_with fail
          go_ret
          exact ⟨rfl, below_drewN HBW.out _⟩

end Go.Proofs.YtoejhgbndehaiaaDoor
