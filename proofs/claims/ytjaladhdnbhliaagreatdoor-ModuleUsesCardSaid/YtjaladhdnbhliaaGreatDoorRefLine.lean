/- The reference's reader: a line of a module, lineOf. -/
import Derived.Test.YtjaladhdnbhliaaGreatDoorEyeG
import Derived.Test.YtjaladhdnbhliaaGreatDoorLineRead
namespace Go.Proofs.YtjaladhdnbhliaaGreatDoor
open Go.RowKit Go.Shelf

/-- What a line gives the reference. -/
def RefLine (bm B : Nat) (W : World) (r : Except Int Module) (en : Ending) (W' : World) : Prop :=
  ∃ m' k, ModAt W' bm B m' ∧ Stay bm B W W' ∧ en = .returned (.int .i64 k) ∧ ((k = 0 ∧ r = .ok m') ∨ (k ≠ 0 ∧ r = .error k))
/-- What comes of a line whose reading has come so far. -/
def LineSo (R : Except Int Module) (T : List Token) (m' : Module) (j : Nat) (e : Int) : Prop := (e = 0 → R = if (T.drop j).length = 0 then .ok m' else .error 4) ∧ (e ≠ 0 → R = .error e)
theorem line_so {α : Type} {R : Except Int Module} {T : List Token} {i j : Nat} {e : Int} {p : Pr α} {x : α} {f : α → Module} (hR : R = (prEnd p (T.drop i)).map fun a => f a.1) (h : St (Rs p T i 0) (prPure x) T j e) : LineSo R T (f x) j e := by
  unfold Rs at h
  rw [if_pos rfl] at h
  rcases h with ⟨rfl, h⟩ | ⟨h0, h⟩
  · refine ⟨fun _ => ?_, fun h => absurd rfl h⟩
    rw [hR, prEnd_ok h]
    exact map_if
  · refine ⟨fun h => absurd h h0, fun _ => ?_⟩
    rw [hR, prEnd_err h]
    rfl
/-- Behind a row's growth: the reader, and what lies below. -/
theorem sight_after {b bm B i : Nat} {F : Foot} {A : Option Addr} {c : Nat} {T : List Token} {W W8 W9 : World} {j : Nat} {e d : Int} {o : Obj} {row : Option Nat} (u : Value) (hl : Sight b F A c T W W8 j e d) (hg : Grew B (W8.alloc o) W9 row) (hrow : ∀ k, row = some k → k < b) (hBb : B ≤ b) (hbm : bm < B) (hbW : b < W.heap.size) :
    Stay bm B W (W9.setCell ⟨bm, i, none⟩ u) ∧ Box (W9.setCell ⟨bm, i, none⟩ u) b 204 #[.slice A T.length c, .int .i64 j, .int .i64 e, .int .i64 d] := by
  have h1 : Stay bm B W W8 := Stay.of_below (hl.grew.below (Nat.le_refl _) (Nat.le_of_lt hbW)) hBb
  have hs : W.heap.size ≤ W8.heap.size := hl.size
  have h2 : Stay bm B W8 W9 := (Stay.of_below ((Below.refl _ W8).alloc (Nat.le_refl _) o) (by omega)).trans (Stay.of_grew hg (by rw [World.size_alloc]; omega))
  have hB := hl.box
  refine ⟨(h1.trans h2).set i u, ?_⟩
  have hB9 : Box W9 b 204 #[.slice A T.length c, .int .i64 j, .int .i64 e, .int .i64 d] := (hB.alloc o).of_heap (hg.block b (by rw [World.size_alloc]; have := hB.lt; omega) (fun e => Nat.lt_irrefl _ (hrow b e.symm)))
  exact hB9.far (by show b ≠ bm; omega) u

/-- The module, of which nothing lies in block b. -/
def ModOff (W : World) (bm B : Nat) (m : Module) (b : Nat) : Prop := ∃ U T X cu ct cx Gt Gf, Mods W bm B U T X cu ct cx m Gt Gf ∧ ((Value.slice U m.uses.length cu).ownBlock ≠ some b ∧ (Value.slice T m.types.length ct).ownBlock ≠ some b ∧ (Value.slice X m.funcs.length cx).ownBlock ≠ some b) ∧ ¬ Gt b ∧ ¬ Gf b
theorem ModOff.touch {W W' : World} {bm B : Nat} {m : Module} {b : Nat} (h : ModOff W bm B m b) (hbm : b ≠ bm) (hg : Grew b W W' (some b)) (hk : ∀ k, k < W.heap.size → k ≠ b → W'.heap[k]? = W.heap[k]?) : ModAt W' bm B m := by
  obtain ⟨U, T, X, cu, ct, cx, Gt, Gf, h, ⟨h1, h2, h3⟩, h4, h5⟩ := h
  exact ⟨U, T, X, cu, ct, cx, Gt, Gf, h.box.of_heap (hk _ h.box.lt (fun e => hbm e.symm)), h.us.kept StrR.stays hg.size (fun k a c => hk k a (fun e => by subst e; exact c.elim (fun c => c) (fun c => h1 c))),
    h.ts.kept FieldR.stays hg.size (fun k a c => hk k a (fun e => by subst e; exact c.elim (fun c => h4 c) (fun c => h2 c))), h.fs.kept FuncR.stays hg.size (fun k a c => hk k a (fun e => by subst e; exact c.elim (fun c => h5 c) (fun c => h3 c))), h.lo, h.ut, h.uf, h.tf, h.gu, h.gt, h.gf, h.low⟩
theorem off_new {v v' : Value} {b n : Nat} (hv : v'.ownBlock = v.ownBlock ∨ ∃ g, v'.ownBlock = some g ∧ n ≤ g) (h : ∀ k, v.ownBlock = some k → k < b) (hn : b < n) : v'.ownBlock ≠ some b := fun e => by
  rcases hv with hv | ⟨g, hv, hl⟩
  · exact Nat.lt_irrefl _ (h b (hv.symm.trans e))
  · rw [hv] at e; injection e with e; omega
set_option maxRecDepth 100000 in
set_option maxHeartbeats 2000000 in
theorem ebad_box {b : Nat} {W : World} {v : Value} {i : Int} {e d : Int} (k : Int) (hB : Box W b 204 #[v, .int .i64 i, .int .i64 e, .int .i64 d]) :
    Calls Tryz.prog 146 #[.pointer (some ⟨b, 0, none⟩), .int .i64 k] W fun en w' => en = .returned (.tuple #[]) ∧ Box w' b 204 #[v, .int .i64 i, .int .i64 (badE e k), .int .i64 d] ∧ Grew b W w' (some b) ∧ ∀ j, j < W.heap.size → j ≠ b → w'.heap[j]? = W.heap[j]? := by
  have hP := hB.put 2 (.int .i64 k)
  simp only [List.setIfInBounds_toArray, List.set_cons_zero, List.set_cons_succ] at hP
  have x2 := hB.at_ 2 _ rfl
  have g2 := hB.free 2
  have HP := Lib.hid hP; have HB := Lib.hid hB
  clear hP hB
  by_cases he : e = 0
  · subst he
    go_enter Tryz.func146, Tryz.ntmps146
    go_wp2_with fail
    go_end0
    exact ⟨rfl, by rw [show badE 0 k = k from rfl]; exact HP.out, Grew.cell_ _ _ _, fun j _ hj => Below.heap_setCell _ _ _ _ (show j ≠ b from hj)⟩
  · have hez : (e == 0) = false := by simp [he]
    have hE : badE e k = e := by unfold badE; rw [if_neg he]
    rw [hE]
    clear he hE
    go_enter Tryz.func146, Tryz.ntmps146
    go_wp2_with fail
    go_end0
    exact ⟨rfl, HB.out, Grew.refl_ _ _ _ some_le, fun _ _ _ => rfl⟩

set_option maxRecDepth 100000 in
set_option maxHeartbeats 8000000 in
theorem lineOf_any {F : Foot} {A : Option Addr} {c : Nat} (W : World) (L : List Token) {bm B : Nat} {U T X : Option Addr} {cu ct cx : Nat} {m : Module} {Gt Gf : Foot} (hS : SliceOf TokenR 2 24 W F (.slice A L.length c) L) (hF : ∀ k, F k → k < W.heap.size) (hfine : ∀ t ∈ L, t.kind = 2 → numOk t.text = true) (hl : L.length ≤ 200)
    (hM : Mods W bm B U T X cu ct cx m Gt Gf) (hBb : B ≤ W.heap.size) (hu : m.uses.length ≤ 4000) (ht : m.types.length ≤ 4000) (hf : m.funcs.length ≤ 4000) :
    Calls Tryz.prog 85 #[.pointer (some ⟨bm, 0, none⟩), .slice A L.length c] W (RefLine bm B W (lineR m L)) := by
  obtain ⟨R, hR⟩ : ∃ R, lineR m L = R := ⟨_, rfl⟩
  rw [hR]
  have hbmB := hM.low
  have hbm := hM.box.lt
  by_cases hL : L.length = 0
  · have hLn : L = [] := List.length_eq_zero_iff.1 hL
    have hLz : ((L.length : Int) == 0) = true := by simp [hL]
    have hx : R = .ok m := by rw [← hR, hLn]; rfl
    have HX := Lib.hid hx; have HM := Lib.hid hM
    clear hx hM
    clear hR hLn hS
    go_enter Tryz.func85, Tryz.ntmps85
    go_wp2_with fail
    go_ret
    exact ⟨m, 0, ⟨U, T, X, cu, ct, cx, Gt, Gf, HM.out⟩, Stay.refl _ _ _, rfl, .inl ⟨rfl, HX.out⟩⟩
  have hLz : ((L.length : Int) == 0) = false := by simp; exact fun h => hL (by rw [h]; rfl)
  have hrows : ∀ k, ((Value.slice U m.uses.length cu).ownBlock = some k ∨ (Value.slice T m.types.length ct).ownBlock = some k ∨ (Value.slice X m.funcs.length cx).ownBlock = some k) → k < W.heap.size := fun k hk => by
    rcases hk with hk | hk | hk
    · exact (hM.us.row hk).2
    · exact (hM.ts.row hk).2
    · exact (hM.fs.row hk).2
  have hft : ∀ k, Gt k ∨ Gf k → k < W.heap.size := fun k hk => hk.elim (fun h => (hM.ts.foot h).1) (fun h => (hM.fs.foot h).1)
  have HFT0 := Lib.hid hft; have HR := Lib.hid hR; have HM := Lib.hid hM; have HS := Lib.hid hS; have HF := Lib.hid hF; have HFINE := Lib.hid hfine; have HROWS0 := Lib.hid hrows; have HLN := Lib.hid hL
  clear hft hR hM hS hF hfine hrows hL
  go_enter Tryz.func85, Tryz.ntmps85
  go_upto_region 4 with fail
  have hBe := Box.made W 204 #[.slice A L.length c, .int .i64 0, .int .i64 0, .int .i64 0]
  have hbe : Below W.heap.size W (W.alloc (.cells #[.slice A L.length c, .int .i64 0, .int .i64 0, .int .i64 0] 204)) := by go_grown
  have hze : (W.alloc (.cells #[.slice A L.length c, .int .i64 0, .int .i64 0, .int .i64 0] 204)).heap.size = W.heap.size + 1 := by simp
  generalize W.alloc (.cells #[.slice A L.length c, .int .i64 0, .int .i64 0, .int .i64 0] 204) = W1 at hBe hbe hze ⊢
  obtain ⟨b, hb⟩ : ∃ b, W.heap.size = b := ⟨_, rfl⟩
  rw [hb] at hBe hBb hbm ⊢
  have hbl := hBe.lt
  have hs1 : Sight b F A c L W1 W1 0 0 0 := ⟨hBe, HS.out.stays TokenR.stays (fun _ h => h) (Keeps.of_below hbe (fun k hk => HF.out k hk)), Grew.refl_ _ _ _ some_le, fun k hk => by have := HF.out k hk; omega, Nat.zero_le _, HFINE.out, hl⟩
  have hmod : ∀ W', Grew b W1 W' (some b) → Mods W' bm B U T X cu ct cx m Gt Gf := fun W' hg => HM.out.later (hbe.trans (by rw [hb]; exact hg.below (Nat.le_refl _) (Nat.le_of_lt hbl)))
  have hst0 : Stay bm B W W1 := Stay.of_below hbe (by omega)
  have hsta : ∀ W', Grew b W1 W' (some b) → Stay bm B W W' := fun W' hg => hst0.trans (Stay.of_below (hg.below (Nat.le_refl _) (Nat.le_of_lt hbl)) hBb)
  have hrows : ∀ k, ((Value.slice U m.uses.length cu).ownBlock = some k ∨ (Value.slice T m.types.length ct).ownBlock = some k ∨ (Value.slice X m.funcs.length cx).ownBlock = some k) → k < b := fun k hk => by rw [← hb]; exact HROWS0.out k hk
  have hft : ∀ k, Gt k ∨ Gf k → k < b := fun k hk => by rw [← hb]; exact HFT0.out k hk
  have hnx := one_any hs1 hbl
  have HNX := Lib.hid hnx; have HMOD := Lib.hid hmod; have HSTA := Lib.hid hsta; have HROWS := Lib.hid hrows; have HSTB := Lib.hid hst0; have HFT := Lib.hid hft
  clear hnx hmod hsta hrows hst0 hft
  clear hBe hbe hze hs1 HM HS HROWS0 hb HF
  go_wp2_with fail
  refine HNX.out.mono ?_
  rintro en W2 ⟨t, i2, rfl, hN, hk, htx, hl1⟩
  obtain ⟨kd, tx⟩ := t
  dsimp only at *
  have hrec : L = ⟨kd, tx⟩ :: L.drop i2 := by
    rcases hN with ⟨_, h, _⟩ | ⟨h, _, _⟩
    · simpa using h
    · have := h rfl
      simp at this
      exact absurd (by rw [this]; rfl) HLN.out
  clear hN
  go_upto_region 5 with fail
  have hBt := Box.made W2 182 #[.int .i64 kd, .string tx]
  have hbt : Below W2.heap.size W2 (W2.alloc (.cells #[.int .i64 kd, .string tx] 182)) := by go_grown
  have hzt : (W2.alloc (.cells #[.int .i64 kd, .string tx] 182)).heap.size = W2.heap.size + 1 := by simp
  generalize W2.alloc (.cells #[.int .i64 kd, .string tx] 182) = W3 at hBt hbt hzt ⊢
  have hl3 := hl1.below hbt
  have x0 := hBt.at_ 0 _ rfl
  have x1 := hBt.at_ 1 _ rfl
  have HREC := Lib.hid hrec; have HTX := Lib.hid htx; have HL2 := Lib.hid hl3; have HT2 := Lib.hid hBt
  clear hrec htx hl3 hBt
  clear hl1 hbt hzt HNX
  have hx := HR.out
  rw [HREC.out, lineR_cons] at hx
  dsimp only at hx
  rw [eqb_use, eqb_type, eqb_func] at hx
  cases hq1 : (kd == 1) with
  | false =>
    have hq1z : (kd != 1) = true := by simp only [bne, hq1]; rfl
    rw [if_pos (by simpa using hq1)] at hx
    have HX := Lib.hid hx
    clear hx
    go_wp2_with fail
    go_ret
    exact ⟨m, 4, ⟨U, T, X, cu, ct, cx, Gt, Gf, HMOD.out _ HL2.out.grew⟩, HSTA.out _ HL2.out.grew, rfl, .inr ⟨by decide, HX.out.symm⟩⟩
  | true =>
    have hq1z : (kd != 1) = false := by simp only [bne, hq1]; rfl
    rw [if_neg (by simpa using hq1)] at hx
    go_upto_block 0 with fail
    go_cut [] (fun wc => ∃ (m' : Module) (j : Nat) (e' : Int), j ≤ L.length ∧ Aside (LineSo R L m' j e') ∧ Aside (ModOff wc bm B m' b) ∧ Aside (Stay bm B W wc) ∧ Aside (Box wc b 204 #[.slice A L.length c, .int .i64 j, .int .i64 e', .int .i64 0]))
    case first =>
      cases hqu : (tx.toList == [117, 115, 101]) with
      | true =>
        rw [hqu, if_pos rfl] at hx
        have hne := fun V (hV : Below W3.heap.size W3 V) => (eident_any (HL2.out.below hV).start).mono (R' := fun en W8 => ∃ s j8 e8, en = .returned (.string s) ∧ okS s ∧ St (Rs prName L i2 0) (prPure s) L j8 e8 ∧ Sight b F A c L W1 W8 j8 e8 0) (fun en W8 hh => by
          obtain ⟨s, _, j8, e8, rfl, ⟨rfl, h2⟩, h3, h4⟩ := hh
          exact ⟨s, j8, e8, rfl, h2, h3, (HL2.out.below hV).trans h4⟩)
        have hm2 := HMOD.out _ HL2.out.grew
        have y0 := hm2.box.at_ 0 _ rfl
        have HX := Lib.hid hx; have HNE := Lib.hid hne
        clear hx hne
        clear hm2
        go_wp2_with fail
        go_region_law (first
          | (go_simp; go_at_call 142; (with_reducible refine (HNE.out _ (by go_grown)).mono ?_); rintro en W8 ⟨s, j8, e8, rfl, hs8, hst8, hl8⟩; have hm8 := HMOD.out _ hl8.grew; have y0 := hm8.box.at_ 0 _ rfl; have g0 := hm8.box.free 0; have t0 := fun o => (hm8.box.alloc o).at_ 0 _ rfl; have HM8 := Lib.hid hm8; have HL8 := Lib.hid hl8; have HS8 := Lib.hid hs8; have HST8 := Lib.hid hst8; clear hm8 hl8 hs8 hst8)
          | ((refine step_push StrR.stays (.string ⟨#[]⟩) [.string s] s _ _ 23 rfl rfl Tryz.underlying23 (bytes := 16) (by kernel_rfl) (show Owns StrR 1 9 B _ none_ _ m.uses from HM8.out.us.alloc StrR.stays _) rfl rfl (by decide) rfl (heap_alloc_new _ _) rfl (show StrR _ none_ _ _ from ⟨rfl, HS8.out⟩) (StrR.one (w := W8) (F := none_) _ _ ⟨rfl, HS8.out⟩) (fun k hk => hk.elim) (by unfold maxLen; omega) (by omega) (by have := HL8.out.lt; rw [World.size_alloc]; omega) ?_); intro A9 c9 W9 hO9 hg9 hv9; have hbx := hg9.box (HM8.out.box.alloc _) hbmB; have g0 := hbx.free 0; clear y0; have y0 := hbx.at_ 0 _ rfl; have HO9 := Lib.hid hO9; have HG9 := Lib.hid hg9; have HV9 := Lib.hid hv9; clear hO9 hg9 hv9 hbx))
        all_goals
          (try go_wp2_with fail)
          go_meet
          obtain ⟨hst, hbx⟩ := sight_after (bm := bm) (i := 0) (.slice A9 (m.uses.length + 1) c9) HL8.out HG9.out (fun k hk => HROWS.out k (.inl hk)) hBb hbmB hbl
          exact ⟨_, j8, e8, HL8.out.le, aside (line_so (f := fun a => { m with uses := m.uses ++ [a] }) HX.out.symm HST8.out), aside ⟨A9, T, X, c9, ct, cx, Gt, Gf, (HM8.out.later ((Below.refl _ _).alloc (Nat.le_refl _) _)).pushU HO9.out (fun k hk => hk.elim id id) HG9.out HV9.out, ⟨(by have h := off_new HV9.out (fun k hk => HROWS.out k (.inl hk)) (by have := HL8.out.lt; rw [World.size_alloc]; omega : b < _); simpa using h), fun h => Nat.lt_irrefl _ (HROWS.out b (.inr (.inl h))), fun h => Nat.lt_irrefl _ (HROWS.out b (.inr (.inr h)))⟩, fun h => Nat.lt_irrefl _ (HFT.out b (.inl h)), fun h => Nat.lt_irrefl _ (HFT.out b (.inr h))⟩, aside (HSTB.out.trans hst), aside hbx⟩
      | false =>
        rw [hqu, if_neg (by simp)] at hx
        cases hqt : (tx.toList == [116, 121, 112, 101]) with
        | true =>
          rw [hqt, if_pos rfl] at hx
          have hcn := eident_any HL2.out.start
          have HX := Lib.hid hx; have HCN := Lib.hid hcn
          clear hx hcn
          go_wp2_with fail
          refine HCN.out.mono ?_
          rintro en W4 ⟨n, _, i4, e4, rfl, ⟨rfl, hno⟩, hst4, hl4⟩
          have hl4' := HL2.out.trans hl4
          have hst5 : St (Rs prField L i2 0) (prThen (prMust sEq) fun _ => prThen (prKind 40) fun t => prPure (⟨n, t⟩ : Field)) L i4 e4 := (St.start prField).then_ (f := fun n => prThen (prMust sEq) fun _ => prThen (prKind 40) fun t => prPure (⟨n, t⟩ : Field)) hst4
          go_upto_region 13 with fail
          have hBp := Box.made W4 78 #[.string n, .int .i64 0, .string ⟨#[]⟩, .string ⟨#[]⟩, .slice none 0 0]
          have hbp : Below W4.heap.size W4 (W4.alloc (.cells #[.string n, .int .i64 0, .string ⟨#[]⟩, .string ⟨#[]⟩, .slice none 0 0] 78)) := by go_grown
          have hzp : (W4.alloc (.cells #[.string n, .int .i64 0, .string ⟨#[]⟩, .string ⟨#[]⟩, .slice none 0 0] 78)).heap.size = W4.heap.size + 1 := by simp
          generalize W4.alloc (.cells #[.string n, .int .i64 0, .string ⟨#[]⟩, .string ⟨#[]⟩, .slice none 0 0] 78) = W5 at hBp hbp hzp ⊢
          have hl5 := hl4'.below hbp
          have hms := wants_any hl5.start sEq
          have hw4 := hl4'.size
          obtain ⟨pq, hpq⟩ : ∃ z, W4.heap.size = z := ⟨_, rfl⟩
          rw [hpq] at hBp ⊢
          have hpqb : pq ≠ b := by omega
          have HS5 := Lib.hid hst5; have HL5 := Lib.hid hl5; have HMS := Lib.hid hms; have HP5 := Lib.hid hBp; have HNO := Lib.hid hno
          clear hst5 hl5 hms hBp hno
          clear hl4 hl4' hst4 hbp hzp
          go_wp2_with fail
          refine HMS.out.mono ?_
          rintro en W6 ⟨_, _, i6, e6, rfl, rfl, hst6, hl6⟩
          have hl6' := HL5.out.trans hl6
          have hP6 := hl6.grew.box_ HP5.out hpqb
          have hst7 : St (Rs prField L i2 0) (prThen (prKind 40) fun t => prPure (⟨n, t⟩ : Field)) L i6 e6 := HS5.out.then_ hst6
          have hw6 := hl6'.size
          have hpl6 := hP6.lt
          have hkd6 := ekind_any 40 W6 i6 e6 0 hl6'.start (by omega) (by omega)
          have HL6 := Lib.hid hl6'; have HP6 := Lib.hid hP6; have HKD6 := Lib.hid hkd6; have HS7 := Lib.hid hst7
          clear hl6' hP6 hkd6 hst7
          clear hl6 hst6 HMS HL5 HP5 HS5
          go_wp2_with fail
          refine HKD6.out.mono ?_
          rintro en W7 ⟨ty, _, i7, e7, rfl, ⟨cs, rfl, hY⟩, hst8, hl7⟩
          have hl7' := HL6.out.trans hl7
          have hst9 : St (Rs prField L i2 0) (prPure (⟨n, ty⟩ : Field)) L i7 e7 := HS7.out.then_ hst8
          have hP7 := hl7.grew.box_ HP6.out hpqb
          have hs7 := hl7.size
          obtain ⟨A2, c2, rfl⟩ := TyR.form hY
          have x1 := hP7.at_ 1 _ rfl
          have x2 := hP7.at_ 2 _ rfl
          have x3 := hP7.at_ 3 _ rfl
          have x4 := hP7.at_ 4 _ rfl
          have g1 := hP7.free 1
          have g2 := hP7.free 2
          have g3 := hP7.free 3
          have g4 := hP7.free 4
          have HST8 := Lib.hid hst9; have HL7 := Lib.hid hl7'; have HP7 := Lib.hid hP7; have HYR := Lib.hid hY
          clear hst9 hl7' hP7 hY
          clear hl7 hst8 HKD6 HL6 HP6 HS7
          go_upto_region 15 with fail
          have hP8 := (((HP7.out.put 1 (.int .i64 ty.kind)).put 2 (.string ty.of_)).put 3 (.string ty.name)).put 4 (.slice A2 ty.args.length c2)
          simp only [List.setIfInBounds_toArray, List.set_cons_zero, List.set_cons_succ] at hP8
          have hpW : W1.heap.size ≤ pq := by omega
          have hl8 := (((HL7.out.set (p := ⟨pq, 1, none⟩) hpW hbl (.int .i64 ty.kind)).set (p := ⟨pq, 2, none⟩) hpW hbl (.string ty.of_)).set (p := ⟨pq, 3, none⟩) hpW hbl (.string ty.name)).set (p := ⟨pq, 4, none⟩) hpW hbl (.slice A2 ty.args.length c2)
          have hyk : ¬ fresh W6.heap.size W7.heap.size pq := fun h => by have := h.1; omega
          have hY8 := TyR.stays _ _ _ _ _ _ HYR.out (fun _ h => h) (((((Keeps.refl _ _).setCell (q := ⟨pq, 1, none⟩) hyk (.int .i64 ty.kind)).setCell (q := ⟨pq, 2, none⟩) hyk (.string ty.of_)).setCell (q := ⟨pq, 3, none⟩) hyk (.string ty.name)).setCell (q := ⟨pq, 4, none⟩) hyk (.slice A2 ty.args.length c2))
          have hz8 : ((((W7.setCell ⟨pq, 1, none⟩ (.int .i64 ty.kind)).setCell ⟨pq, 2, none⟩ (.string ty.of_)).setCell ⟨pq, 3, none⟩ (.string ty.name)).setCell ⟨pq, 4, none⟩ (.slice A2 ty.args.length c2)).heap.size = W7.heap.size := by simp only [size_set]
          generalize (((W7.setCell ⟨pq, 1, none⟩ (.int .i64 ty.kind)).setCell ⟨pq, 2, none⟩ (.string ty.of_)).setCell ⟨pq, 3, none⟩ (.string ty.name)).setCell ⟨pq, 4, none⟩ (.slice A2 ty.args.length c2) = W8 at hP8 hl8 hY8 hz8 ⊢
          clear x1 x2 x3 x4 g1 g2 g3 g4
          have hm8 := HMOD.out _ hl8.grew
          have y1 := hm8.box.at_ 1 _ rfl
          have t1 := fun o => (hm8.box.alloc o).at_ 1 _ rfl
          have g1 := hm8.box.free 1
          have x0 := hP8.at_ 0 _ rfl
          have x1 := hP8.at_ 1 _ rfl
          have x2 := hP8.at_ 2 _ rfl
          have x3 := hP8.at_ 3 _ rfl
          have x4 := hP8.at_ 4 _ rfl
          have hFR : FieldR W8 (fresh W6.heap.size W7.heap.size) [.string n, .int .i64 ty.kind, .string ty.of_, .string ty.name, .slice A2 ty.args.length c2] ⟨n, ty⟩ := ⟨[.int .i64 ty.kind, .string ty.of_, .string ty.name, .slice A2 ty.args.length c2], rfl, HNO.out, hY8⟩
          have hTD : ∀ o, Owns FieldR 5 78 B (W8.alloc o).drew Gt (.slice T m.types.length ct) m.types := fun o => (hm8.ts.alloc FieldR.stays o).below FieldR.stays (by go_grown)
          have hFD : ∀ o, FieldR (W8.alloc o).drew (fresh W6.heap.size W7.heap.size) [.string n, .int .i64 ty.kind, .string ty.of_, .string ty.name, .slice A2 ty.args.length c2] ⟨n, ty⟩ := fun o => FieldR.stays _ _ _ _ _ _ (FieldR.stays.alloc hFR (fun k hk => by have := hk.2; omega) o) (fun _ h => h) (Keeps.refl _ _).drew
          have hSD : ∀ o, (W8.alloc o).drew.heap.size = W8.heap.size + 1 := fun o => by show (W8.alloc o).heap.size = _; simp
          have HL8 := Lib.hid hl8; have HM8 := Lib.hid hm8; have HFR := Lib.hid hFR; have HZ8 := Lib.hid hz8; have HTD := Lib.hid hTD; have HFD := Lib.hid hFD; have HSD := Lib.hid hSD
          clear hl8 hm8 hFR hz8 hTD hFD hSD
          clear hP8 HP7 HL7 HYR hY8
          go_region_law ((refine step_push FieldR.stays (.agg #[.string ⟨#[]⟩, .int .i64 0, .string ⟨#[]⟩, .string ⟨#[]⟩, .slice none 0 0]) [.string n, .int .i64 ty.kind, .string ty.of_, .string ty.name, .slice A2 ty.args.length c2] ⟨n, ty⟩ _ _ 24 rfl rfl Tryz.underlying24 (bytes := 80) (by kernel_rfl) (HTD.out _) rfl rfl (by decide) rfl (heap_alloc_new _ _) rfl (HFD.out _) (rfield_cells HFR.out) (fun k hk => ⟨by have := hk.2; have := HZ8.out; rw [HSD.out]; omega, fun e => by have := HROWS.out k (.inr (.inl e.symm)); have := hk.1; omega⟩) (by unfold maxLen; omega) (by omega) (by have := HL8.out.lt; rw [HSD.out]; omega) ?_); intro A9 c9 W9 hO9 hg9 hv9; have hbx := hg9.box (HM8.out.box.alloc _).drew hbmB; clear y1 g1; have g1 := hbx.free 1; have y1 := hbx.at_ 1 _ rfl; have HO9 := Lib.hid hO9; have HG9 := Lib.hid hg9; have HV9 := Lib.hid hv9; clear hO9 hg9 hv9 hbx)
          all_goals
            (try go_wp2_with fail)
            go_meet
            obtain ⟨hst, hbx⟩ := sight_after (bm := bm) (i := 1) (.slice A9 (m.types.length + 1) c9) HL8.out HG9.out.drew_ (fun k hk => HROWS.out k (.inr (.inl hk))) hBb hbmB hbl
            exact ⟨_, i7, e7, HL8.out.le, aside (line_so (f := fun a => { m with types := m.types ++ [a] }) HX.out.symm HST8.out), aside ⟨U, A9, X, cu, c9, cx, _, Gf, (HM8.out.later ((Below.refl _ _).alloc (Nat.le_refl _) _)).pushT HO9.out (fun k hk => ⟨by have := hk.1; omega, by have := hk.2; have := HZ8.out; rw [World.size_alloc]; omega, fun e => by have := HROWS.out k (.inl e); have := hk.1; omega, fun e => by have := HROWS.out k (.inr (.inr e)); have := hk.1; omega⟩) HG9.out.drew_ HV9.out, ⟨fun h => Nat.lt_irrefl _ (HROWS.out b (.inl h)), (by have h := off_new HV9.out (fun k hk => HROWS.out k (.inr (.inl hk))) (by have := HL8.out.lt; rw [HSD.out]; omega : b < _); simpa using h), fun h => Nat.lt_irrefl _ (HROWS.out b (.inr (.inr h)))⟩, fun h => h.elim (fun h => Nat.lt_irrefl _ (HFT.out b (.inl h))) (fun h => by have h1 := h.1; omega), fun h => Nat.lt_irrefl _ (HFT.out b (.inr h))⟩, aside (HSTB.out.trans hst), aside hbx⟩
        | false =>
          rw [hqt, if_neg (by simp)] at hx
          cases hqf : (tx.toList == [102, 117, 110, 99]) with
          | false =>
            rw [hqf, if_neg (by simp)] at hx
            have HX := Lib.hid hx
            clear hx
            go_wp2_with fail
            go_ret
            exact ⟨m, 4, ⟨U, T, X, cu, ct, cx, Gt, Gf, HMOD.out _ HL2.out.grew⟩, HSTA.out _ HL2.out.grew, rfl, .inr ⟨by decide, HX.out.symm⟩⟩
          | true =>
            rw [hqf, if_pos rfl] at hx
            have hne := fun V (hV : Below W3.heap.size W3 V) => (efun_any V i2 0 (HL2.out.below hV).start).mono (R' := fun en W8 => ∃ x j8 e8 P1 p1 A2 n2 A3 n3, en = .returned (.agg #[.string x.name, .string x.var_, .slice P1 x.params.length p1, .int .i64 x.result.kind, .string x.result.of_, .string x.result.name, .slice A2 x.result.args.length n2, .int .i64 x.body.kind, .int .i64 x.body.n, .string x.body.of_, .string x.body.s, .slice A3 x.body.args.length n3]) ∧
                FuncR W8 (fresh V.heap.size W8.heap.size) [.string x.name, .string x.var_, .slice P1 x.params.length p1, .int .i64 x.result.kind, .string x.result.of_, .string x.result.name, .slice A2 x.result.args.length n2, .int .i64 x.body.kind, .int .i64 x.body.n, .string x.body.of_, .string x.body.s, .slice A3 x.body.args.length n3] x ∧ St (Rs prFun L i2 0) (prPure x) L j8 e8 ∧ Sight b F A c L W1 W8 j8 e8 0) (fun en W8 hh => by
              obtain ⟨x, _, j8, e8, rfl, ⟨cs, rfl, h2⟩, h3, h4⟩ := hh
              obtain ⟨P1, p1, A2, n2, A3, n3, rfl⟩ := FuncR.cells h2
              exact ⟨x, j8, e8, P1, p1, A2, n2, A3, n3, rfl, h2, h3, (HL2.out.below hV).trans h4⟩)
            have hm2 := HMOD.out _ HL2.out.grew
            have y0 := hm2.box.at_ 2 _ rfl
            have hw2 := HL2.out.lt
            have HX := Lib.hid hx; have HNE := Lib.hid hne
            clear hx hne
            clear hm2
            go_wp2_with fail
            go_region_law (first
              | (go_simp; go_at_call 145; (with_reducible refine (HNE.out _ (by go_grown)).mono ?_); rintro en W8 ⟨x, j8, e8, P1, p1, A2, n2, A3, n3, rfl, hX8, hst8, hl8⟩; have hm8 := HMOD.out _ hl8.grew; have y0 := hm8.box.at_ 2 _ rfl; have g0 := hm8.box.free 2; have t0 := fun o => (hm8.box.alloc o).at_ 2 _ rfl; have HM8 := Lib.hid hm8; have HL8 := Lib.hid hl8; have HX8 := Lib.hid hX8; have HST8 := Lib.hid hst8; clear hm8 hl8 hX8 hst8)
              | ((refine step_push FuncR.stays (.agg #[.string ⟨#[]⟩, .string ⟨#[]⟩, .slice none 0 0, .int .i64 0, .string ⟨#[]⟩, .string ⟨#[]⟩, .slice none 0 0, .int .i64 0, .int .i64 0, .string ⟨#[]⟩, .string ⟨#[]⟩, .slice none 0 0]) [.string x.name, .string x.var_, .slice P1 x.params.length p1, .int .i64 x.result.kind, .string x.result.of_, .string x.result.name, .slice A2 x.result.args.length n2, .int .i64 x.body.kind, .int .i64 x.body.n, .string x.body.of_, .string x.body.s, .slice A3 x.body.args.length n3] x _ _ 25 rfl rfl Tryz.underlying25 (bytes := 192) (by kernel_rfl) (show Owns FuncR 12 83 B _ Gf _ m.funcs from HM8.out.fs.alloc FuncR.stays _) rfl rfl (by decide) rfl (heap_alloc_new _ _) rfl (show FuncR _ (fresh W3.heap.size W8.heap.size) _ _ from FuncR.stays.alloc HX8.out fresh_lt _) (rfunc_cells HX8.out) (fun k hk => ⟨by have := hk.2; rw [World.size_alloc]; omega, fun e => by have := HROWS.out k (.inr (.inr e.symm)); have := hk.1; omega⟩) (by unfold maxLen; omega) (by omega) (by have := HL8.out.lt; rw [World.size_alloc]; omega) ?_); intro A9 c9 W9 hO9 hg9 hv9; have hbx := hg9.box (HM8.out.box.alloc _) hbmB; have g0 := hbx.free 2; clear y0; have y0 := hbx.at_ 2 _ rfl; have HO9 := Lib.hid hO9; have HG9 := Lib.hid hg9; have HV9 := Lib.hid hv9; clear hO9 hg9 hv9 hbx))
            all_goals
              (try go_wp2_with fail)
              go_meet
              obtain ⟨hst, hbx⟩ := sight_after (bm := bm) (i := 2) (.slice A9 (m.funcs.length + 1) c9) HL8.out HG9.out (fun k hk => HROWS.out k (.inr (.inr hk))) hBb hbmB hbl
              exact ⟨_, j8, e8, HL8.out.le, aside (line_so (f := fun a => { m with funcs := m.funcs ++ [a] }) HX.out.symm HST8.out), aside ⟨U, T, A9, cu, ct, c9, Gt, _, (HM8.out.later ((Below.refl _ _).alloc (Nat.le_refl _) _)).pushF HO9.out (fun k hk => ⟨by have := hk.1; omega, by have := hk.2; rw [World.size_alloc]; omega, fun e => by have := HROWS.out k (.inl e); have := hk.1; omega, fun e => by have := HROWS.out k (.inr (.inl e)); have := hk.1; omega⟩) HG9.out HV9.out, ⟨fun h => Nat.lt_irrefl _ (HROWS.out b (.inl h)), fun h => Nat.lt_irrefl _ (HROWS.out b (.inr (.inl h))), (by have h := off_new HV9.out (fun k hk => HROWS.out k (.inr (.inr hk))) (by have := HL8.out.lt; rw [World.size_alloc]; omega : b < _); simpa using h)⟩, fun h => Nat.lt_irrefl _ (HFT.out b (.inl h)), fun h => h.elim (fun h => Nat.lt_irrefl _ (HFT.out b (.inr h))) (fun h => by have h1 := h.1; omega)⟩, aside (HSTB.out.trans hst), aside hbx⟩
    case rest =>
      obtain ⟨m', j, e', hj, hso, hmd, hst, hbx⟩ := hcut
      obtain ⟨W4, rfl⟩ : ∃ W, W = wc := ⟨_, rfl⟩
      have hbx := hbx.out
      have hbe := ebad_box 4 hbx
      have hbb : b ≠ bm := by omega
      have z1 := hbx.at_ 1 _ rfl
      have z2 := hbx.at_ 2 _ rfl
      have HBE := Lib.hid hbe; have HBX := Lib.hid hbx; have HSO := Lib.hid hso; have HMD := Lib.hid hmd; have HST := Lib.hid hst
      clear hbe hbx hso hmd hst
      clear x0 x1 hx
      by_cases hlt : j < L.length
      · have hltz : (j : Int) < (L.length : Int) := by omega
        have hne : (L.drop j).length ≠ 0 := by rw [List.length_drop]; omega
        have hso2 : R = .error (badE e' 4) ∧ badE e' 4 ≠ 0 := by
          unfold badE
          split
          · rename_i h0
            have := HSO.out.out.1 h0
            rw [if_neg hne] at this
            exact ⟨this, by decide⟩
          · rename_i h0
            exact ⟨HSO.out.out.2 h0, h0⟩
        have HS2 := Lib.hid hso2
        clear hso2
        clear hlt hne
        go_wp2_with fail
        refine HBE.out.mono ?_
        rintro en W5 ⟨rfl, hb5, hg5, hk5⟩
        have hmd5 := HMD.out.out.touch hbb hg5 hk5
        have hst5 : Stay bm B W W5 := HST.out.out.trans ⟨hg5.os, hg5.tape, hg5.output, hg5.size, fun k h1 h2 => by
          by_cases hkl : k < W4.heap.size
          · exact hk5 k hkl (by omega)
          · exact absurd (show k < W4.heap.size by have := HBX.out.lt; omega) hkl⟩
        clear z1 z2
        have z2 := hb5.at_ 2 _ rfl
        have HM5 := Lib.hid hmd5; have HST5 := Lib.hid hst5
        clear hmd5 hst5
        clear hb5 hg5 hk5
        go_wp2_with fail
        go_ret
        exact ⟨m', badE e' 4, HM5.out, HST5.out, rfl, .inr ⟨HS2.out.2, HS2.out.1⟩⟩
      · have hltz : ¬ ((j : Int) < (L.length : Int)) := by omega
        have hltz2 : decide (j < L.length) = false := decide_eq_false hlt
        have he0 : (L.drop j).length = 0 := by rw [List.length_drop]; omega
        clear hlt
        have hma : ModAt W4 bm B m' := by
          obtain ⟨U, T, X, cu, ct, cx, Gt, Gf, h, _⟩ := HMD.out.out
          exact ⟨U, T, X, cu, ct, cx, Gt, Gf, h⟩
        have hso2 : (e' = 0 ∧ R = .ok m') ∨ (e' ≠ 0 ∧ R = .error e') := by
          by_cases h0 : e' = 0
          · have := HSO.out.out.1 h0
            rw [if_pos he0] at this
            exact .inl ⟨h0, this⟩
          · exact .inr ⟨h0, HSO.out.out.2 h0⟩
        have HS2 := Lib.hid hso2; have HMA := Lib.hid hma
        clear hso2 hma
        clear he0
        go_wp2_with fail
        go_ret
        exact ⟨m', e', HMA.out, HST.out.out, rfl, HS2.out⟩

end Go.Proofs.YtjaladhdnbhliaaGreatDoor
