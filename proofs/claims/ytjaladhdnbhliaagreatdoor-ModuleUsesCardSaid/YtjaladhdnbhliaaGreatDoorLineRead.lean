/- A line of a module: (*tree.reader).line. -/
import Derived.Test.YtjaladhdnbhliaaGreatDoorReadG
import Derived.Test.YtjaladhdnbhliaaGreatDoorMods
import Derived.Test.YtjaladhdnbhliaaGreatDoorTreeChk4
import Derived.Deep.CutBlock
namespace Go.Proofs.YtjaladhdnbhliaaGreatDoor
open Go.RowKit Go.Shelf

/-- What a line gives. -/
def LineGave (bm B : Nat) (W : World) (r : Except Int Module) (e : Ending) (W' : World) : Prop :=
  ∃ m', ModAt W' bm B m' ∧ Stay bm B W W' ∧ ((e = .returned (.tuple #[]) ∧ r = .ok m') ∨ ∃ k, e = .panicked [faultV k] ∧ r = .error k)

theorem prEnd_err {α : Type} {p : Pr α} {l : List Token} {k : Int} (h : p l = .error k) : prEnd p l = .error k := prThen_err h
theorem prEnd_ok {α : Type} {p : Pr α} {l r : List Token} {x : α} (h : p l = .ok (x, r)) : prEnd p l = if r.length = 0 then .ok (x, []) else .error 4 := by
  refine (prThen_ok h).trans ?_
  cases r with
  | nil => rfl
  | cons t u => rfl
theorem lineR_cons (m : Module) (t : Token) (r : List Token) : lineR m (t :: r) = if t.kind ≠ 1 then .error 4
    else if eqB t.text kwUse = true then (prEnd prName r).map fun x => { m with uses := m.uses ++ [x.1] }
    else if eqB t.text kwType = true then (prEnd prField r).map fun x => { m with types := m.types ++ [x.1] }
    else if eqB t.text kwFunc = true then (prEnd prFun r).map fun x => { m with funcs := m.funcs ++ [x.1] }
    else .error 4 := rfl
theorem eqb_use (s : ByteArray) : eqB s kwUse = (s.toList == [117, 115, 101]) := by unfold eqB; rw [show kwUse.toList = [117, 115, 101] by rw [ByteArray.toList_eq]; rfl]
theorem eqb_type (s : ByteArray) : eqB s kwType = (s.toList == [116, 121, 112, 101]) := by unfold eqB; rw [show kwType.toList = [116, 121, 112, 101] by rw [ByteArray.toList_eq]; rfl]
theorem eqb_func (s : ByteArray) : eqB s kwFunc = (s.toList == [102, 117, 110, 99]) := by unfold eqB; rw [show kwFunc.toList = [102, 117, 110, 99] by rw [ByteArray.toList_eq]; rfl]
theorem map_if {α β : Type} {x : α} {c : Prop} [Decidable c] {f : α → β} {k : Int} : (if c then (.ok x : Except Int α) else .error k).map f = if c then .ok (f x) else .error k := by split <;> rfl

theorem rfunc_cells {w : World} {F : Foot} {cs : List Value} {x : Func} (h : FuncR w F cs x) : ∀ u ∈ cs, u.oneCell' = true := by
  obtain ⟨P1, p1, A2, n2, A3, n3, rfl⟩ := FuncR.cells h
  intro u hu
  simp only [List.mem_cons, List.not_mem_nil, or_false] at hu
  rcases hu with rfl | rfl | rfl | rfl | rfl | rfl | rfl | rfl | rfl | rfl | rfl | rfl <;> rfl
/-- Behind a row's growth: the reader, and what lies below. -/
theorem look_after {b bm B i : Nat} {F : Foot} {W W8 W9 : World} {L : List Token} {d : Int} {o : Obj} {row : Option Nat} (u : Value) (hl : Look b F W W8 L d) (hg : Grew B (W8.alloc o) W9 row) (hrow : ∀ k, row = some k → k < b) (hBb : B ≤ b) (hbm : bm < B) (hbW : b < W.heap.size) :
    Stay bm B W (W9.setCell ⟨bm, i, none⟩ u) ∧ ∃ A c, Box (W9.setCell ⟨bm, i, none⟩ u) b 141 #[.slice A L.length c, .int .i64 d] := by
  have h1 : Stay bm B W W8 := Stay.of_below (hl.grew.below (Nat.le_refl _) (Nat.le_of_lt hbW)) hBb
  have hs : W.heap.size ≤ W8.heap.size := hl.size
  have h2 : Stay bm B W8 W9 := (Stay.of_below ((Below.refl _ W8).alloc (Nat.le_refl _) o) (by omega)).trans (Stay.of_grew hg (by rw [World.size_alloc]; omega))
  obtain ⟨A, c, hB, _⟩ := hl.eyes
  refine ⟨(h1.trans h2).set i u, A, c, ?_⟩
  have hB9 : Box W9 b 141 #[.slice A L.length c, .int .i64 d] := (hB.alloc o).of_heap (hg.block b (by rw [World.size_alloc]; have := hB.lt; omega) (fun e => Nat.lt_irrefl _ (hrow b e.symm)))
  exact hB9.far (by show b ≠ bm; omega) u

set_option maxRecDepth 100000 in
set_option maxHeartbeats 8000000 in
theorem line_any {b : Nat} {F : Foot} (W0 W : World) (L : List Token) {bm B : Nat} {U T X : Option Addr} {cu ct cx : Nat} {m : Module} {Gt Gf : Foot} (h : Look b F W W L 0) (hl : L.length ≤ 200) (hk1 : ∀ t ∈ L, 1 ≤ t.kind)
    (hM : Mods W0 bm B U T X cu ct cx m Gt Gf) (hb0 : W0.heap.size = b) (hW : Below b W0 W) (hBb : B ≤ b) (hu : m.uses.length ≤ 4000) (ht : m.types.length ≤ 4000) (hf : m.funcs.length ≤ 4000) :
    Calls Tryz.prog 81 #[.pointer (some ⟨b, 0, none⟩), .pointer (some ⟨bm, 0, none⟩)] W (LineGave bm B W (lineR m L)) := by
  obtain ⟨R, hR⟩ : ∃ R, lineR m L = R := ⟨_, rfl⟩
  rw [hR]
  have hbl := h.lt
  have hnx := next_any h hbl
  have hmod : ∀ W', Grew b W W' (some b) → Mods W' bm B U T X cu ct cx m Gt Gf := fun W' hg => hM.later (by rw [hb0]; exact hW.trans (hg.below (Nat.le_refl _) (Nat.le_of_lt hbl)))
  have hsta : ∀ W', Grew b W W' (some b) → Stay bm B W W' := fun W' hg => Stay.of_below (hg.below (Nat.le_refl _) (Nat.le_of_lt hbl)) hBb
  have hrows : ∀ k, ((Value.slice U m.uses.length cu).ownBlock = some k ∨ (Value.slice T m.types.length ct).ownBlock = some k ∨ (Value.slice X m.funcs.length cx).ownBlock = some k) → k < b := fun k hk => by
    rw [← hb0]
    rcases hk with hk | hk | hk
    · exact (hM.us.row hk).2
    · exact (hM.ts.row hk).2
    · exact (hM.fs.row hk).2
  have hbmB := hM.low
  have HR := Lib.hid hR; have HH := Lib.hid h; have HNX := Lib.hid hnx; have HMOD := Lib.hid hmod; have HSTA := Lib.hid hsta; have HROWS := Lib.hid hrows; have HK1 := Lib.hid hk1
  clear hR h hnx hmod hsta hrows hk1
  clear hM hW
  go_enter Tryz.func81, Tryz.ntmps81
  go_wp2_with fail
  refine HNX.out.mono ?_
  rintro e W1 ⟨t, L1, rfl, hN, hk, htx, hl1⟩
  obtain ⟨kd, tx⟩ := t
  dsimp only at *
  have hrec : 1 ≤ kd → L = ⟨kd, tx⟩ :: L1 := fun h1 => by
    rcases hN with ⟨_, h, _⟩ | h
    · injection h with h2 h3; omega
    · exact h
  have hnil : kd = 0 → L = [] ∧ L1 = [] := fun h0 => by
    rcases hN with ⟨h1, _, h2⟩ | h
    · exact ⟨h1, h2⟩
    · have := HK1.out ⟨kd, tx⟩ (by rw [h]; exact List.mem_cons_self)
      dsimp only at this; omega
  have hkd : kd ≠ 0 → 1 ≤ kd := fun h0 => by
    rcases hN with ⟨_, h, _⟩ | h
    · injection h with h2 h3; omega
    · exact HK1.out ⟨kd, tx⟩ (by rw [h]; exact List.mem_cons_self)
  have hll : L1.length ≤ L.length := by
    rcases hN with ⟨_, _, h⟩ | h <;> (rw [h]; simp)
  clear hN
  go_upto_block 0 with fail
  have hBt := Box.made W1 182 #[.int .i64 kd, .string tx]
  have hbt : Below W1.heap.size W1 (W1.alloc (.cells #[.int .i64 kd, .string tx] 182)) := by go_grown
  have hzt : (W1.alloc (.cells #[.int .i64 kd, .string tx] 182)).heap.size = W1.heap.size + 1 := by simp
  generalize W1.alloc (.cells #[.int .i64 kd, .string tx] 182) = W2 at hBt hbt hzt ⊢
  have hl2 := hl1.below hbt
  have x0 := hBt.at_ 0 _ rfl
  have x1 := hBt.at_ 1 _ rfl
  have HREC := Lib.hid hrec; have HNIL := Lib.hid hnil; have HKD := Lib.hid hkd; have HTX := Lib.hid htx; have HL2 := Lib.hid hl2; have HT2 := Lib.hid hBt
  clear hrec hnil hkd htx hl2 hBt
  clear hl1 hbt hzt HNX
  go_cut [] (fun wc => ∃ (m' : Module) (L' : List Token) (A : Option Addr) (c : Nat), Aside (R = if L'.length = 0 then .ok m' else .error 4) ∧ Aside (ModAt wc bm B m') ∧ Aside (Stay bm B W wc) ∧ Aside (Box wc b 141 #[.slice A L'.length c, .int .i64 0]))
  case first =>
    cases hq0 : (kd == 0) with
    | true =>
      obtain ⟨hLn, rfl⟩ := HNIL.out (by simpa using hq0)
      have hx : R = .ok m := by rw [← HR.out, hLn]; rfl
      obtain ⟨A, c, hB, _⟩ := HL2.out.eyes
      have HX := Lib.hid hx; have HB := Lib.hid hB
      clear hx hB
      clear hLn
      go_wp2_with fail
      go_meet
      exact ⟨m, [], A, c, aside HX.out, aside ⟨U, T, X, cu, ct, cx, Gt, Gf, HMOD.out _ HL2.out.grew⟩, aside (HSTA.out _ HL2.out.grew), aside HB.out⟩
    | false =>
      have hk0 : kd ≠ 0 := by simpa using hq0
      have hx := HR.out
      rw [HREC.out (HKD.out hk0), lineR_cons] at hx
      dsimp only at hx
      rw [eqb_use, eqb_type, eqb_func] at hx
      clear hk0
      cases hq1 : (kd == 1) with
      | false =>
        have hq1z : (kd != 1) = true := by simp only [bne, hq1]; rfl
        rw [if_pos (by simpa using hq1)] at hx
        have HX := Lib.hid hx
        clear hx
        go_wp2_with (first | (go_at_call 71; (with_reducible refine (need_yes _ _).mono ?_); rintro e w' ⟨rfl, rfl⟩) | (go_at_call 71; (with_reducible refine (need_no _ _).mono ?_); rintro e w' ⟨rfl, rfl⟩))
        exact ⟨rfl, m, ⟨U, T, X, cu, ct, cx, Gt, Gf, HMOD.out _ HL2.out.grew⟩, HSTA.out _ HL2.out.grew, .inr ⟨4, rfl, HX.out.symm⟩⟩
      | true =>
        have hq1z : (kd != 1) = false := by simp only [bne, hq1]; rfl
        rw [if_neg (by simpa using hq1)] at hx
        cases hqu : (tx.toList == [117, 115, 101]) with
        | true =>
          rw [hqu, if_pos rfl] at hx
          have hcn := fun U (hU : Below W2.heap.size W2 U) => name_any (HL2.out.below hU).start (HL2.out.below hU).lt
          have HX := Lib.hid hx; have HCN := Lib.hid hcn
          clear hx hcn
          cases hpn : prName L1 with
          | error k =>
            have hxk : R = .error k := by rw [← HX.out, prEnd_err hpn]; rfl
            have hne := fun U hU => (HCN.out U hU).mono (R' := fun e W8 => e = .panicked [faultV k] ∧ Grew b W W8 (some b)) (fun e W8 hh => by
              rcases hh with ⟨n, L8, _, h1, _⟩ | ⟨k', L8, d8, h1, rfl, h3, h4, h5⟩
              · rw [hpn] at h1; cases h1
              · rw [hpn] at h1; cases h1; exact ⟨rfl, ((HL2.out.below hU).trans h3).grew⟩)
            have hm2 := HMOD.out _ HL2.out.grew
            have y0 := hm2.box.at_ 0 _ rfl
            have HXK := Lib.hid hxk; have HNE := Lib.hid hne
            clear hxk hne
            clear HCN hpn HX hm2
            go_wp2_with fail
            refine wp_region_panics [] (fun c W8 => c = [faultV k] ∧ Grew b W W8 (some b)) ?_ ?_
            · rintro c ⟨tm, df⟩ W8 rfl ⟨rfl, hg8⟩
              exact ⟨rfl, m, ⟨U, T, X, cu, ct, cx, Gt, Gf, HMOD.out _ hg8⟩, HSTA.out _ hg8, .inr ⟨k, rfl, HXK.out⟩⟩
            refine wp_region_held_drew (S := fun w' => w'.cell? ⟨bm, 0, none⟩ = some (.slice U m.uses.length cu)) (by kernel_rfl) y0 (fun hHeld => ?_)
            refine wpAnyH_take (i := 0) (v := ?_) rfl (by kernel_rfl) (by kernel_rfl) (by kernel_rfl) (fun _ _ _ h => h) (Or.inl ⟨by rfl, ?_⟩) (by assumption) ?_
            rotate_left
            · intro w hSw; (try dsimp only at hSw); go_simp; try with_reducible rfl
            simp only [Act.put, List.setIfInBounds_toArray]
            refine wpAnyH_take (i := 1) (v := ?_) rfl (by kernel_rfl) (by kernel_rfl) (by kernel_rfl) (fun _ _ _ h => h) (Or.inl ⟨by rfl, ?_⟩) (by assumption) ?_
            rotate_left
            · intro w hSw; (try dsimp only at hSw); go_simp; try with_reducible rfl
            simp only [Act.put]
            refine wpAnyH_take (i := 2) (v := ?_) rfl (by kernel_rfl) (by kernel_rfl) (by kernel_rfl) (fun _ _ _ h => h) (Or.inl ⟨by rfl, ?_⟩) (by assumption) ?_
            rotate_left
            · intro w hSw; (try dsimp only at hSw); go_simp; try with_reducible rfl
            simp only [Act.put]
            refine wpAnyH_take (i := 3) (v := ?_) rfl (by kernel_rfl) (by kernel_rfl) (by kernel_rfl) (fun _ _ _ h => h) (Or.inl ⟨by rfl, ?_⟩) (by assumption) ?_
            rotate_left
            · intro w hSw; (try dsimp only at hSw); go_simp; try with_reducible rfl
            simp only [Act.put]
            refine wpAnyH_take (i := 4) (v := ?_) rfl (by kernel_rfl) (by kernel_rfl) (by kernel_rfl) (fun _ _ _ h => h) (Or.inl ⟨by rfl, ?_⟩) (by assumption) ?_
            rotate_left
            · intro w hSw; (try dsimp only at hSw); go_simp; try with_reducible rfl
            simp only [Act.put]
            refine wpAnyH_take (i := 5) (v := ?_) rfl (by kernel_rfl) (by kernel_rfl) (by kernel_rfl) (fun _ _ _ h => h) (Or.inl ⟨by rfl, ?_⟩) (by assumption) ?_
            rotate_left
            · intro w hSw; (try dsimp only at hSw); go_simp; try with_reducible rfl
            simp only [Act.put]
            refine wpAnyH_ready (rs := [6]) (by kernel_rfl) (by simp) ?_
            refine AllReadyH.cons rfl (fun K hK => ?_) AllReadyH.nil
            go_simp
            refine (HNE.out _ (by go_grown)).mono ?_
            rintro e W8 ⟨rfl, hh⟩
            exact ⟨rfl, rfl, hh⟩
          | ok a =>
            obtain ⟨s, L3⟩ := a
            have hxk : R = if L3.length = 0 then .ok { m with uses := m.uses ++ [s] } else .error 4 := by rw [← HX.out, prEnd_ok hpn]; exact map_if
            have hne := fun U hU => (HCN.out U hU).mono (R' := fun e W8 => e = .returned (.string s) ∧ okS s ∧ Look b F W W8 L3 0) (fun e W8 hh => by
              rcases hh with ⟨n, L8, _, h1, rfl, ⟨rfl, h2⟩, h3⟩ | ⟨k', L8, d8, h1, _⟩
              · rw [hpn] at h1; cases h1; exact ⟨rfl, h2, (HL2.out.below hU).trans h3⟩
              · rw [hpn] at h1; cases h1)
            have hm2 := HMOD.out _ HL2.out.grew
            have y0 := hm2.box.at_ 0 _ rfl
            have HXK := Lib.hid hxk; have HNE := Lib.hid hne
            clear hxk hne
            clear HCN hpn HX hm2
            go_wp2_with fail
            go_region_law (first
              | (go_simp; go_at_call 124; (with_reducible refine (HNE.out _ (by go_grown)).mono ?_); rintro e W8 ⟨rfl, hs8, hl8⟩; have hm8 := HMOD.out _ hl8.grew; have y0 := hm8.box.at_ 0 _ rfl; have g0 := hm8.box.free 0; have t0 := fun o => (hm8.box.alloc o).at_ 0 _ rfl; have HM8 := Lib.hid hm8; have HL8 := Lib.hid hl8; have HS8 := Lib.hid hs8; clear hm8 hl8 hs8)
              | ((refine step_push StrR.stays (.string ⟨#[]⟩) [.string s] s _ _ 23 rfl rfl Tryz.underlying23 (bytes := 16) (by kernel_rfl) (show Owns StrR 1 9 B _ none_ _ m.uses from HM8.out.us.alloc StrR.stays _) rfl rfl (by decide) rfl (heap_alloc_new _ _) rfl (show StrR _ none_ _ _ from ⟨rfl, HS8.out⟩) (StrR.one (w := W8) (F := none_) _ _ ⟨rfl, HS8.out⟩) (fun k hk => hk.elim) (by unfold maxLen; omega) (by omega) (by have := HL8.out.lt; rw [World.size_alloc]; omega) ?_); intro A9 c9 W9 hO9 hg9 hv9; have hbx := hg9.box (HM8.out.box.alloc _) hbmB; have g0 := hbx.free 0; clear y0; have y0 := hbx.at_ 0 _ rfl; have HO9 := Lib.hid hO9; have HG9 := Lib.hid hg9; have HV9 := Lib.hid hv9; clear hO9 hg9 hv9 hbx))
            all_goals
              (try go_wp2_with fail)
              go_meet
              obtain ⟨hst, A', c', hbx⟩ := look_after (bm := bm) (i := 0) (.slice A9 (m.uses.length + 1) c9) HL8.out HG9.out (fun k hk => HROWS.out k (.inl hk)) hBb hbmB hbl
              exact ⟨_, L3, A', c', aside HXK.out, aside ⟨A9, T, X, c9, ct, cx, Gt, Gf, (HM8.out.later ((Below.refl _ _).alloc (Nat.le_refl _) _)).pushU HO9.out (fun k hk => hk.elim id id) HG9.out HV9.out⟩, aside hst, aside hbx⟩
        | false =>
          rw [hqu, if_neg (by simp)] at hx
          cases hqt : (tx.toList == [116, 121, 112, 101]) with
          | true =>
            rw [hqt, if_pos rfl] at hx
            have hcn := name_any HL2.out.start HL2.out.lt
            have HX := Lib.hid hx; have HCN := Lib.hid hcn
            clear hx hcn
            go_wp2_with fail
            refine HCN.out.mono ?_
            rintro e W3 (⟨n, L3, _, hn, rfl, ⟨rfl, hno⟩, hl3⟩ | ⟨k, L3, d3, hn, rfl, hl3, h1, h2⟩)
            rotate_left
            · have hpf : prField L1 = .error k := prThen_err hn
              have hxk : R = .error k := by rw [← HX.out, prEnd_err hpf]; rfl
              clear hpf
              have hl3' := HL2.out.trans hl3
              have HXK := Lib.hid hxk; have HL3 := Lib.hid hl3'
              clear hxk hl3'
              clear hl3 hn
              go_wp2_with fail
              exact ⟨rfl, m, ⟨U, T, X, cu, ct, cx, Gt, Gf, HMOD.out _ HL3.out.grew⟩, HSTA.out _ HL3.out.grew, .inr ⟨k, rfl, HXK.out⟩⟩
            have hl3' := HL2.out.trans hl3
            have hx3 : prField L1 = prThen (prMust sEq) (fun _ => prThen (prKind 40) fun t => prPure (⟨n, t⟩ : Field)) L3 := prThen_ok hn
            have hs3 := short_name _ _ _ hn
            go_upto_region 9 with fail
            have hBp := Box.made W3 78 #[.string n, .int .i64 0, .string ⟨#[]⟩, .string ⟨#[]⟩, .slice none 0 0]
            have hbp : Below W3.heap.size W3 (W3.alloc (.cells #[.string n, .int .i64 0, .string ⟨#[]⟩, .string ⟨#[]⟩, .slice none 0 0] 78)) := by go_grown
            have hzp : (W3.alloc (.cells #[.string n, .int .i64 0, .string ⟨#[]⟩, .string ⟨#[]⟩, .slice none 0 0] 78)).heap.size = W3.heap.size + 1 := by simp
            generalize W3.alloc (.cells #[.string n, .int .i64 0, .string ⟨#[]⟩, .string ⟨#[]⟩, .slice none 0 0] 78) = W4 at hBp hbp hzp ⊢
            have hl4 := hl3'.below hbp
            have hms := must_any hl4.start sEq
            have hw3 := hl3'.size
            obtain ⟨pq, hpq⟩ : ∃ z, W3.heap.size = z := ⟨_, rfl⟩
            rw [hpq] at hBp ⊢
            have hpqb : pq ≠ b := by omega
            have HX3 := Lib.hid hx3; have HL4 := Lib.hid hl4; have HMS := Lib.hid hms; have HP4 := Lib.hid hBp; have HNO := Lib.hid hno
            clear hx3 hl4 hms hBp hno
            clear hl3 hl3' hn hbp hzp
            go_wp2_with fail
            refine HMS.out.mono ?_
            rintro e W5 ⟨L5, (⟨rfl, hm5, hl5⟩ | ⟨rfl, hm5, hl5⟩)⟩
            rotate_left
            · have hpf : prField L1 = .error 4 := HX3.out.trans (prThen_err (prMust_no hm5))
              have hxk : R = .error 4 := by rw [← HX.out, prEnd_err hpf]; rfl
              clear hpf
              have hl5' := HL4.out.trans hl5
              have HXK := Lib.hid hxk; have HL5 := Lib.hid hl5'
              clear hxk hl5'
              clear hl5 hm5
              go_wp2_with fail
              exact ⟨rfl, m, ⟨U, T, X, cu, ct, cx, Gt, Gf, HMOD.out _ HL5.out.grew⟩, HSTA.out _ HL5.out.grew, .inr ⟨4, rfl, HXK.out⟩⟩
            have hl5' := HL4.out.trans hl5
            have hP5 := hl5.grew.box_ HP4.out hpqb
            have ht5 := take_len hm5
            have hw5 := hl5'.size
            have hpl5 := hP5.lt
            have hkd5 := rkind_any 40 W5 L5 0 hl5'.start (by omega) (by omega)
            have HL5 := Lib.hid hl5'; have HP5 := Lib.hid hP5; have HKD5 := Lib.hid hkd5; have HM5 := Lib.hid hm5
            clear hl5' hP5 hkd5 hm5
            clear hl5 HMS HL4 HP4
            go_wp2_with fail
            refine HKD5.out.mono ?_
            rintro e W6 (⟨ty, L6, _, hn, rfl, ⟨cs, rfl, hY⟩, hl6⟩ | ⟨k, L6, d6, hn, rfl, hl6, h1, h2⟩)
            rotate_left
            · have hpf : prField L1 = .error k := HX3.out.trans ((prThen_ok (prMust_yes HM5.out)).trans (prThen_err hn))
              have hxk : R = .error k := by rw [← HX.out, prEnd_err hpf]; rfl
              clear hpf
              have hl6' := HL5.out.trans hl6
              have HXK := Lib.hid hxk; have HL6 := Lib.hid hl6'
              clear hxk hl6'
              clear hl6 hn
              go_wp2_with fail
              exact ⟨rfl, m, ⟨U, T, X, cu, ct, cx, Gt, Gf, HMOD.out _ HL6.out.grew⟩, HSTA.out _ HL6.out.grew, .inr ⟨k, rfl, HXK.out⟩⟩
            have hpf : prField L1 = .ok (⟨n, ty⟩, L6) := HX3.out.trans ((prThen_ok (prMust_yes HM5.out)).trans (prThen_ok hn))
            have hxk : R = if L6.length = 0 then .ok { m with types := m.types ++ [⟨n, ty⟩] } else .error 4 := by
              rw [← HX.out, prEnd_ok hpf]; exact map_if
            clear hpf
            have hl6' := HL5.out.trans hl6
            have hP6 := hl6.grew.box_ HP5.out hpqb
            have hs6 := hl6.size
            obtain ⟨A2, c2, rfl⟩ := TyR.form hY
            have x1 := hP6.at_ 1 _ rfl
            have x2 := hP6.at_ 2 _ rfl
            have x3 := hP6.at_ 3 _ rfl
            have x4 := hP6.at_ 4 _ rfl
            have g1 := hP6.free 1
            have g2 := hP6.free 2
            have g3 := hP6.free 3
            have g4 := hP6.free 4
            have HXK := Lib.hid hxk; have HL6 := Lib.hid hl6'; have HP6 := Lib.hid hP6; have HYR := Lib.hid hY
            clear hxk hl6' hP6 hY
            clear hl6 hn HKD5 HL5 HP5 HX3
            go_upto_region 11 with fail
            have hP7 := (((HP6.out.put 1 (.int .i64 ty.kind)).put 2 (.string ty.of_)).put 3 (.string ty.name)).put 4 (.slice A2 ty.args.length c2)
            simp only [List.setIfInBounds_toArray, List.set_cons_zero, List.set_cons_succ] at hP7
            have hpW : W.heap.size ≤ pq := by omega
            have hl7 := (((HL6.out.set (p := ⟨pq, 1, none⟩) hpW hbl (.int .i64 ty.kind)).set (p := ⟨pq, 2, none⟩) hpW hbl (.string ty.of_)).set (p := ⟨pq, 3, none⟩) hpW hbl (.string ty.name)).set (p := ⟨pq, 4, none⟩) hpW hbl (.slice A2 ty.args.length c2)
            have hyk : ¬ fresh W5.heap.size W6.heap.size pq := fun h => by have := h.1; omega
            have hY7 := TyR.stays _ _ _ _ _ _ HYR.out (fun _ h => h) (((((Keeps.refl _ _).setCell (q := ⟨pq, 1, none⟩) hyk (.int .i64 ty.kind)).setCell (q := ⟨pq, 2, none⟩) hyk (.string ty.of_)).setCell (q := ⟨pq, 3, none⟩) hyk (.string ty.name)).setCell (q := ⟨pq, 4, none⟩) hyk (.slice A2 ty.args.length c2))
            have hz7 : ((((W6.setCell ⟨pq, 1, none⟩ (.int .i64 ty.kind)).setCell ⟨pq, 2, none⟩ (.string ty.of_)).setCell ⟨pq, 3, none⟩ (.string ty.name)).setCell ⟨pq, 4, none⟩ (.slice A2 ty.args.length c2)).heap.size = W6.heap.size := by simp only [size_set]
            generalize (((W6.setCell ⟨pq, 1, none⟩ (.int .i64 ty.kind)).setCell ⟨pq, 2, none⟩ (.string ty.of_)).setCell ⟨pq, 3, none⟩ (.string ty.name)).setCell ⟨pq, 4, none⟩ (.slice A2 ty.args.length c2) = W7 at hP7 hl7 hY7 hz7 ⊢
            clear x1 x2 x3 x4 g1 g2 g3 g4
            have hm7 := HMOD.out _ hl7.grew
            have y1 := hm7.box.at_ 1 _ rfl
            have t1 := fun o => (hm7.box.alloc o).at_ 1 _ rfl
            have g1 := hm7.box.free 1
            have x0 := hP7.at_ 0 _ rfl
            have x1 := hP7.at_ 1 _ rfl
            have x2 := hP7.at_ 2 _ rfl
            have x3 := hP7.at_ 3 _ rfl
            have x4 := hP7.at_ 4 _ rfl
            have hFR : FieldR W7 (fresh W5.heap.size W6.heap.size) [.string n, .int .i64 ty.kind, .string ty.of_, .string ty.name, .slice A2 ty.args.length c2] ⟨n, ty⟩ := ⟨[.int .i64 ty.kind, .string ty.of_, .string ty.name, .slice A2 ty.args.length c2], rfl, HNO.out, hY7⟩
            have hTD : ∀ o, Owns FieldR 5 78 B (W7.alloc o).drew Gt (.slice T m.types.length ct) m.types := fun o => (hm7.ts.alloc FieldR.stays o).below FieldR.stays (by go_grown)
            have hFD : ∀ o, FieldR (W7.alloc o).drew (fresh W5.heap.size W6.heap.size) [.string n, .int .i64 ty.kind, .string ty.of_, .string ty.name, .slice A2 ty.args.length c2] ⟨n, ty⟩ := fun o => FieldR.stays _ _ _ _ _ _ (FieldR.stays.alloc hFR (fun k hk => by have := hk.2; omega) o) (fun _ h => h) (Keeps.refl _ _).drew
            have hSD : ∀ o, (W7.alloc o).drew.heap.size = W7.heap.size + 1 := fun o => by show (W7.alloc o).heap.size = _; simp
            have HL7 := Lib.hid hl7; have HM7 := Lib.hid hm7; have HFR := Lib.hid hFR; have HZ7 := Lib.hid hz7; have HTD := Lib.hid hTD; have HFD := Lib.hid hFD; have HSD := Lib.hid hSD
            clear hl7 hm7 hFR hz7 hTD hFD hSD
            clear hP7 HP6 HL6 HYR hY7
            go_region_law ((refine step_push FieldR.stays (.agg #[.string ⟨#[]⟩, .int .i64 0, .string ⟨#[]⟩, .string ⟨#[]⟩, .slice none 0 0]) [.string n, .int .i64 ty.kind, .string ty.of_, .string ty.name, .slice A2 ty.args.length c2] ⟨n, ty⟩ _ _ 24 rfl rfl Tryz.underlying24 (bytes := 80) (by kernel_rfl) (HTD.out _) rfl rfl (by decide) rfl (heap_alloc_new _ _) rfl (HFD.out _) (rfield_cells HFR.out) (fun k hk => ⟨by have := hk.2; have := HZ7.out; rw [HSD.out]; omega, fun e => by have := HROWS.out k (.inr (.inl e.symm)); have := hk.1; omega⟩) (by unfold maxLen; omega) (by omega) (by have := HL7.out.lt; rw [HSD.out]; omega) ?_); intro A9 c9 W9 hO9 hg9 hv9; have hbx := hg9.box (HM7.out.box.alloc _).drew hbmB; clear y1 g1; have g1 := hbx.free 1; have y1 := hbx.at_ 1 _ rfl; have HO9 := Lib.hid hO9; have HG9 := Lib.hid hg9; have HV9 := Lib.hid hv9; clear hO9 hg9 hv9 hbx)
            all_goals
              (try go_wp2_with fail)
              go_meet
              obtain ⟨hst, A', c', hbx⟩ := look_after (bm := bm) (i := 1) (.slice A9 (m.types.length + 1) c9) HL7.out HG9.out.drew_ (fun k hk => HROWS.out k (.inr (.inl hk))) hBb hbmB hbl
              exact ⟨_, L6, A', c', aside HXK.out, aside ⟨U, A9, X, cu, c9, cx, _, Gf, (HM7.out.later ((Below.refl _ _).alloc (Nat.le_refl _) _)).pushT HO9.out (fun k hk => ⟨by have := hk.1; omega, by have := hk.2; have := HZ7.out; rw [World.size_alloc]; omega, fun e => by have := HROWS.out k (.inl e); have := hk.1; omega, fun e => by have := HROWS.out k (.inr (.inr e)); have := hk.1; omega⟩) HG9.out.drew_ HV9.out⟩, aside hst, aside hbx⟩
          | false =>
            rw [hqt, if_neg (by simp)] at hx
            cases hqf : (tx.toList == [102, 117, 110, 99]) with
            | false =>
              rw [hqf, if_neg (by simp)] at hx
              have HX := Lib.hid hx
              clear hx
              go_wp2_with (first | (go_at_call 71; (with_reducible refine (need_yes _ _).mono ?_); rintro e w' ⟨rfl, rfl⟩) | (go_at_call 71; (with_reducible refine (need_no _ _).mono ?_); rintro e w' ⟨rfl, rfl⟩))
              exact ⟨rfl, m, ⟨U, T, X, cu, ct, cx, Gt, Gf, HMOD.out _ HL2.out.grew⟩, HSTA.out _ HL2.out.grew, .inr ⟨4, rfl, HX.out.symm⟩⟩
            | true =>
              rw [hqf, if_pos rfl] at hx
              have hcn := fun U (hU : Below W2.heap.size W2 U) => rfun_any U L1 (HL2.out.below hU).start (by omega)
              have HX := Lib.hid hx; have HCN := Lib.hid hcn
              clear hx hcn
              cases hpn : prFun L1 with
              | error k =>
                have hxk : R = .error k := by rw [← HX.out, prEnd_err hpn]; rfl
                have hne := fun U hU => (HCN.out U hU).mono (R' := fun e W8 => e = .panicked [faultV k] ∧ Grew b W W8 (some b)) (fun e W8 hh => by
                  rcases hh with ⟨n, L8, _, h1, _⟩ | ⟨k', L8, d8, h1, rfl, h3, h4, h5⟩
                  · rw [hpn] at h1; cases h1
                  · rw [hpn] at h1; cases h1; exact ⟨rfl, ((HL2.out.below hU).trans h3).grew⟩)
                have hm2 := HMOD.out _ HL2.out.grew
                have y0 := hm2.box.at_ 2 _ rfl
                have HXK := Lib.hid hxk; have HNE := Lib.hid hne
                clear hxk hne
                clear HCN hpn HX hm2
                go_wp2_with fail
                refine wp_region_panics [] (fun c W8 => c = [faultV k] ∧ Grew b W W8 (some b)) ?_ ?_
                · rintro c ⟨tm, df⟩ W8 rfl ⟨rfl, hg8⟩
                  exact ⟨rfl, m, ⟨U, T, X, cu, ct, cx, Gt, Gf, HMOD.out _ hg8⟩, HSTA.out _ hg8, .inr ⟨k, rfl, HXK.out⟩⟩
                refine wp_region_held_drew (S := fun w' => w'.cell? ⟨bm, 2, none⟩ = some (.slice X m.funcs.length cx)) (by kernel_rfl) y0 (fun hHeld => ?_)
                refine wpAnyH_take (i := 0) (v := ?_) rfl (by kernel_rfl) (by kernel_rfl) (by kernel_rfl) (fun _ _ _ h => h) (Or.inl ⟨by rfl, ?_⟩) (by assumption) ?_
                rotate_left
                · intro w hSw; (try dsimp only at hSw); go_simp; try with_reducible rfl
                simp only [Act.put, List.setIfInBounds_toArray]
                refine wpAnyH_take (i := 1) (v := ?_) rfl (by kernel_rfl) (by kernel_rfl) (by kernel_rfl) (fun _ _ _ h => h) (Or.inl ⟨by rfl, ?_⟩) (by assumption) ?_
                rotate_left
                · intro w hSw; (try dsimp only at hSw); go_simp; try with_reducible rfl
                simp only [Act.put]
                refine wpAnyH_take (i := 2) (v := ?_) rfl (by kernel_rfl) (by kernel_rfl) (by kernel_rfl) (fun _ _ _ h => h) (Or.inl ⟨by rfl, ?_⟩) (by assumption) ?_
                rotate_left
                · intro w hSw; (try dsimp only at hSw); go_simp; try with_reducible rfl
                simp only [Act.put]
                refine wpAnyH_take (i := 3) (v := ?_) rfl (by kernel_rfl) (by kernel_rfl) (by kernel_rfl) (fun _ _ _ h => h) (Or.inl ⟨by rfl, ?_⟩) (by assumption) ?_
                rotate_left
                · intro w hSw; (try dsimp only at hSw); go_simp; try with_reducible rfl
                simp only [Act.put]
                refine wpAnyH_take (i := 4) (v := ?_) rfl (by kernel_rfl) (by kernel_rfl) (by kernel_rfl) (fun _ _ _ h => h) (Or.inl ⟨by rfl, ?_⟩) (by assumption) ?_
                rotate_left
                · intro w hSw; (try dsimp only at hSw); go_simp; try with_reducible rfl
                simp only [Act.put]
                refine wpAnyH_take (i := 5) (v := ?_) rfl (by kernel_rfl) (by kernel_rfl) (by kernel_rfl) (fun _ _ _ h => h) (Or.inl ⟨by rfl, ?_⟩) (by assumption) ?_
                rotate_left
                · intro w hSw; (try dsimp only at hSw); go_simp; try with_reducible rfl
                simp only [Act.put]
                refine wpAnyH_ready (rs := [6]) (by kernel_rfl) (by simp) ?_
                refine AllReadyH.cons rfl (fun K hK => ?_) AllReadyH.nil
                go_simp
                refine (HNE.out _ (by go_grown)).mono ?_
                rintro e W8 ⟨rfl, hh⟩
                exact ⟨rfl, rfl, hh⟩
              | ok a =>
                obtain ⟨x, L3⟩ := a
                have hxk : R = if L3.length = 0 then .ok { m with funcs := m.funcs ++ [x] } else .error 4 := by rw [← HX.out, prEnd_ok hpn]; exact map_if
                have hne := fun U hU => (HCN.out U hU).mono (R' := fun e W8 => ∃ P1 p1 A2 n2 A3 n3, e = .returned (.agg #[.string x.name, .string x.var_, .slice P1 x.params.length p1, .int .i64 x.result.kind, .string x.result.of_, .string x.result.name, .slice A2 x.result.args.length n2, .int .i64 x.body.kind, .int .i64 x.body.n, .string x.body.of_, .string x.body.s, .slice A3 x.body.args.length n3]) ∧
                    FuncR W8 (fresh U.heap.size W8.heap.size) [.string x.name, .string x.var_, .slice P1 x.params.length p1, .int .i64 x.result.kind, .string x.result.of_, .string x.result.name, .slice A2 x.result.args.length n2, .int .i64 x.body.kind, .int .i64 x.body.n, .string x.body.of_, .string x.body.s, .slice A3 x.body.args.length n3] x ∧ Look b F W W8 L3 0) (fun e W8 hh => by
                  rcases hh with ⟨n, L8, _, h1, rfl, ⟨cs, rfl, h2⟩, h3⟩ | ⟨k', L8, d8, h1, _⟩
                  · rw [hpn] at h1; cases h1
                    obtain ⟨P1, p1, A2, n2, A3, n3, rfl⟩ := FuncR.cells h2
                    exact ⟨P1, p1, A2, n2, A3, n3, rfl, h2, (HL2.out.below hU).trans h3⟩
                  · rw [hpn] at h1; cases h1)
                have hm2 := HMOD.out _ HL2.out.grew
                have y0 := hm2.box.at_ 2 _ rfl
                have hw2 := HL2.out.lt
                have HXK := Lib.hid hxk; have HNE := Lib.hid hne
                clear hxk hne
                clear HCN hpn HX hm2
                go_wp2_with fail
                go_region_law (first
                  | (go_simp; go_at_call 127; (with_reducible refine (HNE.out _ (by go_grown)).mono ?_); rintro e W8 ⟨P1, p1, A2, n2, A3, n3, rfl, hX8, hl8⟩; have hm8 := HMOD.out _ hl8.grew; have y0 := hm8.box.at_ 2 _ rfl; have g0 := hm8.box.free 2; have t0 := fun o => (hm8.box.alloc o).at_ 2 _ rfl; have HM8 := Lib.hid hm8; have HL8 := Lib.hid hl8; have HX8 := Lib.hid hX8; clear hm8 hl8 hX8)
                  | ((refine step_push FuncR.stays (.agg #[.string ⟨#[]⟩, .string ⟨#[]⟩, .slice none 0 0, .int .i64 0, .string ⟨#[]⟩, .string ⟨#[]⟩, .slice none 0 0, .int .i64 0, .int .i64 0, .string ⟨#[]⟩, .string ⟨#[]⟩, .slice none 0 0]) [.string x.name, .string x.var_, .slice P1 x.params.length p1, .int .i64 x.result.kind, .string x.result.of_, .string x.result.name, .slice A2 x.result.args.length n2, .int .i64 x.body.kind, .int .i64 x.body.n, .string x.body.of_, .string x.body.s, .slice A3 x.body.args.length n3] x _ _ 25 rfl rfl Tryz.underlying25 (bytes := 192) (by kernel_rfl) (show Owns FuncR 12 83 B _ Gf _ m.funcs from HM8.out.fs.alloc FuncR.stays _) rfl rfl (by decide) rfl (heap_alloc_new _ _) rfl (show FuncR _ (fresh W2.heap.size W8.heap.size) _ _ from FuncR.stays.alloc HX8.out fresh_lt _) (rfunc_cells HX8.out) (fun k hk => ⟨by have := hk.2; rw [World.size_alloc]; omega, fun e => by have := HROWS.out k (.inr (.inr e.symm)); have := hk.1; omega⟩) (by unfold maxLen; omega) (by omega) (by have := HL8.out.lt; rw [World.size_alloc]; omega) ?_); intro A9 c9 W9 hO9 hg9 hv9; have hbx := hg9.box (HM8.out.box.alloc _) hbmB; have g0 := hbx.free 2; clear y0; have y0 := hbx.at_ 2 _ rfl; have HO9 := Lib.hid hO9; have HG9 := Lib.hid hg9; have HV9 := Lib.hid hv9; clear hO9 hg9 hv9 hbx))
                all_goals
                  (try go_wp2_with fail)
                  go_meet
                  obtain ⟨hst, A', c', hbx⟩ := look_after (bm := bm) (i := 2) (.slice A9 (m.funcs.length + 1) c9) HL8.out HG9.out (fun k hk => HROWS.out k (.inr (.inr hk))) hBb hbmB hbl
                  exact ⟨_, L3, A', c', aside HXK.out, aside ⟨U, T, A9, cu, ct, c9, Gt, _, (HM8.out.later ((Below.refl _ _).alloc (Nat.le_refl _) _)).pushF HO9.out (fun k hk => ⟨by have := hk.1; omega, by have := hk.2; rw [World.size_alloc]; omega, fun e => by have := HROWS.out k (.inl e); have := hk.1; omega, fun e => by have := HROWS.out k (.inr (.inl e)); have := hk.1; omega⟩) HG9.out HV9.out⟩, aside hst, aside hbx⟩
  case rest =>
    obtain ⟨m', L', A, c, hx, hmd, hst, hbx⟩ := hcut
    obtain ⟨W3, rfl⟩ : ∃ W, W = wc := ⟨_, rfl⟩
    have hbx := hbx.out
    have z0 := hbx.at_ 0 _ rfl
    obtain ⟨n, hn⟩ : ∃ n, L'.length = n := ⟨_, rfl⟩
    rw [hn] at hx z0
    have hx := hx.out
    clear x0 x1 hbx hn
    cases hq : decide (n = 0) with
    | true =>
      have hn0 : n = 0 := of_decide_eq_true hq
      subst hn0
      rw [if_pos rfl] at hx
      have HX := Lib.hid hx
      clear hx
      go_wp2_with (first | (go_at_call 71; (with_reducible refine (need_yes _ _).mono ?_); rintro e w' ⟨rfl, rfl⟩) | (go_at_call 71; (with_reducible refine (need_no _ _).mono ?_); rintro e w' ⟨rfl, rfl⟩))
      go_end0
      exact ⟨m', hmd.out, hst.out, .inl ⟨rfl, HX.out⟩⟩
    | false =>
      have hn0 : n ≠ 0 := of_decide_eq_false hq
      have hnz : ((n : Int) == 0) = false := by simp [hn0]
      rw [if_neg hn0] at hx
      have HX := Lib.hid hx
      clear hx
      clear hn0 hq
      go_wp2_with (first | (go_at_call 71; (with_reducible refine (need_yes _ _).mono ?_); rintro e w' ⟨rfl, rfl⟩) | (go_at_call 71; (with_reducible refine (need_no _ _).mono ?_); rintro e w' ⟨rfl, rfl⟩))
      exact ⟨rfl, m', hmd.out, hst.out, .inr ⟨4, rfl, HX.out⟩⟩

end Go.Proofs.YtjaladhdnbhliaaGreatDoor
