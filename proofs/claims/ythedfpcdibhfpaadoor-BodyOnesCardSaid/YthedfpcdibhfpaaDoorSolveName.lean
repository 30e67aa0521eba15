/- What a type is: (*alias.solver).solve at a name of the module's own. -/
import Derived.Test.YthedfpcdibhfpaaDoorSolveAt
namespace Go.Proofs.YthedfpcdibhfpaaDoor
open Go.RowKit Go.Shelf

set_option maxRecDepth 100000 in
set_option maxHeartbeats 8000000 in
theorem solveNamed_any (m : Module) (l : List Import) (hm0 : modErr m = 0) (n f : Nat) (ih : SolveAt m l n) (v : ByteArray) (us : List ByteArray) (nm : ByteArray) (args : List Ty) (A : Option Addr) (cap : Nat) (b : Nat) (U1 T1 T2 L1 S1 : Option Addr) (u1 e1 e2 l1 s1 : Nat) (w : World)
    (hv0 : nm ≠ v) (hnm : okS nm) (hn : f + 1 + 11 * freeOf m us ≤ n + 1) (hu : us.length + freeOf m us ≤ 24)
    (hm : ModuleR w (old w.heap.size) [.slice U1 m.uses.length u1, .slice T1 m.types.length e1, .slice T2 m.funcs.length e2] m) (hl : SliceOf ImportR 4 72 w (old w.heap.size) (.slice L1 l.length l1) l) (hus : SliceOf StrR 1 16 w (old w.heap.size) (.slice S1 us.length s1) us)
    (hB : Box w b 184 #[.slice U1 m.uses.length u1, .slice T1 m.types.length e1, .slice T2 m.funcs.length e2, .slice L1 l.length l1, .string v, .slice S1 us.length s1]) :
    Calls Tryd.prog 129 #[.pointer (some ⟨b, 0, none⟩), .agg #[.int .i64 4, .string ⟨#[]⟩, .string nm, .slice A args.length cap]] w fun e w' => e = .returned (.tuple #[.string (solveN m l (n + 1) v us (.mk 4 ⟨#[]⟩ nm args)).1, .int .i64 (solveN m l (n + 1) v us (.mk 4 ⟨#[]⟩ nm args)).2]) ∧ Below w.heap.size w w' := by
  have hq : (nm.toList == v.toList) = false := by rw [str_eq]; exact decide_eq_false hv0
  have hT : SliceOf FieldR 5 80 w (old w.heap.size) (.slice T1 m.types.length e1) m.types := by
    obtain ⟨_, _, _, he, _, h2, _⟩ := hm
    simp only [List.cons.injEq, and_true] at he
    obtain ⟨rfl, rfl, rfl⟩ := he
    exact h2
  have hk := fidx_cases (fieldIs nm) m.types
  have hE0 := fun h => solve_none (m := m) (l := l) (n := n) (v := v) (us := us) (o := ⟨#[]⟩) (args := args) rfl hv0 (find_no (p := fieldIs nm) h)
  have hE1 := fun (k : Nat) (x : Field) h1 h2 h3 h4 => solve_round (m := m) (l := l) (n := n) (v := v) (us := us) (o := ⟨#[]⟩) (args := args) rfl hv0 (find_of (k := k) (x := x) (p := fieldIs nm) h1 h2 h3) h4
  have hE2 := fun (k : Nat) (x : Field) h1 h2 h3 h4 => solve_next (m := m) (l := l) (n := n) (v := v) (us := us) (o := ⟨#[]⟩) (args := args) rfl hv0 (find_of (k := k) (x := x) (p := fieldIs nm) h1 h2 h3) h4
  have hfl := fun (k : Nat) (x : Field) h1 h2 h3 h4 => free_less (m := m) (us := us) (find_of (k := k) (x := x) (p := fieldIs nm) h1 h2 h3) h4
  obtain ⟨E, hE⟩ : ∃ E, solveN m l (n + 1) v us (.mk 4 ⟨#[]⟩ nm args) = E := ⟨_, rfl⟩
  rw [hE] at hE0 hE1 hE2 ⊢
  have hmt := mod_types hm0
  have HE0 := Lib.hid hE0; have HE1 := Lib.hid hE1; have HE2 := Lib.hid hE2; have HFL := Lib.hid hfl; have HM := Lib.hid hm; have HL := Lib.hid hl; have HUS := Lib.hid hus; have HIH := Lib.hid ih; have HT := Lib.hid hT; have HK := Lib.hid hk; have HN := Lib.hid hn; have HU := Lib.hid hu; have HMT := Lib.hid hmt
  clear hE0 hE1 hE2 hfl hm hl hus ih hT hk hn hu hmt
  clear hE hm0
  go_enter Tryd.func129, Tryd.ntmps129
  go_upto_region 19 with fail
  have hBt := Box.made w 85 #[.int .i64 4, .string ⟨#[]⟩, .string nm, .slice A args.length cap]
  have hbt : Below w.heap.size w (w.alloc (.cells #[.int .i64 4, .string ⟨#[]⟩, .string nm, .slice A args.length cap] 85)) := by go_grown
  have hzt : (w.alloc (.cells #[.int .i64 4, .string ⟨#[]⟩, .string nm, .slice A args.length cap] 85)).heap.size = w.heap.size + 1 := by simp
  generalize w.alloc (.cells #[.int .i64 4, .string ⟨#[]⟩, .string nm, .slice A args.length cap] 85) = W1 at hBt hbt hzt ⊢
  have hBs := hB.later hbt hB.lt
  have x4 := hBs.at_ 4 _ rfl
  have t2 := hBt.at_ 2 _ rfl
  go_cut [80] (fun s80 wc => s80 = .bool false ∧ Aside (Below W1.heap.size W1 wc))
  case first =>
    go_quiet (fail)
    go_wp2_with fail
    go_meet
    exact ⟨by simp only [hq], aside (below_drewN (Below.refl _ _) _)⟩
  case rest =>
  obtain ⟨rfl, hb2⟩ := hcut
  obtain ⟨W2, rfl⟩ : ∃ W, W = wc := ⟨_, rfl⟩
  have hBs2 := hBs.later hb2.out hBs.lt
  have hBt2 := hBt.later hb2.out hBt.lt
  have hbw := hbt.trans (hb2.out.mono hbt.size)
  clear x4 t2
  have x1 := hBs2.at_ 1 _ rfl
  have t2 := hBt2.at_ 2 _ rfl
  have hix := solveIdx_any m.types T1 e1 nm w.heap.size (old W2.heap.size) W2 old_lt (now_lup FieldR.stays HT.out hbw) t2
  obtain ⟨z, hz⟩ : ∃ z, fidx (fieldIs nm) m.types = z := ⟨_, rfl⟩
  have hk := HK.out
  rw [hz] at hix hk
  have HIX := Lib.hid hix; have HBs := Lib.hid hBs2; have HBt := Lib.hid hBt2; have HBW := Lib.hid hbw; have HK2 := Lib.hid hk
  clear hix hBs2 hBt2 hbw hk
  clear hBs hBt hbt hzt hz hb2 hB HK
  go_wp2_with fail
  refine HIX.out.mono ?_
  rintro e W3 ⟨rfl, hb3⟩
  have hbw := HBW.out.trans (hb3.mono HBW.out.size)
  have hBs3 := HBs.out.later hb3 HBs.out.lt
  have hBt3 := HBt.out.later hb3 HBt.out.lt
  clear x1 t2
  rcases HK2.out with ⟨rfl, hall⟩ | ⟨k, x, rfl, hx, hfx, hall⟩
  · have h := HE0.out hall
    subst h
    have HBW3 := Lib.hid hbw
    clear hbw
    clear hBs3 hBt3 hb3 hall
    go_wp2_with fail
    go_ret2
    exact ⟨rfl, HBW3.out⟩
  · have hkz : decide ((k : Int) < 0) = false := decide_eq_false (by omega)
    have hkz2 : ¬ (k : Int) < 0 := by omega
    have hxm := List.mem_of_getElem? hx
    have hkl : k < m.types.length := (List.getElem?_eq_some_iff.1 hx).1
    have h1 := HE1.out k x hx hfx hall
    have h2 := HE2.out k x hx hfx hall
    have h3 := HFL.out k x hx hfx hall
    have hxe : m.types[k] = x := (List.getElem?_eq_some_iff.1 hx).2
    have hcon := fun q => contains_strs (.slice S1 us.length s1) us (old W3.heap.size) nm (W3.drewN q) ((now_lup StrR.stays HUS.out hbw).stays StrR.stays (fun _ h => h) ((Keeps.refl _ _).drewN q))
    obtain ⟨zu, hzu⟩ : ∃ z, hasS us nm = z := ⟨_, rfl⟩
    rw [hzu] at hcon h1 h2 h3
    have hcon' := fun q => (hcon q).mono fun e w' h => (⟨h.1, h.2.symm⟩ : e = .returned (.bool zu) ∧ w' = W3.drewN q)
    have x5 := hBs3.at_ 5 _ rfl
    have t2 := hBt3.at_ 2 _ rfl
    have HCON := Lib.hid hcon'; have HH1 := Lib.hid h1; have HH2 := Lib.hid h2; have HH3 := Lib.hid h3; have HBs3 := Lib.hid hBs3; have HBt3 := Lib.hid hBt3; have HBW3 := Lib.hid hbw; have HXM := Lib.hid hxm; have HXE := Lib.hid hxe
    clear hcon' h1 h2 h3 hBs3 hBt3 hbw hxm hxe
    clear hcon hzu hall hfx hx hb3
    go_upto_region 24 with fail
    go_cut [98] (fun s98 wc => s98 = .bool zu ∧ Aside (Below W3.heap.size W3 wc))
    case first =>
      go_quiet ((go_at_call 150; exact Calls.quiet_of_same (HCON.out _)))
      go_wp2_with fail
      go_meet
      exact ⟨rfl, aside (below_drewN (Below.refl _ _) _)⟩
    case rest =>
    obtain ⟨rfl, hb4⟩ := hcut
    obtain ⟨W4, rfl⟩ : ∃ W, W = wc := ⟨_, rfl⟩
    have hbw := HBW3.out.trans (hb4.out.mono HBW3.out.size)
    have hBs := HBs3.out.later hb4.out HBs3.out.lt
    have hBt := HBt3.out.later hb4.out HBt3.out.lt
    clear x5 t2
    cases zu with
    | true =>
      have h := HH1.out rfl
      subst h
      have HBW4 := Lib.hid hbw
      clear hbw
      clear hBs hBt hb4
      go_wp2_with fail
      go_ret2
      exact ⟨rfl, HBW4.out⟩
    | false =>
      have hls := hBs.lt
      have hlt := hBt.lt
      have hS : ∀ w', Below W4.heap.size W4 w' → w'.cell? ⟨b, 0, none⟩ = some (.slice U1 m.uses.length u1) ∧ w'.cell? ⟨b, 1, none⟩ = some (.slice T1 m.types.length e1) ∧ w'.cell? ⟨b, 2, none⟩ = some (.slice T2 m.funcs.length e2) ∧ w'.cell? ⟨b, 3, none⟩ = some (.slice L1 l.length l1) ∧ w'.cell? ⟨b, 5, none⟩ = some (.slice S1 us.length s1) ∧ w'.cell? ⟨w.heap.size, 2, none⟩ = some (.string nm) := fun w' h =>
        ⟨(h.cell (p := ⟨b, 0, none⟩) hls).trans (hBs.at_ 0 _ rfl), (h.cell (p := ⟨b, 1, none⟩) hls).trans (hBs.at_ 1 _ rfl), (h.cell (p := ⟨b, 2, none⟩) hls).trans (hBs.at_ 2 _ rfl), (h.cell (p := ⟨b, 3, none⟩) hls).trans (hBs.at_ 3 _ rfl), (h.cell (p := ⟨b, 5, none⟩) hls).trans (hBs.at_ 5 _ rfl), (h.cell (p := ⟨w.heap.size, 2, none⟩) hlt).trans (hBt.at_ 2 _ rfl)⟩
      have hcl := fun U (hU : Below w.heap.size w U) => cloneOwn_strs (.slice S1 us.length s1) us (old U.heap.size) U (now_lup StrR.stays HUS.out hU) old_lt
      have hul : us.length ≤ 24 := by have := HU.out; omega
      have hdr : Below W4.heap.size W4 W4.drew := by go_grown
      have hlen : (us ++ [nm]).length = us.length + 1 := by simp
      have HS := Lib.hid hS; have HBk := Lib.hid hdr; have HBs := Lib.hid hBs; have HBt := Lib.hid hBt; have HBW := Lib.hid hbw; have HCL := Lib.hid hcl; have HUL := Lib.hid hul; have HLEN := Lib.hid hlen
      clear hS hdr hBs hBt hbw hcl hul hlen
      clear hls hlt hb4
      go_upto_region 26 with fail
      go_cut [15] (fun s15 wc => ∃ (nb : Nat) (A8 : Option Addr) (c8 : Nat), s15 = .pointer (some ⟨nb, 0, none⟩) ∧ Aside (Box wc nb 184 #[.slice U1 m.uses.length u1, .slice T1 m.types.length e1, .slice T2 m.funcs.length e2, .slice L1 l.length l1, .string ⟨#[]⟩, .slice A8 (us.length + 1) c8]) ∧ Aside (Below W4.heap.size W4 wc) ∧ Aside (SliceOf StrR 1 16 wc (old wc.heap.size) (.slice A8 (us.length + 1) c8) (us ++ [nm])))
      case first =>
        go_region_held3 (fun w' => w'.cell? ⟨b, 0, none⟩ = some (.slice U1 m.uses.length u1) ∧ w'.cell? ⟨b, 1, none⟩ = some (.slice T1 m.types.length e1) ∧ w'.cell? ⟨b, 2, none⟩ = some (.slice T2 m.funcs.length e2) ∧ w'.cell? ⟨b, 3, none⟩ = some (.slice L1 l.length l1) ∧ w'.cell? ⟨b, 5, none⟩ = some (.slice S1 us.length s1) ∧ w'.cell? ⟨w.heap.size, 2, none⟩ = some (.string nm))
          (exact HS.out _ (by first | exact HBk.out | exact HBk.out.alloc HBk.out.size _ | (go_grown; done)))
          (first
            | ((go_at_call 164; (first | (with_reducible refine (HCL.out _ (HBW.out.trans (HBk.out.mono HBW.out.size))).mono ?_) | (with_reducible refine (HCL.out _ (HBW.out.trans ((show Below W4.heap.size W4 _ from by go_grown).mono HBW.out.size))).mono ?_) | (with_reducible refine (HCL.out _ (HBW.out.trans ((HBk.out.alloc HBk.out.size _).mono HBW.out.size))).mono ?_)); rintro e w7 ⟨v7, rfl, hb7, ho7⟩; obtain ⟨A7, c7, rfl, _, _⟩ := ho7.form; (first | (have hbx : Box w7 W4.heap.size 9 #[.string nm] := (by first | exact after_alloc hb7 | exact after_allocD hb7); have HBX := Lib.hid hbx; clear hbx) | skip); have hb8 := (by first | exact below_step HBk.out hb7 | exact below_stepD hb7 | exact below_stepA HBk.out hb7 : Below W4.heap.size W4 w7); have ho8 := ho7.low (b := W4.heap.size) (by first | exact HBk.out.size | (simp; done) | exact (HBk.out.alloc HBk.out.size _).size); have HBk := Lib.hid hb8; have HO7 := Lib.hid ho8; clear hb7 hb8 ho7 ho8))
            | ((refine step_push StrR.stays (.string ⟨#[]⟩) [.string nm] nm _ _ 22 rfl rfl Tryd.underlying22 (bytes := 16) (by kernel_rfl) (show Owns StrR 1 9 W4.heap.size _ none_ _ us from by first | exact HO7.out | exact HO7.out.alloc StrR.stays _) rfl rfl (by decide) rfl (by first | exact HBX.out | exact heap_alloc_new _ _) rfl (show StrR _ none_ _ _ from ⟨rfl, hnm⟩) (StrR.one (w := W4) (F := none_) _ _ ⟨rfl, hnm⟩) (fun k hk => hk.elim) (by have := HUL.out; unfold maxLen; omega) (by have := HUL.out; omega) (by first | exact HBk.out.size | exact (HBk.out.alloc HBk.out.size _).size) ?_; intro A8 c8 w8 ho8 hg8 _; have hb8 := (by first | exact HBk.out.trans (hg8.below (Nat.le_refl _) HBk.out.size) | exact (HBk.out.alloc HBk.out.size _).trans (hg8.below (Nat.le_refl _) (HBk.out.alloc HBk.out.size _).size) : Below W4.heap.size W4 w8); have HBk := Lib.hid hb8; have HO8 := Lib.hid ho8; clear hb8 ho8 hg8)))
        all_goals
          go_wp2_with fail
          go_meet
          refine ⟨_, A8, c8, rfl, aside (Box.made _ _ _), aside (HBk.out.alloc HBk.out.size _), aside (now_lup StrR.stays (HO8.out.slice StrR.stays (F' := old w8.heap.size) (fun k hk => hk.elim (fun h => h.elim) (fun h => h.elim)) (fun k _ hk => hk) (by rw [HLEN.out]; have := HUL.out; omega) (by rw [HLEN.out]; have := HUL.out; omega)) ((Below.refl _ _).alloc (Nat.le_refl _) _))⟩
      case rest =>
      obtain ⟨nb, A8, c8, rfl, hbx, hb5, hus5⟩ := hcut
      obtain ⟨W5, rfl⟩ : ∃ W, W = wc := ⟨_, rfl⟩
      have hbw5 := HBW.out.trans (hb5.out.mono HBW.out.size)
      have hBs5 := HBs.out.later hb5.out HBs.out.lt
      have x1 := hBs5.at_ 1 _ rfl
      obtain ⟨bt, off, cs, rfl, hbF, hcs, hfr, hcell⟩ := (now_lup FieldR.stays HT.out hbw5).at_ (k := k) hkl
      rw [HXE.out] at hfr
      obtain ⟨y1, y2, y3, y4, rfl, _, hty⟩ := FieldR.form hfr
      obtain ⟨A2, n2, hf⟩ := TyR.form hty
      simp only [List.cons.injEq, and_true] at hf
      obtain ⟨rfl, rfl, rfl, rfl⟩ := hf
      have hc0 := hcell 0 _ rfl
      have hc1 := hcell 1 _ rfl
      have hc2 := hcell 2 _ rfl
      have hc3 := hcell 3 _ rfl
      have hc4 := hcell 4 _ rfl
      simp only [Nat.add_zero] at hc0
      have h2 := HH2.out rfl
      have h3 := HH3.out rfl
      have hn2 := HN.out
      have hu2 := HU.out
      have hca := HIH.out 10 ⟨#[]⟩ (us ++ [nm]) x.is_ nb U1 (some ⟨bt, off, none⟩) T2 L1 A8 u1 e1 e2 l1 c8 _ W5 (HMT.out x HXM.out) (Nat.le_refl _) (by omega) (by rw [HLEN.out]; omega) (Nat.zero_le _) (now_up ModuleR.stays HM.out hbw5) (now_lup ImportR.stays HL.out hbw5) (by rw [HLEN.out]; exact hus5.out) (by rw [HLEN.out]; exact hbx.out) hty
      rw [← h2] at hca
      have hklz : (k : Int) < (m.types.length : Int) := by omega
      have HCA := Lib.hid hca; have HBW5 := Lib.hid hbw5
      clear hca hbw5
      clear h2 h3 hn2 hu2 hcell hbx hb5 hus5 hBs5 hbF hcs hfr hty
      go_wp2_with fail
      refine HCA.out.mono ?_
      rintro e W6 ⟨rfl, hb6⟩
      have hbw6 := HBW5.out.trans (hb6.mono HBW5.out.size)
      have HBW6 := Lib.hid hbw6
      clear hbw6
      clear hb6
      go_wp2_with fail
      go_ret2
      exact ⟨rfl, HBW6.out⟩

end Go.Proofs.YthedfpcdibhfpaaDoor
