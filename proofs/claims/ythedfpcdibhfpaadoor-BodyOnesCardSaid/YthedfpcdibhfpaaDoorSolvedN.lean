/- What a type is: the reference's answer at a name of the module's own; the whole. -/
import Derived.Test.YthedfpcdibhfpaaDoorSolved
namespace Go.Proofs.YthedfpcdibhfpaaDoor
open Go.RowKit Go.Shelf

/-- 'append([]string(nil), l...)' at a step of a region that draws its order. -/
theorem step_clone_strs {P : Program} {e : TypeId} {G : Foot} {w : World} {m : List ByteArray} {ops : Array Oper} {o : Oper} {a : Act} {K : Act → World → Prop} {Q : Exit → Act → World → Prop} {E : Prop} (x : Operand) (t : TypeId) (hgd : o.guard = none)
    (ho : o.op = .call { callee := .builtin .append, args := #[.const (.slice none 0 0), x], argTypes := #[t, t] }) (ht : P.underlying t = some (.slice e)) (hi : (P.info? e).map (fun i => (i.zero, i.size, i.bytes)) = some (some (.string ⟨#[]⟩ : Value), 1, 16))
    {S : Option Addr} {c : Nat} (hx : a.eval x = .slice S m.length c) (hsrc : SliceOf StrR 1 16 w G (.slice S m.length c) m) (hG : ∀ k, G k → k < w.heap.size) (hbytes : m.length ≤ 100000)
    (h : ∀ A c w', Owns StrR 1 e w.heap.size w' none_ (.slice A m.length c) m → Grew w.heap.size w w' none → K (a.put o.dst (.slice A m.length c)) w') :
    if Region.wanted o (yielded ops a.tmps) = true then Oper.wp P o a w K Q else E := by
  have hl : (⟨[], 0⟩ : List ByteArray × Nat).1.length + m.length = m.length := by simp
  refine step_push_list (F := none_) (l := ([] : List ByteArray)) (base := w.heap.size) StrR.stays (fun cs x h => StrR.one (w := w) (F := G) cs x h) (.string ⟨#[]⟩) (.const (.slice none 0 0)) x t hgd ho ht hi (Owns.nil_ (R := StrR)) rfl rfl (by decide) hx hsrc (fun k hk => ⟨hG k hk, by simp [Value.ownBlock]⟩) (by unfold maxLen; simp; omega) (by simp; omega) (Nat.le_refl _) ?_
  intro A c' w' ho' hg _
  have ho2 := ho'.strs
  simp only [List.length_nil, Nat.zero_add, List.nil_append] at ho2 ⊢
  exact h A c' w' ho2 hg

set_option maxRecDepth 100000 in
set_option maxHeartbeats 8000000 in
theorem solvedName_any (m : Module) (l : List Import) (hm0 : modErr m = 0) (n f : Nat) (ih : SolvedAt m l n) (v : ByteArray) (us : List ByteArray) (nm : ByteArray) (args : List Ty) (A : Option Addr) (cap : Nat) (U1 T1 T2 L1 S1 : Option Addr) (u1 e1 e2 l1 s1 : Nat) (w : World)
    (hnm0 : nm.size ≠ 0) (hnm : okS nm) (hn : f + 1 + 11 * freeOf m us ≤ n + 1) (hu : us.length + freeOf m us ≤ 24)
    (hm : ModuleR w (old w.heap.size) [.slice U1 m.uses.length u1, .slice T1 m.types.length e1, .slice T2 m.funcs.length e2] m) (hl : SliceOf ImportR 4 72 w (old w.heap.size) (.slice L1 l.length l1) l) (hus : SliceOf StrR 1 16 w (old w.heap.size) (.slice S1 us.length s1) us) :
    Calls Tryd.prog 135 #[.agg #[.slice U1 m.uses.length u1, .slice T1 m.types.length e1, .slice T2 m.funcs.length e2], .slice L1 l.length l1, .string v, .agg #[.int .i64 4, .string ⟨#[]⟩, .string nm, .slice A args.length cap], .slice S1 us.length s1] w fun e w' => e = .returned (.tuple #[.string (solveN m l (n + 1) v us (.mk 4 ⟨#[]⟩ nm args)).1, .int .i64 (solveN m l (n + 1) v us (.mk 4 ⟨#[]⟩ nm args)).2]) ∧ Below w.heap.size w w' := by
  by_cases hv0 : nm = v
  · subst hv0
    rw [solve_var rfl rfl]
    have hq : (nm.toList == nm.toList) = true := by simp
    have hz : nm.toList.isEmpty = false := by rw [str_isEmpty]; exact decide_eq_false hnm0
    clear hn ih hm hl hus hm0
    go_enter Tryd.func135, Tryd.ntmps135
    go_wp2_with fail
    go_ret2
    exact ⟨rfl, by go_grown⟩
  have hq : (nm.toList == v.toList) = false := by rw [str_eq]; exact decide_eq_false hv0
  have hT : SliceOf FieldR 5 80 w (old w.heap.size) (.slice T1 m.types.length e1) m.types := by
    obtain ⟨_, _, _, he, _, h2, _⟩ := hm
    simp only [List.cons.injEq, and_true] at he
    obtain ⟨rfl, rfl, rfl⟩ := he
    exact h2
  have hk := fidx_cases (fieldIs nm) m.types
  have hE0 := fun h => solve_none (m := m) (l := l) (n := n) (v := v) (us := us) (o := ⟨#[]⟩) (args := args) rfl hv0 (find_no (p := fieldIs nm) h)
  have hE1 := fun (k : Nat) (x : Field) h1 h2 h3 h4 => solve_round (m := m) (l := l) (n := n) (v := v) (us := us) (o := ⟨#[]⟩) (args := args) rfl hv0 (find_of (k := k) (x := x) (p := fieldIs nm) h1 h2 h3) h4
  have hE2 := fun (k : Nat) (x : Field) h1 h2 h3 h4 => solve_next (m := m) (l := l) (n := n) (v := v) (us := us) (o := ⟨#[]⟩) (args := args) rfl hv0 (find_of (k := k) (x := x) (p := fieldIs nm) h1 h2 h3) h4
  have hfl := fun (k : Nat) (x : Field) h1 h2 h3 h4 => free_less (m := m) (us := us) (find_of (k := k) (x := x) (p := fieldIs nm) h1 h2 h3) h4
  obtain ⟨E, hE⟩ : ∃ E, solveN m l (n + 1) v us (.mk 4 ⟨#[]⟩ nm args) = E := ⟨_, rfl⟩
  rw [hE] at hE0 hE1 hE2 ⊢
  have hmt := mod_types hm0
  have hta := fun U (hU : Below w.heap.size w U) => typeAt_any m nm [.slice U1 m.uses.length u1, .slice T1 m.types.length e1, .slice T2 m.funcs.length e2] (old U.heap.size) U old_lt (now_up ModuleR.stays hm hU)
  have hht := fun U (hU : Below w.heap.size w U) => hasText_any (.slice S1 us.length s1) us (old U.heap.size) nm U (now_lup StrR.stays hus hU)
  obtain ⟨z, hz⟩ : ∃ z, fidx (fieldIs nm) m.types = z := ⟨_, rfl⟩
  obtain ⟨zu, hzu⟩ : ∃ z, hasS us nm = z := ⟨_, rfl⟩
  rw [hz] at hta hk
  rw [hzu] at hht hE1 hE2 hfl
  obtain ⟨zv, hzv⟩ : ∃ z, v.toList.isEmpty = z := ⟨_, rfl⟩
  have HE0 := Lib.hid hE0; have HE1 := Lib.hid hE1; have HE2 := Lib.hid hE2; have HFL := Lib.hid hfl; have HM := Lib.hid hm; have HL := Lib.hid hl; have HUS := Lib.hid hus; have HIH := Lib.hid ih; have HT := Lib.hid hT; have HK := Lib.hid hk; have HN := Lib.hid hn; have HU := Lib.hid hu; have HMT := Lib.hid hmt; have HTA := Lib.hid hta; have HHT := Lib.hid hht
  clear hE0 hE1 hE2 hfl hm hl hus ih hT hk hn hu hmt hta hht
  clear hE hm0 hz hzu hnm0
  go_enter Tryd.func135, Tryd.ntmps135
  go_upto_region 1 with fail
  have hBm1 := ((Box.made w 26 #[.slice U1 m.uses.length u1, .slice T1 m.types.length e1, .slice T2 m.funcs.length e2]).alloc (.cells #[.int .i64 4, .string ⟨#[]⟩, .string nm, .slice A args.length cap] 85))
  have hBm2 := (Box.made (w.alloc (.cells #[.slice U1 m.uses.length u1, .slice T1 m.types.length e1, .slice T2 m.funcs.length e2] 26)) 85 #[.int .i64 4, .string ⟨#[]⟩, .string nm, .slice A args.length cap])
  rw [show (w.alloc (.cells #[.slice U1 m.uses.length u1, .slice T1 m.types.length e1, .slice T2 m.funcs.length e2] 26)).heap.size = w.heap.size + 1 by simp only [World.size_alloc]] at hBm2
  have hbm : Below w.heap.size w ((w.alloc (.cells #[.slice U1 m.uses.length u1, .slice T1 m.types.length e1, .slice T2 m.funcs.length e2] 26)).alloc (.cells #[.int .i64 4, .string ⟨#[]⟩, .string nm, .slice A args.length cap] 85)) := by go_grown
  have hzm : ((w.alloc (.cells #[.slice U1 m.uses.length u1, .slice T1 m.types.length e1, .slice T2 m.funcs.length e2] 26)).alloc (.cells #[.int .i64 4, .string ⟨#[]⟩, .string nm, .slice A args.length cap] 85)).heap.size = w.heap.size + 1 + 1 := by simp only [World.size_alloc]
  generalize (w.alloc (.cells #[.slice U1 m.uses.length u1, .slice T1 m.types.length e1, .slice T2 m.funcs.length e2] 26)).alloc (.cells #[.int .i64 4, .string ⟨#[]⟩, .string nm, .slice A args.length cap] 85) = W1 at hBm1 hBm2 hbm hzm ⊢
  have m0 := hBm1.at_ 0 _ rfl
  have m1 := hBm1.at_ 1 _ rfl
  have m2 := hBm1.at_ 2 _ rfl
  have t0 := hBm2.at_ 0 _ rfl
  have t1 := hBm2.at_ 1 _ rfl
  have t2 := hBm2.at_ 2 _ rfl
  have t3 := hBm2.at_ 3 _ rfl
  have hq1 := hBm1.lt
  have hq2 := hBm2.lt
  have HB := Lib.hid hbm; have HBm := Lib.hid hBm1; have HBt := Lib.hid hBm2
  clear hbm hBm1 hBm2
  clear hzm
  go_upto_region 19 with fail
  go_cut [85] (fun s85 wc => s85 = .bool false ∧ wc = W1)
  case first =>
    cases zv with
    | true =>
      go_wp2_with fail
      go_meet
      exact ⟨rfl, rfl⟩
    | false =>
      go_wp2_with fail
      go_meet
      exact ⟨rfl, rfl⟩
  case rest =>
  obtain ⟨rfl, rfl⟩ := hcut
  have hta := HTA.out wc HB.out
  have HTB := Lib.hid hta
  clear hta
  clear hzv
  go_wp2_with fail
  refine HTB.out.mono ?_
  rintro e W3 ⟨rfl, hb3⟩
  have hbw := HB.out.trans (hb3.mono HB.out.size)
  have hBm3 := HBm.out.later hb3 hq1
  have hBt3 := HBt.out.later hb3 hq2
  clear m0 m1 m2 t0 t1 t2 t3 hq1 hq2 hb3
  have hq1 := hBm3.lt
  have hq2 := hBt3.lt
  have m0 := hBm3.at_ 0 _ rfl
  have m1 := hBm3.at_ 1 _ rfl
  have m2 := hBm3.at_ 2 _ rfl
  have t2 := hBt3.at_ 2 _ rfl
  clear hBm3 hBt3 HBm HBt
  rcases HK.out with ⟨rfl, hall⟩ | ⟨k, x, rfl, hx, hfx, hall⟩
  · have h := HE0.out hall
    subst h
    have HBW3 := Lib.hid hbw
    clear hbw
    clear hall
    go_wp2_with fail
    go_ret2
    exact ⟨rfl, HBW3.out⟩
  · have hkz : decide ((k : Int) < 0) = false := decide_eq_false (by omega)
    have hkz2 : ¬ (k : Int) < 0 := by omega
    have hxm := List.mem_of_getElem? hx
    have hkl : k < m.types.length := (List.getElem?_eq_some_iff.1 hx).1
    have hklz : (k : Int) < (m.types.length : Int) := by omega
    have h1 := HE1.out k x hx hfx hall
    have h2 := HE2.out k x hx hfx hall
    have h3 := HFL.out k x hx hfx hall
    have hxe : m.types[k] = x := (List.getElem?_eq_some_iff.1 hx).2
    have hht := HHT.out W3 hbw
    have hT3 := now_lup FieldR.stays HT.out hbw
    obtain ⟨bt, off, cs, hT1, hbF, hcs, hfr, hcell⟩ := hT3.at_ (k := k) hkl
    rw [hxe] at hfr
    obtain ⟨y1, y2, y3, y4, rfl, _, hty⟩ := FieldR.form hfr
    obtain ⟨A2, n2, hf⟩ := TyR.form hty
    simp only [List.cons.injEq, and_true] at hf
    obtain ⟨rfl, rfl, rfl, rfl⟩ := hf
    have hc0 := hcell 0 _ rfl
    have hc1 := hcell 1 _ rfl
    have hc2 := hcell 2 _ rfl
    have hc3 := hcell 3 _ rfl
    have hc4 := hcell 4 _ rfl
    simp only [Nat.add_zero] at hc0
    have HH1 := Lib.hid h1; have HH2 := Lib.hid h2; have HH3 := Lib.hid h3; have HBW := Lib.hid hbw; have HXM := Lib.hid hxm; have HC := Lib.hid hht; have HTY := Lib.hid hty; have HCE := Lib.hid hc0
    clear h1 h2 h3 hbw hxm hht hty hc0
    clear hall hfx hx hT3 hcell hfr hcs hxe
    subst hT1
    have hq3 : bt < W3.heap.size := hbF
    go_wp2_with fail
    refine HC.out.mono ?_
    rintro e w' ⟨rfl, rfl⟩
    cases zu with
    | true =>
      have h := HH1.out rfl
      subst h
      go_wp2_with fail
      go_ret2
      exact ⟨rfl, HBW.out⟩
    | false =>
      have h2 := HH2.out rfl
      have h3 := HH3.out rfl
      have hn2 := HN.out
      have hu2 := HU.out
      have hul : us.length ≤ 24 := by omega
      have hlen : (us ++ [nm]).length = us.length + 1 := by simp
      have hih := fun U A8 c8 (hU : Below W3.heap.size W3 U) (hs : SliceOf StrR 1 16 U (old U.heap.size) (.slice A8 (us.length + 1) c8) (us ++ [nm])) =>
        HIH.out 10 ⟨#[]⟩ (us ++ [nm]) x.is_ U1 (some ⟨bt, off, none⟩) T2 L1 A8 u1 e1 e2 l1 c8 _ U (HMT.out x HXM.out) (Nat.le_refl _) (by omega) (by rw [hlen]; omega) (now_up ModuleR.stays HM.out (HBW.out.trans (hU.mono HBW.out.size))) (now_lup ImportR.stays HL.out (HBW.out.trans (hU.mono HBW.out.size))) (by rw [hlen]; exact hs) (now_up TyR.stays HTY.out hU)
      rw [hlen, ← h2] at hih
      have husW := now_lup StrR.stays HUS.out HBW.out
      have hdr : Below W3.heap.size W3 W3.drew := by go_grown
      have HS := Lib.hid (show ∀ w', Below W3.heap.size W3 w' → (w'.cell? ⟨w.heap.size, 0, none⟩ = some (.slice U1 m.uses.length u1) ∧ w'.cell? ⟨w.heap.size, 1, none⟩ = some (.slice (some ⟨bt, off, none⟩) m.types.length e1) ∧ w'.cell? ⟨w.heap.size, 2, none⟩ = some (.slice T2 m.funcs.length e2) ∧ w'.cell? ⟨w.heap.size + 1, 2, none⟩ = some (.string nm) ∧ w'.cell? ⟨bt, off + k * 5 + 1, none⟩ = some (.int .i64 x.is_.kind) ∧ w'.cell? ⟨bt, off + k * 5 + 2, none⟩ = some (.string x.is_.of_) ∧ w'.cell? ⟨bt, off + k * 5 + 3, none⟩ = some (.string x.is_.name) ∧ w'.cell? ⟨bt, off + k * 5 + 4, none⟩ = some (.slice A2 x.is_.args.length n2)) from fun w' h => ⟨(h.cell (p := ⟨w.heap.size, 0, none⟩) hq1).trans m0, (h.cell (p := ⟨w.heap.size, 1, none⟩) hq1).trans m1, (h.cell (p := ⟨w.heap.size, 2, none⟩) hq1).trans m2, (h.cell (p := ⟨w.heap.size + 1, 2, none⟩) hq2).trans t2, (h.cell (p := ⟨bt, off + k * 5 + 1, none⟩) hq3).trans hc1, (h.cell (p := ⟨bt, off + k * 5 + 2, none⟩) hq3).trans hc2, (h.cell (p := ⟨bt, off + k * 5 + 3, none⟩) hq3).trans hc3, (h.cell (p := ⟨bt, off + k * 5 + 4, none⟩) hq3).trans hc4⟩)
      have HBk := Lib.hid hdr; have HUW := Lib.hid husW; have HIC := Lib.hid hih; have HUL := Lib.hid hul; have HLEN := Lib.hid hlen
      clear hdr husW hih hul hlen
      clear h2 h3 hn2 hu2 HH1 HH2 HH3
      go_upto_region 26 with fail
      go_cut [10, 11] (fun s10 s11 wc => s10 = .string E.1 ∧ s11 = .int .i64 E.2 ∧ Aside (Below W3.heap.size W3 wc))
      case first =>
        go_region_held3 (fun w' => w'.cell? ⟨w.heap.size, 0, none⟩ = some (.slice U1 m.uses.length u1) ∧ w'.cell? ⟨w.heap.size, 1, none⟩ = some (.slice (some ⟨bt, off, none⟩) m.types.length e1) ∧ w'.cell? ⟨w.heap.size, 2, none⟩ = some (.slice T2 m.funcs.length e2) ∧ w'.cell? ⟨w.heap.size + 1, 2, none⟩ = some (.string nm) ∧ w'.cell? ⟨bt, off + k * 5 + 1, none⟩ = some (.int .i64 x.is_.kind) ∧ w'.cell? ⟨bt, off + k * 5 + 2, none⟩ = some (.string x.is_.of_) ∧ w'.cell? ⟨bt, off + k * 5 + 3, none⟩ = some (.string x.is_.name) ∧ w'.cell? ⟨bt, off + k * 5 + 4, none⟩ = some (.slice A2 x.is_.args.length n2))
          (exact HS.out _ (by first | exact HBk.out | exact HBk.out.alloc HBk.out.size _ | (go_grown; done) | exact (HBk.out.alloc HBk.out.size _).alloc (HBk.out.alloc HBk.out.size _).size _ | exact HBk.out.setCell (Nat.le_refl _) _ | exact (HBk.out.setCell (Nat.le_refl _) _).setCell (Nat.le_refl _) _))
          (first
            | ((go_at_call 135; (with_reducible refine (HIC.out _ _ _ HBk.out HO8.out).mono ?_); rintro e w9 ⟨rfl, hb9⟩; have hb8 := below_step HBk.out hb9; have HBk := Lib.hid hb8; clear hb8 hb9))
            | ((refine step_clone_strs (e := 9) (G := old W3.heap.size) _ 22 rfl rfl Tryd.underlying22 (by kernel_rfl) rfl (HUW.out.stays StrR.stays (fun _ h => h) (Keeps.of_below (by first | exact HBk.out | exact HBk.out.alloc HBk.out.size _) fun _ h => h)) (fun k hk => Nat.lt_of_lt_of_le hk (by first | exact HBk.out.size | exact (HBk.out.alloc HBk.out.size _).size)) (by have := HUL.out; omega) ?_; intro A7 c7 w7 ho7 hg7; (first | (have hbx : Box w7 W3.heap.size 9 #[.string nm] := hg7.box (Box.made _ _ _) (by simp); have HBX := Lib.hid hbx; clear hbx) | skip); have hb8 := (by first | exact HBk.out.trans (hg7.below HBk.out.size HBk.out.size) | exact (HBk.out.alloc HBk.out.size _).trans (hg7.below (HBk.out.alloc HBk.out.size _).size (HBk.out.alloc HBk.out.size _).size) : Below W3.heap.size W3 w7); have ho8 := ho7.low (b := W3.heap.size) (by first | exact HBk.out.size | exact (HBk.out.alloc HBk.out.size _).size); have HBk := Lib.hid hb8; have HO7 := Lib.hid ho8; clear hb8 ho7 ho8 hg7))
            | ((refine step_push StrR.stays (.string ⟨#[]⟩) [.string nm] nm _ _ 22 rfl rfl Tryd.underlying22 (bytes := 16) (by kernel_rfl) (show Owns StrR 1 9 W3.heap.size _ none_ _ us from by first | exact HO7.out | exact HO7.out.alloc StrR.stays _) rfl rfl (by decide) rfl (by first | exact HBX.out | exact heap_alloc_new _ _) rfl (show StrR _ none_ _ _ from ⟨rfl, hnm⟩) (StrR.one (w := W3) (F := none_) _ _ ⟨rfl, hnm⟩) (fun k hk => hk.elim) (by have := HUL.out; unfold maxLen; omega) (by have := HUL.out; omega) (by first | exact HBk.out.size | exact (HBk.out.alloc HBk.out.size _).size) ?_; intro A8 c8 w8 ho8 hg8 _; have hb8 := (by first | exact HBk.out.trans (hg8.below (Nat.le_refl _) HBk.out.size) | exact (HBk.out.alloc HBk.out.size _).trans (hg8.below (Nat.le_refl _) (HBk.out.alloc HBk.out.size _).size) : Below W3.heap.size W3 w8); have hs8 := ho8.slice StrR.stays (by_ := 16) (F' := old w8.heap.size) (fun k hk => hk.elim (fun h => h.elim) (fun h => h.elim)) (fun k _ hk => hk) (by rw [HLEN.out]; have := HUL.out; omega) (by rw [HLEN.out]; have := HUL.out; omega); have HBk := Lib.hid hb8; have HO8 := Lib.hid hs8; clear hb8 ho8 hg8 hs8)))
        all_goals
          go_wp2_with fail
          go_meet
          exact ⟨rfl, rfl, aside HBk.out⟩
      case rest =>
      obtain ⟨rfl, rfl, hb5⟩ := hcut
      have hbw5 := HBW.out.trans (hb5.out.mono HBW.out.size)
      have HBW5 := Lib.hid hbw5
      clear hbw5
      clear hb5
      go_wp2_with fail
      go_ret2
      exact ⟨rfl, HBW5.out⟩

end Go.Proofs.YthedfpcdibhfpaaDoor
