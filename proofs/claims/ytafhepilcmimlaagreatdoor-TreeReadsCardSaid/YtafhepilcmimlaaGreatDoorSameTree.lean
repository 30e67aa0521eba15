/- Are two modules the same that hold the same: the laws' own sameType, sameExpr, sameFields, sameModule. -/
import Derived.Test.YtafhepilcmimlaaGreatDoorSame
import Derived.Test.YtafhepilcmimlaaGreatDoorReadG
import Derived.Test.YtafhepilcmimlaaGreatDoorTreeChk4
import Derived.StillTailTactics
namespace Go.Proofs.YtafhepilcmimlaaGreatDoor
open Go.RowKit Go.Shelf

theorem TyRn.form_ {w : World} {F : Foot} {cs : List Value} {x : Ty} {n : Nat} (h : TyRn n w F cs x) : ∃ A c m, n = m + 1 ∧ cs = [.int .i64 x.kind, .string x.of_, .string x.name, .slice A x.args.length c] ∧ SliceOf (TyRn m) 4 64 w F (.slice A x.args.length c) x.args := by
  cases n with
  | zero => exact h.elim
  | succ m =>
    obtain ⟨av, rfl, _, _, _, h⟩ := h
    have h2 := h
    obtain ⟨A, c, rfl, -⟩ := SliceOf.form h
    exact ⟨A, c, m, rfl, rfl, h2⟩
set_option maxRecDepth 100000 in
set_option maxHeartbeats 2000000 in
theorem same_type : ∀ (n : Nat) (x : Ty) (cs ds : List Value) (k : Nat) (F G : Foot) (w : World), (∀ k, F k → k < w.heap.size) → (∀ k, G k → k < w.heap.size) → TyRn n w F cs x → TyRn k w G ds x →
    Calls Tryz.prog 20 #[.agg cs.toArray, .agg ds.toArray] w fun e w' => e = .returned (.bool true) ∧ Below w.heap.size w w' := by
  intro n
  induction n with
  | zero => intro x cs ds k F G w _ _ h; exact h.elim
  | succ n ih =>
    intro x cs ds k F G w hF hG h1 h2
    obtain ⟨A, c, n', hn, rfl, hv⟩ := h1.form_
    obtain rfl : n = n' := by omega
    obtain ⟨A', c', m, rfl, rfl, hu⟩ := h2.form_
    have hvc := SliceOf.form hv
    have hl2 : x.args.length ≤ 140737488355328 := by obtain ⟨_, _, _, _, _, h, _⟩ := hvc; exact h
    have HV := Lib.hid hv; have HU := Lib.hid hu; have HF := Lib.hid hF; have HG := Lib.hid hG; have IH := Lib.hid ih
    clear hv hu hF hG ih
    clear h1 h2 hvc
    go_enter Tryz.func20, Tryz.ntmps20
    go_upto_region 1 with fail
    have hBa1 := ((Box.made w 50 #[.int .i64 x.kind, .string x.of_, .string x.name, .slice A x.args.length c]).alloc (.cells #[.int .i64 x.kind, .string x.of_, .string x.name, .slice A' x.args.length c'] 50))
    have hBa2 := (Box.made (w.alloc (.cells #[.int .i64 x.kind, .string x.of_, .string x.name, .slice A x.args.length c] 50)) 50 #[.int .i64 x.kind, .string x.of_, .string x.name, .slice A' x.args.length c'])
    rw [show (w.alloc (.cells #[.int .i64 x.kind, .string x.of_, .string x.name, .slice A x.args.length c] 50)).heap.size = w.heap.size + 1 by simp only [World.size_alloc]] at hBa2
    have hba : Below w.heap.size w ((w.alloc (.cells #[.int .i64 x.kind, .string x.of_, .string x.name, .slice A x.args.length c] 50)).alloc (.cells #[.int .i64 x.kind, .string x.of_, .string x.name, .slice A' x.args.length c'] 50)) := by go_grown
    have hza : ((w.alloc (.cells #[.int .i64 x.kind, .string x.of_, .string x.name, .slice A x.args.length c] 50)).alloc (.cells #[.int .i64 x.kind, .string x.of_, .string x.name, .slice A' x.args.length c'] 50)).heap.size = w.heap.size + 1 + 1 := by simp only [World.size_alloc]
    generalize (w.alloc (.cells #[.int .i64 x.kind, .string x.of_, .string x.name, .slice A x.args.length c] 50)).alloc (.cells #[.int .i64 x.kind, .string x.of_, .string x.name, .slice A' x.args.length c'] 50) = W1 at hBa1 hBa2 hba hza ⊢
    have p0 := hBa1.at_ 0 _ rfl
    have p1 := hBa1.at_ 1 _ rfl
    have p2 := hBa1.at_ 2 _ rfl
    have p3 := hBa1.at_ 3 _ rfl
    have q0 := hBa2.at_ 0 _ rfl
    have q1 := hBa2.at_ 1 _ rfl
    have q2 := hBa2.at_ 2 _ rfl
    have q3 := hBa2.at_ 3 _ rfl
    have HBA := Lib.hid hba; have HP1 := Lib.hid hBa1; have HP2 := Lib.hid hBa2
    clear hba hBa1 hBa2
    clear hza
    go_wp2_with fail
    go_loopg [5] x.args.length (fun gg s5 wr => ∃ kk : Nat, kk ≤ x.args.length ∧ x.args.length - kk ≤ gg ∧ s5 = .int .i64 kk ∧ Aside (Below W1.heap.size W1 wr))
    case atStart => exact ⟨0, Nat.zero_le _, by omega, rfl, aside (Below.refl _ _)⟩
    case round =>
      clear p0 q0
      obtain ⟨kk, hkk, hg, rfl, BW⟩ := hrel
      obtain ⟨W2, rfl⟩ : ∃ W, W = wr := ⟨_, rfl⟩
      have hb2 := HBA.out.trans (BW.out.mono HBA.out.size)
      have hP1 := HP1.out.later BW.out HP1.out.lt
      have hP2 := HP2.out.later BW.out HP2.out.lt
      have p3 := hP1.at_ 3 _ rfl
      have q3 := hP2.at_ 3 _ rfl
      by_cases hlt : kk < x.args.length
      · have hltz : (kk : Int) < (x.args.length : Int) := by omega
        obtain ⟨b1, o1, cs, rfl, hb1, hcs1, hR1, hc1⟩ := (HV.out.up (TyRn.stays n) HF.out hb2).at_ hlt
        obtain ⟨b2, o2, ds, rfl, hb2', hcs2, hR2, hc2⟩ := (HU.out.up (TyRn.stays m) HG.out hb2).at_ hlt
        obtain ⟨A1, c1, n1, hn1, rfl, _⟩ := hR1.form_
        obtain ⟨A2, c2, n2, hn2, rfl, _⟩ := hR2.form_
        have hF2 : ∀ k, F k → k < W2.heap.size := fun k hk => Nat.lt_of_lt_of_le (HF.out k hk) hb2.size
        have hG2 : ∀ k, G k → k < W2.heap.size := fun k hk => Nat.lt_of_lt_of_le (HG.out k hk) hb2.size
        have hd : Below W2.heap.size W2 W2.drew := by go_grown
        have hcl := IH.out (x.args[kk]) _ _ m F G W2.drew (fun k hk => Nat.lt_of_lt_of_le (hF2 k hk) hd.size) (fun k hk => Nat.lt_of_lt_of_le (hG2 k hk) hd.size) (TyRn.stays n _ _ _ _ _ _ hR1 (fun _ h => h) (Keeps.refl _ _).drew) (TyRn.stays m _ _ _ _ _ _ hR2 (fun _ h => h) (Keeps.refl _ _).drew)
        generalize x.args[kk] = y at *
        have u0 := hc1 0 _ rfl
        have u1 := hc1 1 _ rfl
        have u2 := hc1 2 _ rfl
        have u3 := hc1 3 _ rfl
        have v0 := hc2 0 _ rfl
        have v1 := hc2 1 _ rfl
        have v2 := hc2 2 _ rfl
        have v3 := hc2 3 _ rfl
        simp only [Nat.add_zero] at u0 v0
        have HCL := Lib.hid hcl
        clear hcl
        clear hc1 hc2 hR1 hR2 hn1 hn2 hP1 hP2
        go_upto_region 6 with fail
        go_still_tail 10, (by kernel_rfl)
        change wpList _ _ _ _ _ W2.drew
        go_wp2_with fail
        refine HCL.out.mono ?_
        rintro e W3 ⟨rfl, hb3⟩
        have hb3' : Below W1.heap.size W1 W3 := BW.out.trans ((hd.trans hb3).mono BW.out.size)
        have HB3 := Lib.hid hb3'
        clear hb3'
        clear hb3
        go_wp2_with fail
        go_roundg (x.args.length - (kk + 1))
        case measure => omega
        case rel => exact ⟨kk + 1, by omega, by omega, by go_num, aside HB3.out⟩
      · have hltz : ¬ (kk : Int) < (x.args.length : Int) := by omega
        have hltz2 : decide (kk < x.args.length) = false := decide_eq_false hlt
        have HB2 := Lib.hid hb2
        clear hb2
        go_wp2_with fail
        go_ret
        exact ⟨rfl, HB2.out⟩

theorem ExRn.form_ {w : World} {F : Foot} {cs : List Value} {x : Ex} {n : Nat} (h : ExRn n w F cs x) : ∃ A c m, n = m + 1 ∧ cs = [.int .i64 x.kind, .int .i64 x.n, .string x.of_, .string x.s, .slice A x.args.length c] ∧ SliceOf (ExRn m) 5 72 w F (.slice A x.args.length c) x.args := by
  cases n with
  | zero => exact h.elim
  | succ m =>
    obtain ⟨av, rfl, _, _, _, _, h⟩ := h
    have h2 := h
    obtain ⟨A, c, rfl, -⟩ := SliceOf.form h
    exact ⟨A, c, m, rfl, rfl, h2⟩
set_option maxRecDepth 100000 in
set_option maxHeartbeats 2000000 in
theorem same_expr : ∀ (n : Nat) (x : Ex) (cs ds : List Value) (k : Nat) (F G : Foot) (w : World), (∀ k, F k → k < w.heap.size) → (∀ k, G k → k < w.heap.size) → ExRn n w F cs x → ExRn k w G ds x →
    Calls Tryz.prog 21 #[.agg cs.toArray, .agg ds.toArray] w fun e w' => e = .returned (.bool true) ∧ Below w.heap.size w w' := by
  intro n
  induction n with
  | zero => intro x cs ds k F G w _ _ h; exact h.elim
  | succ n ih =>
    intro x cs ds k F G w hF hG h1 h2
    obtain ⟨A, c, n', hn, rfl, hv⟩ := h1.form_
    obtain rfl : n = n' := by omega
    obtain ⟨A', c', m, rfl, rfl, hu⟩ := h2.form_
    have hvc := SliceOf.form hv
    have hl2 : x.args.length ≤ 140737488355328 := by obtain ⟨_, _, _, _, _, h, _⟩ := hvc; exact h
    have HV := Lib.hid hv; have HU := Lib.hid hu; have HF := Lib.hid hF; have HG := Lib.hid hG; have IH := Lib.hid ih
    clear hv hu hF hG ih
    clear h1 h2 hvc
    go_enter Tryz.func21, Tryz.ntmps21
    go_upto_region 1 with fail
    have hBa1 := ((Box.made w 53 #[.int .i64 x.kind, .int .i64 x.n, .string x.of_, .string x.s, .slice A x.args.length c]).alloc (.cells #[.int .i64 x.kind, .int .i64 x.n, .string x.of_, .string x.s, .slice A' x.args.length c'] 53))
    have hBa2 := (Box.made (w.alloc (.cells #[.int .i64 x.kind, .int .i64 x.n, .string x.of_, .string x.s, .slice A x.args.length c] 53)) 53 #[.int .i64 x.kind, .int .i64 x.n, .string x.of_, .string x.s, .slice A' x.args.length c'])
    rw [show (w.alloc (.cells #[.int .i64 x.kind, .int .i64 x.n, .string x.of_, .string x.s, .slice A x.args.length c] 53)).heap.size = w.heap.size + 1 by simp only [World.size_alloc]] at hBa2
    have hba : Below w.heap.size w ((w.alloc (.cells #[.int .i64 x.kind, .int .i64 x.n, .string x.of_, .string x.s, .slice A x.args.length c] 53)).alloc (.cells #[.int .i64 x.kind, .int .i64 x.n, .string x.of_, .string x.s, .slice A' x.args.length c'] 53)) := by go_grown
    have hza : ((w.alloc (.cells #[.int .i64 x.kind, .int .i64 x.n, .string x.of_, .string x.s, .slice A x.args.length c] 53)).alloc (.cells #[.int .i64 x.kind, .int .i64 x.n, .string x.of_, .string x.s, .slice A' x.args.length c'] 53)).heap.size = w.heap.size + 1 + 1 := by simp only [World.size_alloc]
    generalize (w.alloc (.cells #[.int .i64 x.kind, .int .i64 x.n, .string x.of_, .string x.s, .slice A x.args.length c] 53)).alloc (.cells #[.int .i64 x.kind, .int .i64 x.n, .string x.of_, .string x.s, .slice A' x.args.length c'] 53) = W1 at hBa1 hBa2 hba hza ⊢
    have p0 := hBa1.at_ 0 _ rfl
    have p1 := hBa1.at_ 1 _ rfl
    have p2 := hBa1.at_ 2 _ rfl
    have p3 := hBa1.at_ 3 _ rfl
    have p4 := hBa1.at_ 4 _ rfl
    have q0 := hBa2.at_ 0 _ rfl
    have q1 := hBa2.at_ 1 _ rfl
    have q2 := hBa2.at_ 2 _ rfl
    have q3 := hBa2.at_ 3 _ rfl
    have q4 := hBa2.at_ 4 _ rfl
    have HBA := Lib.hid hba; have HP1 := Lib.hid hBa1; have HP2 := Lib.hid hBa2
    clear hba hBa1 hBa2
    clear hza
    go_wp2_with fail
    go_loopg [5] x.args.length (fun gg s5 wr => ∃ kk : Nat, kk ≤ x.args.length ∧ x.args.length - kk ≤ gg ∧ s5 = .int .i64 kk ∧ Aside (Below W1.heap.size W1 wr))
    case atStart => exact ⟨0, Nat.zero_le _, by omega, rfl, aside (Below.refl _ _)⟩
    case round =>
      clear p0 q0
      obtain ⟨kk, hkk, hg, rfl, BW⟩ := hrel
      obtain ⟨W2, rfl⟩ : ∃ W, W = wr := ⟨_, rfl⟩
      have hb2 := HBA.out.trans (BW.out.mono HBA.out.size)
      have hP1 := HP1.out.later BW.out HP1.out.lt
      have hP2 := HP2.out.later BW.out HP2.out.lt
      have p4 := hP1.at_ 4 _ rfl
      have q4 := hP2.at_ 4 _ rfl
      by_cases hlt : kk < x.args.length
      · have hltz : (kk : Int) < (x.args.length : Int) := by omega
        obtain ⟨b1, o1, cs, rfl, hb1, hcs1, hR1, hc1⟩ := (HV.out.up (ExRn.stays n) HF.out hb2).at_ hlt
        obtain ⟨b2, o2, ds, rfl, hb2', hcs2, hR2, hc2⟩ := (HU.out.up (ExRn.stays m) HG.out hb2).at_ hlt
        obtain ⟨A1, c1, n1, hn1, rfl, _⟩ := hR1.form_
        obtain ⟨A2, c2, n2, hn2, rfl, _⟩ := hR2.form_
        have hF2 : ∀ k, F k → k < W2.heap.size := fun k hk => Nat.lt_of_lt_of_le (HF.out k hk) hb2.size
        have hG2 : ∀ k, G k → k < W2.heap.size := fun k hk => Nat.lt_of_lt_of_le (HG.out k hk) hb2.size
        have hd : Below W2.heap.size W2 W2.drew := by go_grown
        have hcl := IH.out (x.args[kk]) _ _ m F G W2.drew (fun k hk => Nat.lt_of_lt_of_le (hF2 k hk) hd.size) (fun k hk => Nat.lt_of_lt_of_le (hG2 k hk) hd.size) (ExRn.stays n _ _ _ _ _ _ hR1 (fun _ h => h) (Keeps.refl _ _).drew) (ExRn.stays m _ _ _ _ _ _ hR2 (fun _ h => h) (Keeps.refl _ _).drew)
        generalize x.args[kk] = y at *
        have u0 := hc1 0 _ rfl
        have u1 := hc1 1 _ rfl
        have u2 := hc1 2 _ rfl
        have u3 := hc1 3 _ rfl
        have u4 := hc1 4 _ rfl
        have v0 := hc2 0 _ rfl
        have v1 := hc2 1 _ rfl
        have v2 := hc2 2 _ rfl
        have v3 := hc2 3 _ rfl
        have v4 := hc2 4 _ rfl
        simp only [Nat.add_zero] at u0 v0
        have HCL := Lib.hid hcl
        clear hcl
        clear hc1 hc2 hR1 hR2 hn1 hn2 hP1 hP2
        go_upto_region 6 with fail
        go_still_tail 10, (by kernel_rfl)
        change wpList _ _ _ _ _ W2.drew
        go_wp2_with fail
        refine HCL.out.mono ?_
        rintro e W3 ⟨rfl, hb3⟩
        have hb3' : Below W1.heap.size W1 W3 := BW.out.trans ((hd.trans hb3).mono BW.out.size)
        have HB3 := Lib.hid hb3'
        clear hb3'
        clear hb3
        go_wp2_with fail
        go_roundg (x.args.length - (kk + 1))
        case measure => omega
        case rel => exact ⟨kk + 1, by omega, by omega, by go_num, aside HB3.out⟩
      · have hltz : ¬ (kk : Int) < (x.args.length : Int) := by omega
        have hltz2 : decide (kk < x.args.length) = false := decide_eq_false hlt
        have HB2 := Lib.hid hb2
        clear hb2
        go_wp2_with fail
        go_ret
        exact ⟨rfl, HB2.out⟩

theorem TyR.level {w : World} {F : Foot} {cs : List Value} {x : Ty} (h : TyR w F cs x) : ∃ n, TyRn n w F cs x := h
theorem ExR.level {w : World} {F : Foot} {cs : List Value} {x : Ex} (h : ExR w F cs x) : ∃ n, ExRn n w F cs x := h
theorem same_type_any (x : Ty) (cs ds : List Value) (F G : Foot) (w : World) (hF : ∀ k, F k → k < w.heap.size) (hG : ∀ k, G k → k < w.heap.size) (h1 : TyR w F cs x) (h2 : TyR w G ds x) :
    Calls Tryz.prog 20 #[.agg cs.toArray, .agg ds.toArray] w fun e w' => e = .returned (.bool true) ∧ Below w.heap.size w w' := by
  obtain ⟨n, h1⟩ := h1
  obtain ⟨k, h2⟩ := h2
  exact same_type n x cs ds k F G w hF hG h1 h2
theorem same_expr_any (x : Ex) (cs ds : List Value) (F G : Foot) (w : World) (hF : ∀ k, F k → k < w.heap.size) (hG : ∀ k, G k → k < w.heap.size) (h1 : ExR w F cs x) (h2 : ExR w G ds x) :
    Calls Tryz.prog 21 #[.agg cs.toArray, .agg ds.toArray] w fun e w' => e = .returned (.bool true) ∧ Below w.heap.size w w' := by
  obtain ⟨n, h1⟩ := h1
  obtain ⟨k, h2⟩ := h2
  exact same_expr n x cs ds k F G w hF hG h1 h2

set_option maxRecDepth 100000 in
set_option maxHeartbeats 2000000 in
theorem same_fields (v u : Value) (l : List Field) (F G : Foot) (w : World) (hF : ∀ k, F k → k < w.heap.size) (hG : ∀ k, G k → k < w.heap.size) (hv : SliceOf FieldR 5 80 w F v l) (hu : SliceOf FieldR 5 80 w G u l) :
    Calls Tryz.prog 19 #[v, u] w fun e w' => e = .returned (.bool true) ∧ Below w.heap.size w w' := by
  obtain ⟨A, c, rfl, _, _, hl2, _⟩ := hv.form
  obtain ⟨A', c', rfl, -⟩ := hu.form
  have HV := Lib.hid hv; have HU := Lib.hid hu; have HF := Lib.hid hF; have HG := Lib.hid hG
  clear hv hu hF hG
  go_enter Tryz.func19, Tryz.ntmps19
  go_wp2_with fail
  go_loopg [5] l.length (fun gg s5 wr => ∃ kk : Nat, kk ≤ l.length ∧ l.length - kk ≤ gg ∧ s5 = .int .i64 kk ∧ Aside (Below w.heap.size w wr))
  case atStart => exact ⟨0, Nat.zero_le _, by omega, rfl, aside (Below.refl _ _)⟩
  case round =>
    obtain ⟨kk, hkk, hg, rfl, BW⟩ := hrel
    obtain ⟨W2, rfl⟩ : ∃ W, W = wr := ⟨_, rfl⟩
    have hb2 := BW.out
    by_cases hlt : kk < l.length
    · have hltz : (kk : Int) < (l.length : Int) := by omega
      obtain ⟨b1, o1, cs, rfl, hb1, hcs1, hR1, hc1⟩ := (HV.out.up FieldR.stays HF.out hb2).at_ hlt
      obtain ⟨b2, o2, ds, rfl, hb2', hcs2, hR2, hc2⟩ := (HU.out.up FieldR.stays HG.out hb2).at_ hlt
      obtain ⟨tc, rfl, _, ht1⟩ := hR1
      obtain ⟨td, rfl, _, ht2⟩ := hR2
      obtain ⟨A1, c1, rfl⟩ := TyR.form ht1
      obtain ⟨A2, c2, rfl⟩ := TyR.form ht2
      have hd : Below W2.heap.size W2 W2.drew := by go_grown
      have hcl := same_type_any (l[kk].is_) _ _ F G W2.drew (fun k hk => Nat.lt_of_lt_of_le (Nat.lt_of_lt_of_le (HF.out k hk) hb2.size) hd.size) (fun k hk => Nat.lt_of_lt_of_le (Nat.lt_of_lt_of_le (HG.out k hk) hb2.size) hd.size) (TyR.stays _ _ _ _ _ _ ht1 (fun _ h => h) (Keeps.refl _ _).drew) (TyR.stays _ _ _ _ _ _ ht2 (fun _ h => h) (Keeps.refl _ _).drew)
      generalize l[kk] = y at *
      have u0 := hc1 0 _ rfl
      have u1 := hc1 1 _ rfl
      have u2 := hc1 2 _ rfl
      have u3 := hc1 3 _ rfl
      have u4 := hc1 4 _ rfl
      have v0 := hc2 0 _ rfl
      have v1 := hc2 1 _ rfl
      have v2 := hc2 2 _ rfl
      have v3 := hc2 3 _ rfl
      have v4 := hc2 4 _ rfl
      simp only [Nat.add_zero] at u0 v0
      have HCL := Lib.hid hcl
      clear hcl
      clear hc1 hc2 ht1 ht2
      go_upto_region 6 with fail
      go_still_tail 22, (by kernel_rfl)
      change wpList _ _ _ _ _ W2.drew
      go_wp2_with fail
      refine HCL.out.mono ?_
      rintro e W3 ⟨rfl, hb3⟩
      have hb3' : Below w.heap.size w W3 := hb2.trans ((hd.trans hb3).mono hb2.size)
      have HB3 := Lib.hid hb3'
      clear hb3'
      clear hb3
      go_wp2_with fail
      go_roundg (l.length - (kk + 1))
      case measure => omega
      case rel => exact ⟨kk + 1, by omega, by omega, by go_num, aside HB3.out⟩
    · have hltz : ¬ (kk : Int) < (l.length : Int) := by omega
      have hltz2 : decide (kk < l.length) = false := decide_eq_false hlt
      have HB2 := Lib.hid hb2
      clear hb2
      go_wp2_with fail
      go_ret
      exact ⟨rfl, HB2.out⟩

theorem FuncR.parts {w : World} {F : Foot} {x : Func} {n v pv a b c d e f g i j : Value} (h : FuncR w F [n, v, pv, a, b, c, d, e, f, g, i, j] x) : SliceOf FieldR 5 80 w F pv x.params ∧ TyR w F [a, b, c, d] x.result ∧ ExR w F [e, f, g, i, j] x.body := by
  obtain ⟨P1, p1, a', b', c', d', e', f', g', i', j', hcs, _, _, h0, h1, h2⟩ := FuncR.form h
  simp only [List.cons.injEq, and_true] at hcs
  obtain ⟨rfl, rfl, rfl, rfl, rfl, rfl, rfl, rfl, rfl, rfl, rfl, rfl⟩ := hcs
  exact ⟨h0, h1, h2⟩
theorem listEq_strs (l : List ByteArray) : listEq eqB l l = true := listEq_refl (fun a => by unfold eqB; simp) l
set_option maxRecDepth 100000 in
set_option maxHeartbeats 4000000 in
theorem same_module (m : Module) (cs ds : List Value) (F G : Foot) (w : World) (hF : ∀ k, F k → k < w.heap.size) (hG : ∀ k, G k → k < w.heap.size) (h1 : ModuleR w F cs m) (h2 : ModuleR w G ds m) :
    Calls Tryz.prog 8 #[.agg cs.toArray, .agg ds.toArray] w fun e w' => e = .returned (.bool true) ∧ Below w.heap.size w w' := by
  obtain ⟨U1, u1, T1, t1, X1, x1, rfl, hu1, ht1, hx1⟩ := ModuleR.form h1
  obtain ⟨U2, u2, T2, t2, X2, x2, rfl, hu2, ht2, hx2⟩ := ModuleR.form h2
  have hl2 : m.funcs.length ≤ 140737488355328 := by obtain ⟨_, _, _, _, _, h, _⟩ := hx1.form; exact h
  have hc1 := fun U (hU : Below w.heap.size w U) => same_texts _ _ m.uses m.uses F G U (fun k hk => Nat.lt_of_lt_of_le (hF k hk) hU.size) (fun k hk => Nat.lt_of_lt_of_le (hG k hk) hU.size) (hu1.up StrR.stays hF hU) (hu2.up StrR.stays hG hU)
  rw [listEq_strs] at hc1
  have hc2 := fun U (hU : Below w.heap.size w U) => same_fields _ _ m.types F G U (fun k hk => Nat.lt_of_lt_of_le (hF k hk) hU.size) (fun k hk => Nat.lt_of_lt_of_le (hG k hk) hU.size) (ht1.up FieldR.stays hF hU) (ht2.up FieldR.stays hG hU)
  have HC1 := Lib.hid hc1; have HC2 := Lib.hid hc2; have HX1 := Lib.hid hx1; have HX2 := Lib.hid hx2; have HF := Lib.hid hF; have HG := Lib.hid hG
  clear hc1 hc2 hx1 hx2 hF hG
  clear h1 h2 hu1 hu2 ht1 ht2
  go_enter Tryz.func8, Tryz.ntmps8
  go_upto_region 1 with fail
  have hBa1 := ((Box.made w 26 #[.slice U1 m.uses.length u1, .slice T1 m.types.length t1, .slice X1 m.funcs.length x1]).alloc (.cells #[.slice U2 m.uses.length u2, .slice T2 m.types.length t2, .slice X2 m.funcs.length x2] 26))
  have hBa2 := (Box.made (w.alloc (.cells #[.slice U1 m.uses.length u1, .slice T1 m.types.length t1, .slice X1 m.funcs.length x1] 26)) 26 #[.slice U2 m.uses.length u2, .slice T2 m.types.length t2, .slice X2 m.funcs.length x2])
  rw [show (w.alloc (.cells #[.slice U1 m.uses.length u1, .slice T1 m.types.length t1, .slice X1 m.funcs.length x1] 26)).heap.size = w.heap.size + 1 by simp only [World.size_alloc]] at hBa2
  have hba : Below w.heap.size w ((w.alloc (.cells #[.slice U1 m.uses.length u1, .slice T1 m.types.length t1, .slice X1 m.funcs.length x1] 26)).alloc (.cells #[.slice U2 m.uses.length u2, .slice T2 m.types.length t2, .slice X2 m.funcs.length x2] 26)) := by go_grown
  have hza : ((w.alloc (.cells #[.slice U1 m.uses.length u1, .slice T1 m.types.length t1, .slice X1 m.funcs.length x1] 26)).alloc (.cells #[.slice U2 m.uses.length u2, .slice T2 m.types.length t2, .slice X2 m.funcs.length x2] 26)).heap.size = w.heap.size + 1 + 1 := by simp only [World.size_alloc]
  generalize (w.alloc (.cells #[.slice U1 m.uses.length u1, .slice T1 m.types.length t1, .slice X1 m.funcs.length x1] 26)).alloc (.cells #[.slice U2 m.uses.length u2, .slice T2 m.types.length t2, .slice X2 m.funcs.length x2] 26) = W1 at hBa1 hBa2 hba hza ⊢
  have p0 := hBa1.at_ 0 _ rfl
  have p1 := hBa1.at_ 1 _ rfl
  have p2 := hBa1.at_ 2 _ rfl
  have q0 := hBa2.at_ 0 _ rfl
  have q1 := hBa2.at_ 1 _ rfl
  have q2 := hBa2.at_ 2 _ rfl
  have HBA := Lib.hid hba; have HP1 := Lib.hid hBa1; have HP2 := Lib.hid hBa2
  clear hba hBa1 hBa2
  clear hza
  go_wp2_with fail
  refine (HC1.out W1 HBA.out).mono ?_
  rintro e W2 ⟨rfl, hb2⟩
  have hw2 := HBA.out.trans (hb2.mono HBA.out.size)
  have hP1 := HP1.out.later hb2 HP1.out.lt
  have hP2 := HP2.out.later hb2 HP2.out.lt
  clear p0 p1 p2 q0 q1 q2
  have p1 := hP1.at_ 1 _ rfl
  have p2 := hP1.at_ 2 _ rfl
  have q1 := hP2.at_ 1 _ rfl
  have q2 := hP2.at_ 2 _ rfl
  have HW2 := Lib.hid hw2; have HP3 := Lib.hid hP1; have HP4 := Lib.hid hP2
  clear hw2 hP1 hP2
  clear hb2 HP1 HP2 HBA
  go_wp2_with fail
  refine (HC2.out W2 HW2.out).mono ?_
  rintro e W3 ⟨rfl, hb3⟩
  have hw3 := HW2.out.trans (hb3.mono HW2.out.size)
  have hP1 := HP3.out.later hb3 HP3.out.lt
  have hP2 := HP4.out.later hb3 HP4.out.lt
  clear p1 p2 q1 q2
  have p2 := hP1.at_ 2 _ rfl
  have q2 := hP2.at_ 2 _ rfl
  have HW3 := Lib.hid hw3; have HP1 := Lib.hid hP1; have HP2 := Lib.hid hP2
  clear hw3 hP1 hP2
  clear hb3 HP3 HP4 HW2 HC1 HC2
  go_wp2_with fail
  go_loopg [5] m.funcs.length (fun gg s5 wr => ∃ kk : Nat, kk ≤ m.funcs.length ∧ m.funcs.length - kk ≤ gg ∧ s5 = .int .i64 kk ∧ Aside (Below W3.heap.size W3 wr))
  case atStart => exact ⟨0, Nat.zero_le _, by omega, rfl, aside (Below.refl _ _)⟩
  case round =>
    clear p2 q2
    obtain ⟨kk, hkk, hg, rfl, BW⟩ := hrel
    obtain ⟨W4, rfl⟩ : ∃ W, W = wr := ⟨_, rfl⟩
    have hb4 := HW3.out.trans (BW.out.mono HW3.out.size)
    have hP1 := HP1.out.later BW.out HP1.out.lt
    have hP2 := HP2.out.later BW.out HP2.out.lt
    have p2 := hP1.at_ 2 _ rfl
    have q2 := hP2.at_ 2 _ rfl
    by_cases hlt : kk < m.funcs.length
    · have hltz : (kk : Int) < (m.funcs.length : Int) := by omega
      obtain ⟨n1, o1, cs, rfl, hb1, hcs1, hR1, hc1⟩ := (HX1.out.up FuncR.stays HF.out hb4).at_ hlt
      have hF4 : ∀ k, F k → k < W4.heap.size := fun k hk => Nat.lt_of_lt_of_le (HF.out k hk) hb4.size
      have hG4 : ∀ k, G k → k < W4.heap.size := fun k hk => Nat.lt_of_lt_of_le (HG.out k hk) hb4.size
      generalize hy : m.funcs[kk] = y at *
      obtain ⟨P1, i1, A1, j1, B1, k1, rfl⟩ := FuncR.cells hR1
      have u0 := hc1 0 _ rfl
      have u1 := hc1 1 _ rfl
      have u2 := hc1 2 _ rfl
      have u3 := hc1 3 _ rfl
      have u4 := hc1 4 _ rfl
      have u5 := hc1 5 _ rfl
      have u6 := hc1 6 _ rfl
      have u7 := hc1 7 _ rfl
      have u8 := hc1 8 _ rfl
      have u9 := hc1 9 _ rfl
      have u10 := hc1 10 _ rfl
      have u11 := hc1 11 _ rfl
      simp only [Nat.add_zero] at u0
      have HR1 := Lib.hid hR1
      clear hR1
      clear hc1
      go_upto_region 7 with fail
      have hBx := Box.made W4 55 #[.string y.name, .string y.var_, .slice P1 y.params.length i1, .int .i64 y.result.kind, .string y.result.of_, .string y.result.name, .slice A1 y.result.args.length j1, .int .i64 y.body.kind, .int .i64 y.body.n, .string y.body.of_, .string y.body.s, .slice B1 y.body.args.length k1]
      have hbx : Below W4.heap.size W4 (W4.alloc (.cells #[.string y.name, .string y.var_, .slice P1 y.params.length i1, .int .i64 y.result.kind, .string y.result.of_, .string y.result.name, .slice A1 y.result.args.length j1, .int .i64 y.body.kind, .int .i64 y.body.n, .string y.body.of_, .string y.body.s, .slice B1 y.body.args.length k1] 55)) := by go_grown
      have hzx : (W4.alloc (.cells #[.string y.name, .string y.var_, .slice P1 y.params.length i1, .int .i64 y.result.kind, .string y.result.of_, .string y.result.name, .slice A1 y.result.args.length j1, .int .i64 y.body.kind, .int .i64 y.body.n, .string y.body.of_, .string y.body.s, .slice B1 y.body.args.length k1] 55)).heap.size = W4.heap.size + 1 := by simp
      generalize W4.alloc (.cells #[.string y.name, .string y.var_, .slice P1 y.params.length i1, .int .i64 y.result.kind, .string y.result.of_, .string y.result.name, .slice A1 y.result.args.length j1, .int .i64 y.body.kind, .int .i64 y.body.n, .string y.body.of_, .string y.body.s, .slice B1 y.body.args.length k1] 55) = W5 at hBx hbx hzx ⊢
      have hb5 := hb4.trans (hbx.mono hb4.size)
      obtain ⟨n2, o2, ds, rfl, hb2', hcs2, hR2, hc2⟩ := (HX2.out.up FuncR.stays HG.out hb5).at_ hlt
      rw [hy] at hR2
      clear hy
      obtain ⟨P2, i2, A2, j2, B2, k2, rfl⟩ := FuncR.cells hR2
      have v0 := hc2 0 _ rfl
      have v1 := hc2 1 _ rfl
      have v2 := hc2 2 _ rfl
      have v3 := hc2 3 _ rfl
      have v4 := hc2 4 _ rfl
      have v5 := hc2 5 _ rfl
      have v6 := hc2 6 _ rfl
      have v7 := hc2 7 _ rfl
      have v8 := hc2 8 _ rfl
      have v9 := hc2 9 _ rfl
      have v10 := hc2 10 _ rfl
      have v11 := hc2 11 _ rfl
      simp only [Nat.add_zero] at v0
      have hQ2 := hP2.later hbx hP2.lt
      clear p2 q2 u0 u1 u2 u3 u4 u5 u6 u7 u8 u9 u10 u11
      have q2 := hQ2.at_ 2 _ rfl
      have hR1 := FuncR.stays.later HR1.out hbx hF4
      have hw5 := BW.out.trans (hbx.mono BW.out.size)
      have hG5 : ∀ k, G k → k < W5.heap.size := fun k hk => Nat.lt_of_lt_of_le (hG4 k hk) hbx.size
      have hF5 : ∀ k, F k → k < W5.heap.size := fun k hk => Nat.lt_of_lt_of_le (hF4 k hk) hbx.size
      have HW5 := Lib.hid hw5; have HR2 := Lib.hid hR2; have HR1' := Lib.hid hR1; have HBX := Lib.hid hBx
      clear hw5 hR2 hR1 hBx
      clear hc2 hP1 hP2 hbx hzx HR1 hb5 hQ2
      go_upto_region 8 with fail
      have hBy := Box.made W5 55 #[.string y.name, .string y.var_, .slice P2 y.params.length i2, .int .i64 y.result.kind, .string y.result.of_, .string y.result.name, .slice A2 y.result.args.length j2, .int .i64 y.body.kind, .int .i64 y.body.n, .string y.body.of_, .string y.body.s, .slice B2 y.body.args.length k2]
      have hby : Below W5.heap.size W5 (W5.alloc (.cells #[.string y.name, .string y.var_, .slice P2 y.params.length i2, .int .i64 y.result.kind, .string y.result.of_, .string y.result.name, .slice A2 y.result.args.length j2, .int .i64 y.body.kind, .int .i64 y.body.n, .string y.body.of_, .string y.body.s, .slice B2 y.body.args.length k2] 55)) := by go_grown
      have hzy : (W5.alloc (.cells #[.string y.name, .string y.var_, .slice P2 y.params.length i2, .int .i64 y.result.kind, .string y.result.of_, .string y.result.name, .slice A2 y.result.args.length j2, .int .i64 y.body.kind, .int .i64 y.body.n, .string y.body.of_, .string y.body.s, .slice B2 y.body.args.length k2] 55)).heap.size = W5.heap.size + 1 := by simp
      generalize W5.alloc (.cells #[.string y.name, .string y.var_, .slice P2 y.params.length i2, .int .i64 y.result.kind, .string y.result.of_, .string y.result.name, .slice A2 y.result.args.length j2, .int .i64 y.body.kind, .int .i64 y.body.n, .string y.body.of_, .string y.body.s, .slice B2 y.body.args.length k2] 55) = W6 at hBy hby hzy ⊢
      have hX6 := HBX.out.later hby HBX.out.lt
      have hR1 := FuncR.stays.later HR1'.out hby hF5
      have hR2 := FuncR.stays.later HR2.out hby hG5
      have hw6 := HW5.out.trans (hby.mono HW5.out.size)
      have hG6 : ∀ k, G k → k < W6.heap.size := fun k hk => Nat.lt_of_lt_of_le (hG5 k hk) hby.size
      have hF6 : ∀ k, F k → k < W6.heap.size := fun k hk => Nat.lt_of_lt_of_le (hF5 k hk) hby.size
      clear v0 v1 v2 v3 v4 v5 v6 v7 v8 v9 v10 v11 q2
      obtain ⟨hs1, ht1, hx1⟩ := hR1.parts
      obtain ⟨hs2, ht2, hx2⟩ := hR2.parts
      have hFU : ∀ U, Below W6.heap.size W6 U → ∀ k, F k → k < U.heap.size := fun U hU k hk => Nat.lt_of_lt_of_le (hF6 k hk) hU.size
      have hGU : ∀ U, Below W6.heap.size W6 U → ∀ k, G k → k < U.heap.size := fun U hU k hk => Nat.lt_of_lt_of_le (hG6 k hk) hU.size
      have c1 := fun U (hU : Below W6.heap.size W6 U) => same_fields _ _ y.params F G U (hFU U hU) (hGU U hU) (hs1.up FieldR.stays hF6 hU) (hs2.up FieldR.stays hG6 hU)
      have c2 := fun U (hU : Below W6.heap.size W6 U) => same_type_any y.result _ _ F G U (hFU U hU) (hGU U hU) (TyR.stays.later ht1 hU hF6) (TyR.stays.later ht2 hU hG6)
      have c3 := fun U (hU : Below W6.heap.size W6 U) => same_expr_any y.body _ _ F G U (hFU U hU) (hGU U hU) (ExR.stays.later hx1 hU hF6) (ExR.stays.later hx2 hU hG6)
      have a0 := hX6.at_ 0 _ rfl
      have a1 := hX6.at_ 1 _ rfl
      have a2 := hX6.at_ 2 _ rfl
      have a3 := hX6.at_ 3 _ rfl
      have a4 := hX6.at_ 4 _ rfl
      have a5 := hX6.at_ 5 _ rfl
      have a6 := hX6.at_ 6 _ rfl
      have a7 := hX6.at_ 7 _ rfl
      have a8 := hX6.at_ 8 _ rfl
      have a9 := hX6.at_ 9 _ rfl
      have a10 := hX6.at_ 10 _ rfl
      have a11 := hX6.at_ 11 _ rfl
      have b0 := hBy.at_ 0 _ rfl
      have b1 := hBy.at_ 1 _ rfl
      have b2 := hBy.at_ 2 _ rfl
      have b3 := hBy.at_ 3 _ rfl
      have b4 := hBy.at_ 4 _ rfl
      have b5 := hBy.at_ 5 _ rfl
      have b6 := hBy.at_ 6 _ rfl
      have b7 := hBy.at_ 7 _ rfl
      have b8 := hBy.at_ 8 _ rfl
      have b9 := hBy.at_ 9 _ rfl
      have b10 := hBy.at_ 10 _ rfl
      have b11 := hBy.at_ 11 _ rfl
      have HX6 := Lib.hid hX6; have HY6 := Lib.hid hBy; have HW6 := Lib.hid hw6; have K1 := Lib.hid c1; have K2 := Lib.hid c2; have K3 := Lib.hid c3
      clear hX6 hBy hw6 c1 c2 c3
      clear hs1 hs2 ht1 ht2 hx1 hx2 hFU hGU hby hzy hR1 hR2 HW5 HR2 HR1' HBX
      go_wp2_with fail
      refine (K1.out W6 (Below.refl _ _)).mono ?_
      rintro e W7 ⟨rfl, hb7⟩
      have hX7 := HX6.out.later hb7 HX6.out.lt
      have hY7 := HY6.out.later hb7 HY6.out.lt
      clear a0 b0 a1 b1 a2 b2 a3 b3 a4 b4 a5 b5 a6 b6 a7 b7 a8 b8 a9 b9 a10 b10 a11 b11
      have a0 := hX7.at_ 0 _ rfl
      have a1 := hX7.at_ 1 _ rfl
      have a2 := hX7.at_ 2 _ rfl
      have a3 := hX7.at_ 3 _ rfl
      have a4 := hX7.at_ 4 _ rfl
      have a5 := hX7.at_ 5 _ rfl
      have a6 := hX7.at_ 6 _ rfl
      have a7 := hX7.at_ 7 _ rfl
      have a8 := hX7.at_ 8 _ rfl
      have a9 := hX7.at_ 9 _ rfl
      have a10 := hX7.at_ 10 _ rfl
      have a11 := hX7.at_ 11 _ rfl
      have b0 := hY7.at_ 0 _ rfl
      have b1 := hY7.at_ 1 _ rfl
      have b2 := hY7.at_ 2 _ rfl
      have b3 := hY7.at_ 3 _ rfl
      have b4 := hY7.at_ 4 _ rfl
      have b5 := hY7.at_ 5 _ rfl
      have b6 := hY7.at_ 6 _ rfl
      have b7 := hY7.at_ 7 _ rfl
      have b8 := hY7.at_ 8 _ rfl
      have b9 := hY7.at_ 9 _ rfl
      have b10 := hY7.at_ 10 _ rfl
      have b11 := hY7.at_ 11 _ rfl
      have HB7 := Lib.hid hb7
      clear hb7
      clear hX7 hY7
      go_wp2_with fail
      refine (K2.out W7 HB7.out).mono ?_
      rintro e W8 ⟨rfl, hb8⟩
      have hb8' := HB7.out.trans (hb8.mono HB7.out.size)
      have hX8 := HX6.out.later hb8' HX6.out.lt
      have hY8 := HY6.out.later hb8' HY6.out.lt
      clear a0 b0 a1 b1 a2 b2 a3 b3 a4 b4 a5 b5 a6 b6 a7 b7 a8 b8 a9 b9 a10 b10 a11 b11
      have a0 := hX8.at_ 0 _ rfl
      have a1 := hX8.at_ 1 _ rfl
      have a2 := hX8.at_ 2 _ rfl
      have a3 := hX8.at_ 3 _ rfl
      have a4 := hX8.at_ 4 _ rfl
      have a5 := hX8.at_ 5 _ rfl
      have a6 := hX8.at_ 6 _ rfl
      have a7 := hX8.at_ 7 _ rfl
      have a8 := hX8.at_ 8 _ rfl
      have a9 := hX8.at_ 9 _ rfl
      have a10 := hX8.at_ 10 _ rfl
      have a11 := hX8.at_ 11 _ rfl
      have b0 := hY8.at_ 0 _ rfl
      have b1 := hY8.at_ 1 _ rfl
      have b2 := hY8.at_ 2 _ rfl
      have b3 := hY8.at_ 3 _ rfl
      have b4 := hY8.at_ 4 _ rfl
      have b5 := hY8.at_ 5 _ rfl
      have b6 := hY8.at_ 6 _ rfl
      have b7 := hY8.at_ 7 _ rfl
      have b8 := hY8.at_ 8 _ rfl
      have b9 := hY8.at_ 9 _ rfl
      have b10 := hY8.at_ 10 _ rfl
      have b11 := hY8.at_ 11 _ rfl
      have HB8 := Lib.hid hb8'
      clear hb8'
      clear hX8 hY8 hb8
      go_wp2_with fail
      refine (K3.out W8 HB8.out).mono ?_
      rintro e W9 ⟨rfl, hb9⟩
      have hb9' := HB8.out.trans (hb9.mono HB8.out.size)
      have hw9 := HW6.out.trans (hb9'.mono HW6.out.size)
      have HW9 := Lib.hid hw9
      clear hw9
      clear hb9 hb9'
      go_wp2_with fail
      go_roundg (m.funcs.length - (kk + 1))
      case measure => omega
      case rel => exact ⟨kk + 1, by omega, by omega, by go_num, aside HW9.out⟩
    · have hltz : ¬ (kk : Int) < (m.funcs.length : Int) := by omega
      have hltz2 : decide (kk < m.funcs.length) = false := decide_eq_false hlt
      have HB4 := Lib.hid hb4
      clear hb4
      go_wp2_with fail
      go_ret
      exact ⟨rfl, HB4.out⟩

end Go.Proofs.YtafhepilcmimlaaGreatDoor
