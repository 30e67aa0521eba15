/- Expressions as texts: the reference's exprShown, listShown. -/
import Derived.Test.YtoejhgbndehaiaaDoorExprTxt
import Derived.Deep.RegionHeld3
namespace Go.Proofs.YtoejhgbndehaiaaDoor
open Go.RowKit Go.Shelf


/-- What the reference tells of an expression, with so much room. -/
def ShownAt (n : Nat) : Prop := ∀ (x : Ex) (cs : List Value) (F : Foot) (w : World), exErr n x = 0 → ExR w F cs x → (∀ k, F k → k < w.heap.size) →
    Calls Tryd.prog 36 #[.agg cs.toArray] w fun e w' => e = .returned (.string (exTxt n x)) ∧ Below w.heap.size w w'

set_option maxRecDepth 100000 in
set_option maxHeartbeats 4000000 in
theorem listShown_of (n : Nat) (hn : n ≤ 9) (ih : ShownAt n) (l : List Ex) (v : Value) (F : Foot) (w : World) (hall : ∀ a ∈ l, exErr n a = 0) (h8 : l.length ≤ 8) (hl : SliceOf ExR 5 72 w F v l) (hF : ∀ k, F k → k < w.heap.size) :
    Calls Tryd.prog 63 #[v] w fun e w' => e = .returned (.string (joined (l.map (exTxt n)))) ∧ Below w.heap.size w w' := by
  obtain ⟨A, c, rfl, _⟩ := hl.form
  have hsz := fun a (ha : a ∈ l) => exTxt_size n a (hall a ha)
  have hmx : exMax n ≤ 38742048900 := Nat.le_trans (exMax_mono (show n ≤ 9 by omega)) (by decide)
  have hjs : ∀ k, (joined ((l.map (exTxt n)).take k)).size ≤ 8 * (exMax n + 2) := fun k => Nat.le_trans (joined_size _ fun y hy => by obtain ⟨a, ha, rfl⟩ := List.mem_map.1 (List.mem_of_mem_take hy); exact hsz a ha) (Nat.mul_le_mul_right _ (by rw [List.length_take, List.length_map]; omega))
  have hrec := fun a (ha : a ∈ l) ds U (hU : Below w.heap.size w U) (hr : ExR U F ds a) => ih a ds F U (hall a ha) hr (foot_up hF hU)
  have HL := Lib.hid hl; have HSZ := Lib.hid hsz; have HJS := Lib.hid hjs; have HREC := Lib.hid hrec
  clear hl hsz hjs hrec
  clear hall
  go_enter Tryd.func63, Tryd.ntmps63
  go_wp2_with fail
  go_loopg [3, 4] l.length (fun gg s3 s4 wr => ∃ kk : Nat, kk ≤ l.length ∧ l.length - kk ≤ gg ∧ s4 = .int .i64 kk ∧ s3 = .string (joined ((l.map (exTxt n)).take kk)) ∧ Aside (Below w.heap.size w wr))
  case atStart => exact ⟨0, Nat.zero_le _, by omega, rfl, rfl, aside (Below.refl _ _)⟩
  case round =>
    obtain ⟨kk, hkk, hg, rfl, rfl, BW⟩ := hrel
    by_cases hlt : kk < l.length
    · have hltz : (kk : Int) < (l.length : Int) := by omega
      obtain ⟨b1, off, ds, rfl, hbF, hds, hr, hcell⟩ := (HL.out.up ExR.stays hF BW.out).at_ (k := kk) hlt
      have hx := List.getElem?_eq_getElem hlt
      have hxm := List.getElem_mem hlt
      generalize l[kk] = a at hx hxm hr
      obtain ⟨A2, c2, rfl⟩ := ExR.form hr
      have hc0 := hcell 0 _ rfl
      have hc1 := hcell 1 _ rfl
      have hc2 := hcell 2 _ rfl
      have hc3 := hcell 3 _ rfl
      have hc4 := hcell 4 _ rfl
      simp only [Nat.add_zero] at hc0
      have hmx2 : (l.map (exTxt n))[kk]? = some (exTxt n a) := by rw [List.getElem?_map, hx]; rfl
      have hsa := HSZ.out a hxm
      have hjk := HJS.out kk
      have hrc := HREC.out a hxm _ wr BW.out hr
      obtain ⟨T, hT⟩ : ∃ z, exTxt n a = z := ⟨_, rfl⟩
      rw [hT] at hrc hsa hmx2
      obtain ⟨J, hJ⟩ : ∃ z, joined ((l.map (exTxt n)).take kk) = z := ⟨_, rfl⟩
      rw [hJ] at hjk
      rw [hJ]
      by_cases h0 : kk = 0
      · subst h0
        have hJ0 : J = ⟨#[]⟩ := by rw [← hJ]; rfl
        have hend : J ++ T = joined ((l.map (exTxt n)).take (0 + 1)) := by rw [hJ0, ba_nil_app, joined_first hmx2]
        simp only [Nat.zero_mul, Nat.add_zero] at hc0 hc1 hc2 hc3 hc4
        have s1 : ¬ 9223372036854775807 < J.size + T.size := by omega
        have HRC := Lib.hid hrc; have HEND := Lib.hid hend
        clear hrc hend
        clear hx hxm hr hcell hds hmx2 hT hJ hJ0
        go_wp2_with fail
        refine HRC.out.mono ?_
        rintro e W5 ⟨rfl, hb5⟩
        have hbw := BW.out.trans (hb5.mono BW.out.size)
        have HBW := Lib.hid hbw
        clear hbw
        clear hb5
        go_wp2_with fail
        go_roundg (l.length - (0 + 1))
        case measure => omega
        case rel => exact ⟨0 + 1, by omega, by omega, by go_num, by rw [HEND.out], aside HBW.out⟩
      · have h0z : (0 : Int) < (kk : Int) := by omega
        have hend : J ++ ⟨#[44, 32]⟩ ++ T = joined ((l.map (exTxt n)).take (kk + 1)) := by rw [joined_take hmx2 (by omega), hJ]
        have s1 : ¬ 9223372036854775807 < J.size + 2 := by omega
        have s2 : ¬ 9223372036854775807 < J.size + 2 + T.size := by omega
        have HRC := Lib.hid hrc; have HEND := Lib.hid hend
        clear hrc hend
        clear hx hxm hr hcell hds hmx2 hT hJ
        go_wp2_with fail
        refine HRC.out.mono ?_
        rintro e W5 ⟨rfl, hb5⟩
        have hbw := BW.out.trans (hb5.mono BW.out.size)
        have HBW := Lib.hid hbw
        clear hbw
        clear hb5
        go_wp2_with fail
        go_roundg (l.length - (kk + 1))
        case measure => omega
        case rel => exact ⟨kk + 1, by omega, by omega, by go_num, by rw [HEND.out], aside HBW.out⟩
    · have hltz : ¬ (kk : Int) < (l.length : Int) := by omega
      obtain rfl : kk = l.length := by omega
      rw [show (l.map (exTxt n)).take l.length = l.map (exTxt n) from by rw [List.take_of_length_le (by simp)]]
      go_wp2_with fail
      go_ret
      exact ⟨rfl, BW.out⟩

set_option maxRecDepth 100000 in
set_option maxHeartbeats 8000000 in
theorem shown_succ (n : Nat) (hn : n + 1 ≤ 10) (ih : ShownAt n) : ShownAt (n + 1) := by
  intro x cs F w h hx hF
  obtain ⟨A, c, rfl⟩ := ExR.form hx
  obtain ⟨k, v, o, s, args⟩ := x
  simp only [Ex.kind, Ex.n, Ex.of_, Ex.s, Ex.args] at *
  obtain ⟨h8, hall, hc⟩ := ex_cases h
  obtain ⟨hA, ho, hs, hv, hk⟩ := ex_args rfl hx
  have hAc : args.length ≤ c ∧ c ≤ 9223372036854775807 := by
    obtain ⟨A', c', e, h1, h2, _⟩ := hA
    injection e with e1 e2 e3
    subst e3
    exact ⟨h1, by unfold maxLen at h2; omega⟩
  have hsz := fun a (ha : a ∈ args) => exTxt_size n a (hall a ha)
  have hmx : exMax n ≤ 38742048900 := Nat.le_trans (exMax_mono (show n ≤ 9 by omega)) (by decide)
  have hrec := fun a (ha : a ∈ args) ds U (hU : Below w.heap.size w U) (hr : ExR U F ds a) => ih a ds F U (hall a ha) hr (foot_up hF hU)
  have hls := fun U (hU : Below w.heap.size w U) => listShown_of n (by omega) ih args (.slice A args.length c) F U hall h8 (hA.up ExR.stays hF hU) (foot_up hF hU)
  have hjs : (joined (args.map (exTxt n))).size ≤ 8 * (exMax n + 2) := Nat.le_trans (joined_size (args.map (exTxt n)) fun y hy => by obtain ⟨a, ha, rfl⟩ := List.mem_map.1 hy; exact hsz a ha) (Nat.mul_le_mul_right _ (by rw [List.length_map]; exact h8))
  obtain ⟨E, hE⟩ : ∃ z, exTxt (n + 1) (.mk k v o s args) = z := ⟨_, rfl⟩
  rw [hE]
  clear ih hx h
  go_enter Tryd.func36, Tryd.ntmps36
  rcases hc with ⟨rfl, h0, h1, _⟩ | ⟨rfl, h1, _⟩ | ⟨rfl, h1, _⟩ | ⟨rfl, h1, h2⟩ | ⟨rfl, h1⟩ | ⟨rfl, h1⟩ | ⟨rfl, h1⟩
  · rw [ex_num] at hE
    obtain ⟨u, rfl⟩ : ∃ u : Nat, v = u := ⟨v.toNat, by omega⟩
    have hd := fun U => dec_any u u U (Nat.le_refl _) (by omega)
    rw [hE] at hd
    have HD := Lib.hid hd
    clear hd
    clear hrec hls hjs hE hA hsz hall
    go_wp2_with fail
    refine (HD.out _).mono ?_
    rintro e w2 ⟨rfl, hb2⟩
    have hbw := Below.trans (show Below w.heap.size w _ by go_grown) (hb2.mono (by simp))
    have HBW := Lib.hid hbw
    clear hbw
    clear hb2
    go_wp2_with fail
    go_ret
    exact ⟨rfl, HBW.out⟩
  · rw [ex_quote] at hE
    subst hE
    have s1 : ¬ 9223372036854775807 < 1 + s.size := by omega
    have s2 : ¬ 9223372036854775807 < 1 + s.size + 1 := by omega
    clear hrec hls hjs hA hsz hall
    go_wp2_with fail
    go_ret
    exact ⟨rfl, by go_grown⟩
  · rw [ex_param] at hE
    subst hE
    clear hrec hls hjs hA hsz hall
    go_wp2_with fail
    go_ret
    exact ⟨rfl, by go_grown⟩
  · rw [ex_call] at hE
    have hns := namedTxt_size h2 (show s.size ≤ 20 by omega)
    generalize joined (args.map (exTxt n)) = J at hE hls hjs
    have s1 : ¬ 9223372036854775807 < s.size + 1 := by omega
    have s2 : ¬ 9223372036854775807 < s.size + 1 + J.size := by omega
    have s3 : ¬ 9223372036854775807 < s.size + 1 + J.size + 1 := by omega
    clear hrec hsz hall hA
    go_upto_region 1 with fail
    have hBe := Box.made w 65 #[.int .i64 4, .int .i64 v, .string o, .string s, .slice A args.length c]
    have hbe : Below w.heap.size w (w.alloc (.cells #[.int .i64 4, .int .i64 v, .string o, .string s, .slice A args.length c] 65)) := by go_grown
    have hze : (w.alloc (.cells #[.int .i64 4, .int .i64 v, .string o, .string s, .slice A args.length c] 65)).heap.size = w.heap.size + 1 := by simp
    generalize w.alloc (.cells #[.int .i64 4, .int .i64 v, .string o, .string s, .slice A args.length c] 65) = W1 at hBe hbe hze ⊢
    have x0 := hBe.at_ 0 _ rfl
    have x2 := hBe.at_ 2 _ rfl
    have x3 := hBe.at_ 3 _ rfl
    have x4 := hBe.at_ 4 _ rfl
    have hq := hBe.lt
    have hdr : Below W1.heap.size W1 W1.drew := by go_grown
    have HS := Lib.hid (show ∀ w', Below W1.heap.size W1 w' → (w'.cell? ⟨w.heap.size, 3, none⟩ = some (.string s) ∧ w'.cell? ⟨w.heap.size, 4, none⟩ = some (.slice A args.length c)) from fun w' h => ⟨(h.cell (p := ⟨w.heap.size, 3, none⟩) hq).trans x3, (h.cell (p := ⟨w.heap.size, 4, none⟩) hq).trans x4⟩)
    have hls := fun U (hU : Below W1.heap.size W1 U) => hls U (below_step hbe hU)
    have HE := Lib.hid hE; have HLS := Lib.hid hls; have HBe := Lib.hid hbe; have HBk := Lib.hid hdr; have HQ := Lib.hid hBe
    clear hE hls hbe hdr hBe
    clear hze
    go_upto_region 14 with fail
    go_cut [3] (fun s3 wc => s3 = .string (s ++ ⟨#[40]⟩ ++ J ++ ⟨#[41]⟩) ∧ Aside (Below W1.heap.size W1 wc))
    case first =>
      go_region_held3 (fun w' => w'.cell? ⟨w.heap.size, 3, none⟩ = some (.string s) ∧ w'.cell? ⟨w.heap.size, 4, none⟩ = some (.slice A args.length c))
        (exact HS.out _ (by first | exact HBk.out | exact HBk.out.alloc HBk.out.size _ | (go_grown; done) | exact (HBk.out.alloc HBk.out.size _).alloc (HBk.out.alloc HBk.out.size _).size _))
        ((go_at_call 63; (with_reducible refine (HLS.out _ HBk.out).mono ?_); rintro e w7 ⟨rfl, hb7⟩; have hb8 := below_step HBk.out hb7; have HBk := Lib.hid hb8; clear hb7 hb8))
      all_goals
        go_wp2_with fail
        go_meet
        exact ⟨rfl, aside HBk.out⟩
    case rest =>
    obtain ⟨rfl, hb3⟩ := hcut
    obtain ⟨W3, rfl⟩ : ∃ W, W = wc := ⟨_, rfl⟩
    have hB3 := HQ.out.later hb3.out HQ.out.lt
    have hbw := HBe.out.trans (hb3.out.mono HBe.out.size)
    clear x0 x2 x3 x4 hq HS
    have x2 := hB3.at_ 2 _ rfl
    have hE := HE.out
    unfold namedTxt at hE
    have hzs : (s ++ ⟨#[40]⟩ ++ J ++ ⟨#[41]⟩ : ByteArray).size = s.size + 1 + J.size + 1 := by rw [ba_app_size, ba_app_size, ba_app_size]; rfl
    have HBW := Lib.hid hbw
    clear hbw
    clear hB3 HE HLS HBk
    by_cases hz : o.size = 0
    · rw [if_pos hz] at hE
      rw [hE] at hzs ⊢
      have he := emp_of hz
      clear hE
      go_wp2_with fail
      go_ret
      exact ⟨rfl, HBW.out⟩
    · rw [if_neg hz] at hE
      have he := emp_not hz
      have hE2 : o ++ ⟨#[46]⟩ ++ (s ++ ⟨#[40]⟩ ++ J ++ ⟨#[41]⟩) = E := by
        rw [← hE]
        refine ba_ext ?_
        simp only [ba_app, List.append_assoc]
      generalize s ++ ⟨#[40]⟩ ++ J ++ ⟨#[41]⟩ = Q at hE2 hzs ⊢
      subst hE2
      have t1 : ¬ 9223372036854775807 < o.size + 1 := by omega
      have t2 : ¬ 9223372036854775807 < o.size + 1 + Q.size := by omega
      clear hE
      go_wp2_with fail
      go_ret
      exact ⟨rfl, HBW.out⟩
  · have hl2 : args.length = 2 := h1
    have hm0 := List.getElem_mem (show 0 < args.length by omega)
    have hm1 := List.getElem_mem (show 1 < args.length by omega)
    obtain ⟨b1, o1, d1, hA1, hf1, hd1, hr1, hcell1⟩ := hA.at_ (k := 0) (by omega)
    obtain ⟨b2, o2, d2, hA2, hf2, hd2, hr2, hcell2⟩ := hA.at_ (k := 1) (by omega)
    rw [ex_sum, argAt_eq (show 0 < (args.map (exTxt n)).length by simp; omega), argAt_eq (show 1 < (args.map (exTxt n)).length by simp; omega), List.getElem_map, List.getElem_map] at hE
    have z1 := hsz _ hm0
    have z2 := hsz _ hm1
    generalize args[0] = a1 at hE z1 hr1 hm0
    generalize args[1] = a2 at hE z2 hr2 hm1
    subst hA1
    injection hA2 with e1
    injection e1 with e1 e2
    subst e1; subst e2
    obtain ⟨A3, c3, rfl⟩ := ExR.form hr1
    obtain ⟨A4, c4, rfl⟩ := ExR.form hr2
    have p0 := hcell1 0 _ rfl; have p1 := hcell1 1 _ rfl; have p2 := hcell1 2 _ rfl; have p3 := hcell1 3 _ rfl; have p4 := hcell1 4 _ rfl
    have q0 := hcell2 0 _ rfl; have q1 := hcell2 1 _ rfl; have q2 := hcell2 2 _ rfl; have q3 := hcell2 3 _ rfl; have q4 := hcell2 4 _ rfl
    simp only [Nat.zero_mul, Nat.one_mul, Nat.add_zero] at p0 p1 p2 p3 p4 q0 q1 q2 q3 q4
    have hbl : b1 < w.heap.size := hF _ hf1
    have hc1 := fun U (hU : Below w.heap.size w U) => hrec a1 hm0 _ U hU (ExR.stays.later hr1 hU hF)
    have hc2 := fun U (hU : Below w.heap.size w U) => hrec a2 hm1 _ U hU (ExR.stays.later hr2 hU hF)
    generalize exTxt n a1 = T1 at hE z1 hc1
    generalize exTxt n a2 = T2 at hE z2 hc2
    subst hE
    have s1 : ¬ 9223372036854775807 < 1 + T1.size := by omega
    have s2 : ¬ 9223372036854775807 < 1 + T1.size + 3 := by omega
    have s3 : ¬ 9223372036854775807 < 1 + T1.size + 3 + T2.size := by omega
    have s4 : ¬ 9223372036854775807 < 1 + T1.size + 3 + T2.size + 1 := by omega
    rw [hl2] at *
    clear hrec hsz hall hA hls hcell1 hcell2 hd1 hd2 hr1 hr2 hjs
    go_upto_region 1 with fail
    have hBe := Box.made w 65 #[.int .i64 5, .int .i64 v, .string o, .string s, .slice (some ⟨b1, o1, none⟩) 2 c]
    have hbe : Below w.heap.size w (w.alloc (.cells #[.int .i64 5, .int .i64 v, .string o, .string s, .slice (some ⟨b1, o1, none⟩) 2 c] 65)) := by go_grown
    have hze : (w.alloc (.cells #[.int .i64 5, .int .i64 v, .string o, .string s, .slice (some ⟨b1, o1, none⟩) 2 c] 65)).heap.size = w.heap.size + 1 := by simp
    generalize w.alloc (.cells #[.int .i64 5, .int .i64 v, .string o, .string s, .slice (some ⟨b1, o1, none⟩) 2 c] 65) = W1 at hBe hbe hze ⊢
    have x0 := hBe.at_ 0 _ rfl
    have x4 := hBe.at_ 4 _ rfl
    have hq := hBe.lt
    have hbl1 : b1 < W1.heap.size := Nat.lt_of_lt_of_le hbl hbe.size
    have hdr : Below W1.heap.size W1 W1.drew := by go_grown
    have r0 := (hbe.cell (p := ⟨b1, o1, none⟩) hbl).trans p0; have r1 := (hbe.cell (p := ⟨b1, o1 + 1, none⟩) hbl).trans p1; have r2 := (hbe.cell (p := ⟨b1, o1 + 2, none⟩) hbl).trans p2; have r3 := (hbe.cell (p := ⟨b1, o1 + 3, none⟩) hbl).trans p3; have r4 := (hbe.cell (p := ⟨b1, o1 + 4, none⟩) hbl).trans p4
    have t0 := (hbe.cell (p := ⟨b1, o1 + 5, none⟩) hbl).trans q0; have t1 := (hbe.cell (p := ⟨b1, o1 + 5 + 1, none⟩) hbl).trans q1; have t2 := (hbe.cell (p := ⟨b1, o1 + 5 + 2, none⟩) hbl).trans q2; have t3 := (hbe.cell (p := ⟨b1, o1 + 5 + 3, none⟩) hbl).trans q3; have t4 := (hbe.cell (p := ⟨b1, o1 + 5 + 4, none⟩) hbl).trans q4
    have HS := Lib.hid (show ∀ w', Below W1.heap.size W1 w' → (w'.cell? ⟨w.heap.size, 4, none⟩ = some (.slice (some ⟨b1, o1, none⟩) 2 c) ∧ w'.cell? ⟨b1, o1, none⟩ = some (.int .i64 a1.kind) ∧ w'.cell? ⟨b1, o1 + 1, none⟩ = some (.int .i64 a1.n) ∧ w'.cell? ⟨b1, o1 + 2, none⟩ = some (.string a1.of_) ∧ w'.cell? ⟨b1, o1 + 3, none⟩ = some (.string a1.s) ∧ w'.cell? ⟨b1, o1 + 4, none⟩ = some (.slice A3 a1.args.length c3) ∧ w'.cell? ⟨b1, o1 + 5, none⟩ = some (.int .i64 a2.kind) ∧ w'.cell? ⟨b1, o1 + 5 + 1, none⟩ = some (.int .i64 a2.n) ∧ w'.cell? ⟨b1, o1 + 5 + 2, none⟩ = some (.string a2.of_) ∧ w'.cell? ⟨b1, o1 + 5 + 3, none⟩ = some (.string a2.s) ∧ w'.cell? ⟨b1, o1 + 5 + 4, none⟩ = some (.slice A4 a2.args.length c4)) from fun w' h => ⟨(h.cell (p := ⟨w.heap.size, 4, none⟩) hq).trans x4, (h.cell (p := ⟨b1, o1, none⟩) hbl1).trans r0, (h.cell (p := ⟨b1, o1 + 1, none⟩) hbl1).trans r1, (h.cell (p := ⟨b1, o1 + 2, none⟩) hbl1).trans r2, (h.cell (p := ⟨b1, o1 + 3, none⟩) hbl1).trans r3, (h.cell (p := ⟨b1, o1 + 4, none⟩) hbl1).trans r4, (h.cell (p := ⟨b1, o1 + 5, none⟩) hbl1).trans t0, (h.cell (p := ⟨b1, o1 + 5 + 1, none⟩) hbl1).trans t1, (h.cell (p := ⟨b1, o1 + 5 + 2, none⟩) hbl1).trans t2, (h.cell (p := ⟨b1, o1 + 5 + 3, none⟩) hbl1).trans t3, (h.cell (p := ⟨b1, o1 + 5 + 4, none⟩) hbl1).trans t4⟩)
    have hc1 := fun U (hU : Below W1.heap.size W1 U) => hc1 U (below_step hbe hU)
    have hc2 := fun U (hU : Below W1.heap.size W1 U) => hc2 U (below_step hbe hU)
    have H1 := Lib.hid hc1; have H2 := Lib.hid hc2; have HBe := Lib.hid hbe; have HBk := Lib.hid hdr
    clear hc1 hc2 hbe hdr
    clear hze hBe p0 p1 p2 p3 p4 q0 q1 q2 q3 q4 r0 r1 r2 r3 r4 t0 t1 t2 t3 t4
    go_upto_region 9 with fail
    go_region_held3 (fun w' => w'.cell? ⟨w.heap.size, 4, none⟩ = some (.slice (some ⟨b1, o1, none⟩) 2 c) ∧ w'.cell? ⟨b1, o1, none⟩ = some (.int .i64 a1.kind) ∧ w'.cell? ⟨b1, o1 + 1, none⟩ = some (.int .i64 a1.n) ∧ w'.cell? ⟨b1, o1 + 2, none⟩ = some (.string a1.of_) ∧ w'.cell? ⟨b1, o1 + 3, none⟩ = some (.string a1.s) ∧ w'.cell? ⟨b1, o1 + 4, none⟩ = some (.slice A3 a1.args.length c3) ∧ w'.cell? ⟨b1, o1 + 5, none⟩ = some (.int .i64 a2.kind) ∧ w'.cell? ⟨b1, o1 + 5 + 1, none⟩ = some (.int .i64 a2.n) ∧ w'.cell? ⟨b1, o1 + 5 + 2, none⟩ = some (.string a2.of_) ∧ w'.cell? ⟨b1, o1 + 5 + 3, none⟩ = some (.string a2.s) ∧ w'.cell? ⟨b1, o1 + 5 + 4, none⟩ = some (.slice A4 a2.args.length c4))
      (exact HS.out _ (by first | exact HBk.out | exact HBk.out.alloc HBk.out.size _ | (go_grown; done) | exact (HBk.out.alloc HBk.out.size _).alloc (HBk.out.alloc HBk.out.size _).size _))
      (first
        | (go_at_call 36; (with_reducible refine (H1.out _ HBk.out).mono ?_); rintro e w7 ⟨rfl, hb7⟩; have hb8 := below_step HBk.out hb7; have HBk := Lib.hid hb8; clear hb7 hb8)
        | (go_at_call 36; (with_reducible refine (H2.out _ HBk.out).mono ?_); rintro e w7 ⟨rfl, hb7⟩; have hb8 := below_step HBk.out hb7; have HBk := Lib.hid hb8; clear hb7 hb8))
    all_goals
      go_wp2_with fail
      go_ret
      exact ⟨rfl, below_step HBe.out HBk.out⟩
  · rw [ex_items] at hE
    generalize joined (args.map (exTxt n)) = J at hE hls hjs
    subst hE
    have s1 : ¬ 9223372036854775807 < 1 + J.size := by omega
    have s2 : ¬ 9223372036854775807 < 1 + J.size + 1 := by omega
    have HLS := Lib.hid hls
    clear hls
    clear hrec hsz hall hA
    go_wp2_with fail
    refine (HLS.out _ (by go_grown)).mono ?_
    rintro e w2 ⟨rfl, hb2⟩
    have hbw := Below.trans (show Below w.heap.size w _ by go_grown) (hb2.mono (by simp))
    have HBW := Lib.hid hbw
    clear hbw
    clear hb2
    go_wp2_with fail
    go_ret
    exact ⟨rfl, HBW.out⟩
  · have hl2 : args.length = 2 := h1
    have hm0 := List.getElem_mem (show 0 < args.length by omega)
    have hm1 := List.getElem_mem (show 1 < args.length by omega)
    obtain ⟨b1, o1, d1, hA1, hf1, hd1, hr1, hcell1⟩ := hA.at_ (k := 0) (by omega)
    obtain ⟨b2, o2, d2, hA2, hf2, hd2, hr2, hcell2⟩ := hA.at_ (k := 1) (by omega)
    rw [ex_at, argAt_eq (show 0 < (args.map (exTxt n)).length by simp; omega), argAt_eq (show 1 < (args.map (exTxt n)).length by simp; omega), List.getElem_map, List.getElem_map] at hE
    have z1 := hsz _ hm0
    have z2 := hsz _ hm1
    generalize args[0] = a1 at hE z1 hr1 hm0
    generalize args[1] = a2 at hE z2 hr2 hm1
    subst hA1
    injection hA2 with e1
    injection e1 with e1 e2
    subst e1; subst e2
    obtain ⟨A3, c3, rfl⟩ := ExR.form hr1
    obtain ⟨A4, c4, rfl⟩ := ExR.form hr2
    have p0 := hcell1 0 _ rfl; have p1 := hcell1 1 _ rfl; have p2 := hcell1 2 _ rfl; have p3 := hcell1 3 _ rfl; have p4 := hcell1 4 _ rfl
    have q0 := hcell2 0 _ rfl; have q1 := hcell2 1 _ rfl; have q2 := hcell2 2 _ rfl; have q3 := hcell2 3 _ rfl; have q4 := hcell2 4 _ rfl
    simp only [Nat.zero_mul, Nat.one_mul, Nat.add_zero] at p0 p1 p2 p3 p4 q0 q1 q2 q3 q4
    have hbl : b1 < w.heap.size := hF _ hf1
    have hc1 := fun U (hU : Below w.heap.size w U) => hrec a1 hm0 _ U hU (ExR.stays.later hr1 hU hF)
    have hc2 := fun U (hU : Below w.heap.size w U) => hrec a2 hm1 _ U hU (ExR.stays.later hr2 hU hF)
    generalize exTxt n a1 = T1 at hE z1 hc1
    generalize exTxt n a2 = T2 at hE z2 hc2
    subst hE
    have s1 : ¬ 9223372036854775807 < T1.size + 1 := by omega
    have s2 : ¬ 9223372036854775807 < T1.size + 1 + T2.size := by omega
    have s3 : ¬ 9223372036854775807 < T1.size + 1 + T2.size + 1 := by omega
    rw [hl2] at *
    clear hrec hsz hall hA hls hcell1 hcell2 hd1 hd2 hr1 hr2 hjs
    go_upto_region 1 with fail
    have hBe := Box.made w 65 #[.int .i64 7, .int .i64 v, .string o, .string s, .slice (some ⟨b1, o1, none⟩) 2 c]
    have hbe : Below w.heap.size w (w.alloc (.cells #[.int .i64 7, .int .i64 v, .string o, .string s, .slice (some ⟨b1, o1, none⟩) 2 c] 65)) := by go_grown
    have hze : (w.alloc (.cells #[.int .i64 7, .int .i64 v, .string o, .string s, .slice (some ⟨b1, o1, none⟩) 2 c] 65)).heap.size = w.heap.size + 1 := by simp
    generalize w.alloc (.cells #[.int .i64 7, .int .i64 v, .string o, .string s, .slice (some ⟨b1, o1, none⟩) 2 c] 65) = W1 at hBe hbe hze ⊢
    have x0 := hBe.at_ 0 _ rfl
    have x4 := hBe.at_ 4 _ rfl
    have hq := hBe.lt
    have hbl1 : b1 < W1.heap.size := Nat.lt_of_lt_of_le hbl hbe.size
    have hdr : Below W1.heap.size W1 W1.drew := by go_grown
    have r0 := (hbe.cell (p := ⟨b1, o1, none⟩) hbl).trans p0; have r1 := (hbe.cell (p := ⟨b1, o1 + 1, none⟩) hbl).trans p1; have r2 := (hbe.cell (p := ⟨b1, o1 + 2, none⟩) hbl).trans p2; have r3 := (hbe.cell (p := ⟨b1, o1 + 3, none⟩) hbl).trans p3; have r4 := (hbe.cell (p := ⟨b1, o1 + 4, none⟩) hbl).trans p4
    have t0 := (hbe.cell (p := ⟨b1, o1 + 5, none⟩) hbl).trans q0; have t1 := (hbe.cell (p := ⟨b1, o1 + 5 + 1, none⟩) hbl).trans q1; have t2 := (hbe.cell (p := ⟨b1, o1 + 5 + 2, none⟩) hbl).trans q2; have t3 := (hbe.cell (p := ⟨b1, o1 + 5 + 3, none⟩) hbl).trans q3; have t4 := (hbe.cell (p := ⟨b1, o1 + 5 + 4, none⟩) hbl).trans q4
    have HS := Lib.hid (show ∀ w', Below W1.heap.size W1 w' → (w'.cell? ⟨w.heap.size, 4, none⟩ = some (.slice (some ⟨b1, o1, none⟩) 2 c) ∧ w'.cell? ⟨b1, o1, none⟩ = some (.int .i64 a1.kind) ∧ w'.cell? ⟨b1, o1 + 1, none⟩ = some (.int .i64 a1.n) ∧ w'.cell? ⟨b1, o1 + 2, none⟩ = some (.string a1.of_) ∧ w'.cell? ⟨b1, o1 + 3, none⟩ = some (.string a1.s) ∧ w'.cell? ⟨b1, o1 + 4, none⟩ = some (.slice A3 a1.args.length c3) ∧ w'.cell? ⟨b1, o1 + 5, none⟩ = some (.int .i64 a2.kind) ∧ w'.cell? ⟨b1, o1 + 5 + 1, none⟩ = some (.int .i64 a2.n) ∧ w'.cell? ⟨b1, o1 + 5 + 2, none⟩ = some (.string a2.of_) ∧ w'.cell? ⟨b1, o1 + 5 + 3, none⟩ = some (.string a2.s) ∧ w'.cell? ⟨b1, o1 + 5 + 4, none⟩ = some (.slice A4 a2.args.length c4)) from fun w' h => ⟨(h.cell (p := ⟨w.heap.size, 4, none⟩) hq).trans x4, (h.cell (p := ⟨b1, o1, none⟩) hbl1).trans r0, (h.cell (p := ⟨b1, o1 + 1, none⟩) hbl1).trans r1, (h.cell (p := ⟨b1, o1 + 2, none⟩) hbl1).trans r2, (h.cell (p := ⟨b1, o1 + 3, none⟩) hbl1).trans r3, (h.cell (p := ⟨b1, o1 + 4, none⟩) hbl1).trans r4, (h.cell (p := ⟨b1, o1 + 5, none⟩) hbl1).trans t0, (h.cell (p := ⟨b1, o1 + 5 + 1, none⟩) hbl1).trans t1, (h.cell (p := ⟨b1, o1 + 5 + 2, none⟩) hbl1).trans t2, (h.cell (p := ⟨b1, o1 + 5 + 3, none⟩) hbl1).trans t3, (h.cell (p := ⟨b1, o1 + 5 + 4, none⟩) hbl1).trans t4⟩)
    have hc1 := fun U (hU : Below W1.heap.size W1 U) => hc1 U (below_step hbe hU)
    have hc2 := fun U (hU : Below W1.heap.size W1 U) => hc2 U (below_step hbe hU)
    have H1 := Lib.hid hc1; have H2 := Lib.hid hc2; have HBe := Lib.hid hbe; have HBk := Lib.hid hdr
    clear hc1 hc2 hbe hdr
    clear hze hBe p0 p1 p2 p3 p4 q0 q1 q2 q3 q4 r0 r1 r2 r3 r4 t0 t1 t2 t3 t4
    go_upto_region 13 with fail
    go_region_held3 (fun w' => w'.cell? ⟨w.heap.size, 4, none⟩ = some (.slice (some ⟨b1, o1, none⟩) 2 c) ∧ w'.cell? ⟨b1, o1, none⟩ = some (.int .i64 a1.kind) ∧ w'.cell? ⟨b1, o1 + 1, none⟩ = some (.int .i64 a1.n) ∧ w'.cell? ⟨b1, o1 + 2, none⟩ = some (.string a1.of_) ∧ w'.cell? ⟨b1, o1 + 3, none⟩ = some (.string a1.s) ∧ w'.cell? ⟨b1, o1 + 4, none⟩ = some (.slice A3 a1.args.length c3) ∧ w'.cell? ⟨b1, o1 + 5, none⟩ = some (.int .i64 a2.kind) ∧ w'.cell? ⟨b1, o1 + 5 + 1, none⟩ = some (.int .i64 a2.n) ∧ w'.cell? ⟨b1, o1 + 5 + 2, none⟩ = some (.string a2.of_) ∧ w'.cell? ⟨b1, o1 + 5 + 3, none⟩ = some (.string a2.s) ∧ w'.cell? ⟨b1, o1 + 5 + 4, none⟩ = some (.slice A4 a2.args.length c4))
      (exact HS.out _ (by first | exact HBk.out | exact HBk.out.alloc HBk.out.size _ | (go_grown; done) | exact (HBk.out.alloc HBk.out.size _).alloc (HBk.out.alloc HBk.out.size _).size _))
      (first
        | (go_at_call 36; (with_reducible refine (H1.out _ HBk.out).mono ?_); rintro e w7 ⟨rfl, hb7⟩; have hb8 := below_step HBk.out hb7; have HBk := Lib.hid hb8; clear hb7 hb8)
        | (go_at_call 36; (with_reducible refine (H2.out _ HBk.out).mono ?_); rintro e w7 ⟨rfl, hb7⟩; have hb8 := below_step HBk.out hb7; have HBk := Lib.hid hb8; clear hb7 hb8))
    all_goals
      go_wp2_with fail
      go_ret
      exact ⟨rfl, below_step HBe.out HBk.out⟩

theorem exprShown_any : ∀ n : Nat, n ≤ 10 → ShownAt n
  | 0, _ => fun _ _ _ _ h => by cases h
  | n + 1, h => shown_succ n h (exprShown_any n (by omega))

end Go.Proofs.YtoejhgbndehaiaaDoor
