/- The law MatchesPut: its walk. -/
import Derived.Test.YtoejhgbndehaiaaDoorMatchPlain
import Derived.Test.YtoejhgbndehaiaaDoorRaw
import Derived.Handy
namespace Go.Proofs.YtoejhgbndehaiaaDoor
open Go.ChangeShapes Go.WideShapes Go.ChangeAt Go.RowKit

theorem sameBA_eq {a b : ByteArray} (h : sameBA a b = true) : a = b := data_inj (of_decide_eq_true h)
theorem two_strs {W : World} {n : Nat} {t : TypeId} {a b : ByteArray} (h : Box W n t #[.string a, .string b]) (ha : okS a) (hb : okS b) : SliceOf StrR 1 16 W (old W.heap.size) (.slice (some ⟨n, 0, none⟩) 2 2) [a, b] :=
  ⟨some ⟨n, 0, none⟩, 2, rfl, Nat.le_refl 2, (by decide), (show 2 * 16 ≤ 140737488355328 by decide), (show 2 ≤ 140737488355328 by decide), fun _ => ⟨n, 0, rfl, h.lt, fun i x hx => by
    match i, hx with
    | 0, hx =>
      obtain rfl : a = x := by simpa using hx
      exact ⟨[.string a], rfl, ⟨rfl, ha⟩, fun j u hj => by
        match j, hj with
        | 0, hj => obtain rfl : Value.string a = u := by simpa using hj
                   exact h.at_ 0 _ rfl
        | j + 1, hj => simp at hj⟩
    | 1, hx =>
      obtain rfl : b = x := by simpa using hx
      exact ⟨[.string b], rfl, ⟨rfl, hb⟩, fun j u hj => by
        match j, hj with
        | 0, hj => obtain rfl : Value.string b = u := by simpa using hj
                   exact h.at_ 1 _ rfl
        | j + 1, hj => simp at hj⟩
    | i + 2, hx => simp at hx⟩⟩

set_option maxRecDepth 100000 in
set_option maxHeartbeats 4000000 in
theorem matchesPut_calls (cs : List Value) (a : Raw) (ds : List Value) (b : Raw) (m : Int) (W : World) (ha : RawR W (old W.heap.size) cs a) (hb : RawR W (old W.heap.size) ds b) (hm : W.cell? ⟨0, 0, none⟩ = some (.int .i64 m)) :
    Calls Tryd.prog 5 #[.agg cs.toArray, .agg ds.toArray] W fun e w' => e = .returned (.bool true) ∧ Below W.heap.size W w' := by
  obtain ⟨rfl, _, ia1, ia2, _⟩ := ha
  obtain ⟨rfl, _, ib1, ib2, _⟩ := hb
  have hk1 := fun U => kindOf_any a ia1 ia2 U
  have hk2 := fun U => kindOf_any b ib1 ib2 U
  have hmp := mp_at (pickN_lt a.a (show 0 < 4 by decide)) (pickN_lt a.b (show 0 < 3 by decide)) (pickN_lt b.a (show 0 < 4 by decide)) (pickN_lt b.b (show 0 < 3 by decide))
  have hs1 := (kindK_size (pickN a.a 4) (pickN a.b 3)).1
  have hs2 := (kindK_size (pickN b.a 4) (pickN b.b 3)).1
  have hl1 := pickN_lt a.a (show 0 < 4 by decide)
  have hl2 := pickN_lt b.a (show 0 < 4 by decide)
  generalize kindK (pickN a.a 4) (pickN a.b 3) = P at hk1 hmp hs1
  generalize kindK (pickN b.a 4) (pickN b.b 3) = Q at hk2 hmp hs2
  have hP : P.size ≤ 10 := by omega
  have hQ : Q.size ≤ 10 := by omega
  clear hs1 hs2 hl1 hl2
  have hm1 := fun U => match_any P Q ⟨#[]⟩ U (by omega) (by omega) (Nat.zero_le _)
  have hop := fun U => kindOpen_any P U
  have hxs := matchR_size (p := P) (i := Q) (b := ⟨#[]⟩) (n := 10) hQ (Nat.zero_le _)
  have hmU := fun U (hU : Below W.heap.size W U) => (hU.cell (World.block_lt_of_cell? W _ hm)).trans hm
  have hput := fun (X : ByteArray) (hX : X.size ≤ 10) U (hU : Below W.heap.size W U) => put_any P X m U (by omega) (by omega) (hmU U hU)
  have hm2 := fun (X : ByteArray) (hX : X.size ≤ 10) U => match_any P Q X U (by omega) (by omega) (by omega)
  have hls : (listOf P).size ≤ 12 := by
    unfold listOf
    rw [ba_app_size, ba_app_size]
    show 1 + P.size + 1 ≤ 12
    omega
  have hall := fun U (hU : Below W.heap.size W U) n1 n2 t1 t2 (h1 : Box U n1 t1 #[.string P, .string P]) (h2 : Box U n2 t2 #[.string Q, .string Q]) =>
    all_any [P, P] [Q, Q] (listOf P) _ _ _ _ m U old_lt old_lt (two_strs h1 (by unfold okS; omega) (by unfold okS; omega)) (two_strs h2 (by unfold okS; omega) (by unfold okS; omega)) (by omega) (hmU U hU)
  obtain ⟨R, hR⟩ : ∃ z, matchR P Q ⟨#[]⟩ = z := ⟨_, rfl⟩
  unfold mpB at hmp
  rw [hR] at hmp hm1 hxs
  obtain ⟨X, C⟩ := R
  dsimp only at hmp hm1 hxs
  have hput := hput X hxs
  have hm2 := hm2 X hxs
  clear hR hmU hm
  have HK1 := Lib.hid hk1; have HK2 := Lib.hid hk2; have HM1 := Lib.hid hm1; have HOP := Lib.hid hop; have HPUT := Lib.hid hput; have HM2 := Lib.hid hm2; have HALL := Lib.hid hall; have HMP := Lib.hid hmp
  clear hk1 hk2 hm1 hop hput hm2 hall hmp
  clear hls
  go_enter Tryd.func5, Tryd.ntmps5
  go_upto_region 1 with fail
  have hBr1 := ((Box.made W 30 #[.int .i64 a.kind, .int .i64 a.a, .int .i64 a.b, .int .i64 a.c]).alloc (.cells #[.int .i64 b.kind, .int .i64 b.a, .int .i64 b.b, .int .i64 b.c] 30))
  have hBr2 := (Box.made (W.alloc (.cells #[.int .i64 a.kind, .int .i64 a.a, .int .i64 a.b, .int .i64 a.c] 30)) 30 #[.int .i64 b.kind, .int .i64 b.a, .int .i64 b.b, .int .i64 b.c])
  rw [show (W.alloc (.cells #[.int .i64 a.kind, .int .i64 a.a, .int .i64 a.b, .int .i64 a.c] 30)).heap.size = W.heap.size + 1 by simp only [World.size_alloc]] at hBr2
  have hbr : Below W.heap.size W ((W.alloc (.cells #[.int .i64 a.kind, .int .i64 a.a, .int .i64 a.b, .int .i64 a.c] 30)).alloc (.cells #[.int .i64 b.kind, .int .i64 b.a, .int .i64 b.b, .int .i64 b.c] 30)) := by go_grown
  have hzr : ((W.alloc (.cells #[.int .i64 a.kind, .int .i64 a.a, .int .i64 a.b, .int .i64 a.c] 30)).alloc (.cells #[.int .i64 b.kind, .int .i64 b.a, .int .i64 b.b, .int .i64 b.c] 30)).heap.size = W.heap.size + 1 + 1 := by simp only [World.size_alloc]
  generalize (W.alloc (.cells #[.int .i64 a.kind, .int .i64 a.a, .int .i64 a.b, .int .i64 a.c] 30)).alloc (.cells #[.int .i64 b.kind, .int .i64 b.a, .int .i64 b.b, .int .i64 b.c] 30) = W1 at hBr1 hBr2 hbr hzr ⊢
  have x0 := hBr1.at_ 0 _ rfl
  have x1 := hBr1.at_ 1 _ rfl
  have x2 := hBr1.at_ 2 _ rfl
  have x3 := hBr1.at_ 3 _ rfl
  have HB1 := Lib.hid hBr1; have HB2 := Lib.hid hBr2; have HB := Lib.hid hbr
  clear hBr1 hBr2 hbr
  clear hzr
  go_wp2_with fail
  refine (HK1.out _).mono ?_
  rintro e W2 ⟨rfl, hb2⟩
  have hB2 := HB2.out.later hb2 HB2.out.lt
  have hbw := HB.out.trans (hb2.mono HB.out.size)
  clear x0 x1 x2 x3
  have x0 := hB2.at_ 0 _ rfl
  have x1 := hB2.at_ 1 _ rfl
  have x2 := hB2.at_ 2 _ rfl
  have x3 := hB2.at_ 3 _ rfl
  have HBW := Lib.hid hbw
  clear hbw
  clear hb2 hB2
  go_wp2_with fail
  refine (HK2.out _).mono ?_
  rintro e W3 ⟨rfl, hb3⟩
  have hbw := HBW.out.trans (hb3.mono HBW.out.size)
  clear x0 x1 x2 x3
  have HBW3 := Lib.hid hbw
  clear hbw
  clear hb3
  go_wp2_with fail
  refine (HM1.out _).mono ?_
  rintro e W4 ⟨rfl, hb4⟩
  have hbw := HBW3.out.trans (hb4.mono HBW3.out.size)
  have HBW4 := Lib.hid hbw
  clear hbw
  clear hb4
  have hmp := HMP.out
  by_cases hC : C = 0
  · subst hC
    rw [if_neg (by simp)] at hmp
    cases ho : openB P with
    | false =>
      rw [if_pos ho] at hmp
      have hop := HOP.out
      rw [ho] at hop
      have HOP2 := Lib.hid hop
      clear hop
      simp only [Bool.and_eq_true] at hmp
      obtain rfl := sameBA_eq hmp.1
      obtain rfl := sameBA_eq hmp.2
      clear hmp
      go_wp2_with fail
      refine (HOP2.out _).mono ?_
      rintro e w' ⟨rfl, rfl⟩
      go_wp2_with fail
      go_ret
      exact ⟨ret_bool (by simp), HBW4.out⟩
    | true =>
      rw [if_neg (by simp [ho])] at hmp
      have hop := HOP.out
      rw [ho] at hop
      simp only [Bool.and_eq_true, decide_eq_true_eq] at hmp
      obtain ⟨e1, e2, e3, e4, e5, e6⟩ := hmp
      have hput := HPUT.out
      rw [e1, sameBA_eq e2] at hput
      have hm2 := HM2.out
      rw [e3, sameBA_eq e4] at hm2
      have hall := HALL.out
      rw [e5, sameBA_eq e6] at hall
      have HOP2 := Lib.hid hop; have HPUT2 := Lib.hid hput; have HM22 := Lib.hid hm2; have HALL2 := Lib.hid hall
      clear hop hput hm2 hall
      clear e1 e2 e3 e4 e5 e6
      go_wp2_with fail
      refine (HOP2.out _).mono ?_
      rintro e w' ⟨rfl, rfl⟩
      go_wp2_with fail
      refine (HPUT2.out _ HBW4.out).mono ?_
      rintro e W5 ⟨rfl, hb5⟩
      have hbw := HBW4.out.trans (hb5.mono HBW4.out.size)
      have HBW5 := Lib.hid hbw
      clear hbw
      clear hb5
      go_wp2_with fail
      refine (HM22.out _).mono ?_
      rintro e W6 ⟨rfl, hb6⟩
      have hbw := HBW5.out.trans (hb6.mono HBW5.out.size)
      have HBW6 := Lib.hid hbw
      clear hbw
      clear hb6
      go_wp2_with fail
      have hBs1 := ((Box.made W6 9 #[.string P, .string P]).alloc (.cells #[.string Q, .string Q] 9))
      have hBs2 := (Box.made (W6.alloc (.cells #[.string P, .string P] 9)) 9 #[.string Q, .string Q])
      rw [show (W6.alloc (.cells #[.string P, .string P] 9)).heap.size = W6.heap.size + 1 by simp only [World.size_alloc]] at hBs2
      have hbs : Below W6.heap.size W6 ((W6.alloc (.cells #[.string P, .string P] 9)).alloc (.cells #[.string Q, .string Q] 9)) := by go_grown
      have hzs : ((W6.alloc (.cells #[.string P, .string P] 9)).alloc (.cells #[.string Q, .string Q] 9)).heap.size = W6.heap.size + 1 + 1 := by simp only [World.size_alloc]
      generalize (W6.alloc (.cells #[.string P, .string P] 9)).alloc (.cells #[.string Q, .string Q] 9) = W7 at hBs1 hBs2 hbs hzs ⊢
      have hbw := HBW6.out.trans (hbs.mono HBW6.out.size)
      refine (HALL2.out W7 hbw _ _ _ _ hBs1 hBs2).mono ?_
      rintro e W8 ⟨rfl, hb8⟩
      have hbw8 := hbw.trans (hb8.mono hbw.size)
      have HBW8 := Lib.hid hbw8
      clear hbw8
      clear hb8 hbw hBs1 hBs2 hbs hzs
      go_wp2_with fail
      go_ret
      exact ⟨ret_bool (by simp [listOf]), HBW8.out⟩
  · have hCb : (C == 0) = false := by simp [hC]
    rw [if_pos hC] at hmp
    simp only [Bool.and_eq_true, decide_eq_true_eq, Bool.not_eq_true'] at hmp
    obtain ⟨rfl, hne⟩ := hmp
    have hne2 : (P.toList == Q.toList) = false := by
      rw [beq_eq_false_iff_ne, ByteArray.toList_eq, ByteArray.toList_eq]
      exact of_decide_eq_false hne
    clear hne
    go_wp2_with fail
    go_ret
    exact ⟨ret_bool (by simp), HBW4.out⟩

end Go.Proofs.YtoejhgbndehaiaaDoor
