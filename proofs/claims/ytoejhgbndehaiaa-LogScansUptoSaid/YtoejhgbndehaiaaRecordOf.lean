/- The reference's reading of a record: RecordOf. -/
import Derived.Test.YtoejhgbndehaiaaEarFace
import Derived.Test.YtoejhgbndehaiaaDecode
namespace Go.Proofs.Ytoejhgbndehaiaa
open Go.RowKit Go.Shelf

theorem ImportR.pf {n m : Nat} {w : World} {cs : List Value} {x : Import} (h : ImportR w (fresh n m) cs x) {p : Addr} (hp : p.block < n) (u : Value) : ImportR (w.setCell p u) (fresh n m) cs x := ImportR.stays.put h hp u
theorem Hear.face {b : Nat} {w W : World} {s : ByteArray} {i : Nat} {e : Int} (h : Hear b w W s i e) (hs : s.size ≤ 60000) : Calls Try.prog 39 #[.pointer (some ⟨b, 0, none⟩)] W fun en w' =>
    ∃ (x : Face) (A1 : Option Addr) (n1 c1 : Nat) (A2 : Option Addr) (n2 c2 : Nat) (i' : Nat) (e' : Int), en = .returned (.agg #[.slice A1 n1 c1, .slice A2 n2 c2]) ∧ FaceR w' (fresh W.heap.size w'.heap.size) [.slice A1 n1 c1, .slice A2 n2 c2] x ∧
      Hear b w w' s i' e' ∧ Grew b W w' (some b) ∧ Reads rdFace (s.data.toList.drop i) e x (s.data.toList.drop i') e' :=
  (earFace_any b s i e W hs h.le h.i64 h.eye).mono fun _ _ ⟨x, A1, n1, c1, A2, n2, c2, he, hf, i', e', hB, hg, hl, hi, hR⟩ => ⟨x, A1, n1, c1, A2, n2, c2, i', e', he, hf, ⟨hB, h.grew.trans_ hg, hl, hi⟩, hg, hR⟩

/-- Where RecordOf stands: blocks w.heap.size (what it tells), + 1 (the reader), + 2 (the record). -/
structure Reco (w W : World) (s : ByteArray) (i : Nat) (e : Int) (cs : Array Value) : Prop where
  eye : Ear W (w.heap.size + 1) s i e
  res : Box W w.heap.size 33 #[.string ⟨#[]⟩, .string ⟨#[]⟩, .slice none 0 0, .slice none 0 0, .slice none 0 0, .slice none 0 0]
  rec_ : Box W (w.heap.size + 1 + 1) 33 cs
  below : Below w.heap.size w W
  le : i ≤ s.size
  i64 : I64 e
section
variable {w W W' : World} {s : ByteArray} {i i' : Nat} {e e' : Int} {cs : Array Value}
theorem Reco.low (h : Reco w W s i e cs) : w.heap.size + 1 + 1 < W.heap.size := h.rec_.lt
theorem Reco.hear (h : Reco w W s i e cs) : Hear (w.heap.size + 1) W W s i e := ⟨h.eye, Grew.refl_ _ _ _ some_le, h.le, h.i64⟩
theorem Reco.next (h : Reco w W s i e cs) (k : Hear (w.heap.size + 1) W W' s i' e') : Reco w W' s i' e' cs :=
  ⟨k.eye, k.box h.res (by omega), k.box h.rec_ (by omega), h.below.trans (k.grew.below (by omega) h.below.size), k.le, k.i64⟩
theorem Reco.put (h : Reco w W s i e cs) (j : Nat) (u : Value) : Reco w (W.setCell ⟨w.heap.size + 1 + 1, j, none⟩ u) s i e (cs.setIfInBounds j u) :=
  ⟨h.eye.far (by simp) u, h.res.far (by show w.heap.size ≠ w.heap.size + 1 + 1; omega) u, h.rec_.put j u, h.below.setCell (by show w.heap.size ≤ w.heap.size + 1 + 1; omega) u, h.le, h.i64⟩
theorem Reco.grown (h : Reco w W s i e cs) {base : Nat} {row : Option Nat} (k : Grew base W W' row) (hb : w.heap.size + 1 + 1 < base) : Reco w W' s i e cs :=
  ⟨k.box h.eye (by omega), k.box h.res (by omega), k.box h.rec_ hb, h.below.trans (k.below (by omega) h.below.size), h.le, h.i64⟩
theorem Reco.err (h : Reco w W s i e cs) (hi : I64 e') : Reco w (W.setCell ⟨w.heap.size + 1, 2, none⟩ (.int .i64 e')) s i e' cs :=
  ⟨by simpa using h.eye.put 2 (.int .i64 e'), h.res.far (by show w.heap.size ≠ w.heap.size + 1; omega) _, h.rec_.far (by show w.heap.size + 1 + 1 ≠ w.heap.size + 1; omega) _, h.below.setCell (by show w.heap.size ≤ w.heap.size + 1; omega) _, h.le, hi⟩
theorem Reco.later (h : Reco w W s i e cs) (k : Below W.heap.size W W') : Reco w W' s i e cs :=
  ⟨h.eye.later k h.eye.lt, h.res.later k h.res.lt, h.rec_.later k h.rec_.lt, h.below.trans (k.mono h.below.size), h.le, h.i64⟩
end

set_option maxRecDepth 100000 in
set_option maxHeartbeats 8000000 in
theorem recordOf_any (s : ByteArray) (w : World) (hs : okS s) :
    Calls Try.prog 18 #[.string s] w fun en w' => ∃ cs : List Value, en = .returned (.tuple #[.agg cs.toArray, .int .i64 (decCode s)]) ∧ Below w.heap.size w w' ∧ RecordR w' (fresh w.heap.size w'.heap.size) cs (decRec s) := by
  by_cases hlen : s.size > 60000
  · have hltz : (s.size : Int) > 60000 := by omega
    have hltz2 : (60000 : Int) < (s.size : Int) := by omega
    have hd : decCode s = 1 ∧ decRec s = noRecord := dec_err (dec_long (by rw [Array.length_toList]; exact hlen))
    rw [hd.1, hd.2]
    clear hd
    go_enter Try.func18, Try.ntmps18
    go_wp2_with fail
    exact bodyPost_ret (v := .tuple #[.agg #[.string ⟨#[]⟩, .string ⟨#[]⟩, .slice none 0 0, .slice none 0 0, .slice none 0 0, .slice none 0 0], .int .i64 1]) (by simp [results, Try.results18, go_sem]) rfl ⟨_, rfl, by go_grown, noRecord_row⟩
  · have hltz : ¬ (s.size : Int) > 60000 := by omega
    have hltz2 : ¬ (60000 : Int) < (s.size : Int) := by omega
    have hs6 : s.size ≤ 60000 := by omega
    have hi0 : I64 0 := by unfold I64; omega
    go_enter Try.func18, Try.ntmps18
    go_upto_region 5 with fail
    have hBb1 := (((Box.made w 33 #[.string ⟨#[]⟩, .string ⟨#[]⟩, .slice none 0 0, .slice none 0 0, .slice none 0 0, .slice none 0 0]).alloc (.cells #[.string s, .int .i64 0, .int .i64 0] 90)).alloc (.cells #[.string ⟨#[]⟩, .string ⟨#[]⟩, .slice none 0 0, .slice none 0 0, .slice none 0 0, .slice none 0 0] 33))
    have hBb2 := ((Box.made (w.alloc (.cells #[.string ⟨#[]⟩, .string ⟨#[]⟩, .slice none 0 0, .slice none 0 0, .slice none 0 0, .slice none 0 0] 33)) 90 #[.string s, .int .i64 0, .int .i64 0]).alloc (.cells #[.string ⟨#[]⟩, .string ⟨#[]⟩, .slice none 0 0, .slice none 0 0, .slice none 0 0, .slice none 0 0] 33))
    rw [show (w.alloc (.cells #[.string ⟨#[]⟩, .string ⟨#[]⟩, .slice none 0 0, .slice none 0 0, .slice none 0 0, .slice none 0 0] 33)).heap.size = w.heap.size + 1 by simp only [World.size_alloc]] at hBb2
    have hBb3 := (Box.made ((w.alloc (.cells #[.string ⟨#[]⟩, .string ⟨#[]⟩, .slice none 0 0, .slice none 0 0, .slice none 0 0, .slice none 0 0] 33)).alloc (.cells #[.string s, .int .i64 0, .int .i64 0] 90)) 33 #[.string ⟨#[]⟩, .string ⟨#[]⟩, .slice none 0 0, .slice none 0 0, .slice none 0 0, .slice none 0 0])
    rw [show ((w.alloc (.cells #[.string ⟨#[]⟩, .string ⟨#[]⟩, .slice none 0 0, .slice none 0 0, .slice none 0 0, .slice none 0 0] 33)).alloc (.cells #[.string s, .int .i64 0, .int .i64 0] 90)).heap.size = w.heap.size + 1 + 1 by simp only [World.size_alloc]] at hBb3
    have hbb : Below w.heap.size w (((w.alloc (.cells #[.string ⟨#[]⟩, .string ⟨#[]⟩, .slice none 0 0, .slice none 0 0, .slice none 0 0, .slice none 0 0] 33)).alloc (.cells #[.string s, .int .i64 0, .int .i64 0] 90)).alloc (.cells #[.string ⟨#[]⟩, .string ⟨#[]⟩, .slice none 0 0, .slice none 0 0, .slice none 0 0, .slice none 0 0] 33)) := by go_grown
    have hzb : (((w.alloc (.cells #[.string ⟨#[]⟩, .string ⟨#[]⟩, .slice none 0 0, .slice none 0 0, .slice none 0 0, .slice none 0 0] 33)).alloc (.cells #[.string s, .int .i64 0, .int .i64 0] 90)).alloc (.cells #[.string ⟨#[]⟩, .string ⟨#[]⟩, .slice none 0 0, .slice none 0 0, .slice none 0 0, .slice none 0 0] 33)).heap.size = w.heap.size + 1 + 1 + 1 := by simp only [World.size_alloc]
    generalize ((w.alloc (.cells #[.string ⟨#[]⟩, .string ⟨#[]⟩, .slice none 0 0, .slice none 0 0, .slice none 0 0, .slice none 0 0] 33)).alloc (.cells #[.string s, .int .i64 0, .int .i64 0] 90)).alloc (.cells #[.string ⟨#[]⟩, .string ⟨#[]⟩, .slice none 0 0, .slice none 0 0, .slice none 0 0, .slice none 0 0] 33) = W1 at hBb1 hBb2 hBb3 hbb hzb ⊢
    have hD1 : Reco w W1 s 0 0 #[.string ⟨#[]⟩, .string ⟨#[]⟩, .slice none 0 0, .slice none 0 0, .slice none 0 0, .slice none 0 0] := ⟨hBb2, hBb1, hBb3, hbb, Nat.zero_le _, hi0⟩
    have hst := hD1.hear.str hs6
    have HST := Lib.hid hst; have HD1 := Lib.hid hD1
    clear hst hD1
    clear hBb1 hBb2 hBb3 hbb hzb
    go_wp2_with fail
    refine HST.out.mono ?_
    rintro en w2 ⟨x1, i2, e2, hx1, rfl, hH2, hg2, hr2⟩
    have hD2 := HD1.out.next hH2
    have c0 := hD2.rec_.at_ 0 _ rfl
    have f0 := hD2.rec_.free 0
    have hD3 := hD2.put 0 (.string x1)
    simp only [List.setIfInBounds_toArray, List.set_cons_zero] at hD3
    have hst := hD3.hear.str hs6
    have HST3 := Lib.hid hst; have HD3 := Lib.hid hD3; have HRD2 := Lib.hid hr2; have HN1 := Lib.hid hx1
    clear hst hD3 hr2 hx1
    clear hH2 hg2 HST hD2
    go_wp2_with fail
    refine HST3.out.mono ?_
    rintro en w4 ⟨x2, i4, e4, hx2, rfl, hH4, hg4, hr4⟩
    have hD4 := HD3.out.next hH4
    clear c0 f0
    have c1 := hD4.rec_.at_ 1 _ rfl
    have f1 := hD4.rec_.free 1
    have hD5 := hD4.put 1 (.string x2)
    simp only [List.setIfInBounds_toArray, List.set_cons_zero, List.set_cons_succ] at hD5
    have hst := hD5.hear.num hs6
    have HST5 := Lib.hid hst; have HD5 := Lib.hid hD5; have HRD4 := Lib.hid hr4; have HN2 := Lib.hid hx2
    clear hst hD5 hr4 hx2
    clear hH4 hg4 HST3 hD4
    go_wp2_with fail
    refine HST5.out.mono ?_
    rintro en w6 ⟨n, i6, e6, hn255, rfl, hH6, hg6, hr6⟩
    have hD6 := HD5.out.next hH6
    clear c1 f1
    have HD6 := Lib.hid hD6; have HRD6 := Lib.hid hr6
    clear hD6 hr6
    clear hH6 hg6 HST5
    go_upto_block 0 with fail
    go_cut [7, 8, 9] (fun s7 s8 s9 wc => ∃ (A : Option Addr) (c : Nat) (xs : List Import) (F : Foot) (i7 : Nat) (e7 : Int), xs.length ≤ 255 ∧ Aside (Owns ImportR 4 94 (w.heap.size + 1 + 1 + 1) wc F (.slice A xs.length c) xs ∧ ∀ j, F j → w.heap.size + 1 + 1 + 1 ≤ j) ∧
      Aside (Reco w wc s i7 e7 #[.string x1, .string x2, .slice A xs.length c, .slice none 0 0, .slice none 0 0, .slice none 0 0]) ∧ Aside (Reads (rdMany rdImport n) (s.data.toList.drop i6) e6 xs (s.data.toList.drop i7) e7))
    case first =>
      go_wp2_with fail
      go_loopg [7, 8, 9] n (fun gg s7 s8 s9 wr => ∃ (ii : Nat) (A : Option Addr) (k c : Nat) (xs : List Import) (F : Foot) (i7 : Nat) (e7 : Int), ii ≤ n ∧ n - ii ≤ gg ∧ s7 = .int .i64 ii ∧ Aside (k = ii ∧ xs.length = ii ∧ ∀ j, F j → w.heap.size + 1 + 1 + 1 ≤ j) ∧
        Aside (Owns ImportR 4 94 (w.heap.size + 1 + 1 + 1) wr F (.slice A k c) xs) ∧ Aside (Reco w wr s i7 e7 #[.string x1, .string x2, .slice A k c, .slice none 0 0, .slice none 0 0, .slice none 0 0]) ∧ Aside (Reads (rdMany rdImport ii) (s.data.toList.drop i6) e6 xs (s.data.toList.drop i7) e7))
      case atStart => exact ⟨0, none, 0, 0, [], none_, i6, e6, Nat.zero_le _, by omega, rfl, aside ⟨rfl, rfl, fun _ h => h.elim⟩, aside Owns.nil_, aside HD6.out, aside Reads.none_⟩
      case round =>
        obtain ⟨ii, A, k, c, xs, F, i7, e7, hii, hg, rfl, hk, hO, hD, hRd⟩ := hrel
        obtain ⟨wo, rfl⟩ : ∃ W, W = wr := ⟨_, rfl⟩
        obtain rfl : k = ii := hk.out.1
        have xok := hD.out.hear.ok
        have hlow := hD.out.low
        by_cases hlt : k < n
        · have hltz : (k : Int) < (n : Int) := by omega
          by_cases he7 : e7 = 0
          · subst he7
            have hbo : w.heap.size + 1 < wo.heap.size := by omega
            go_upto_region 12 with fail
            have hBt := Box.made wo 94 #[.string ⟨#[]⟩, .bool false, .slice none 0 0, .slice none 0 0]
            have hbt : Below wo.heap.size wo (wo.alloc (.cells #[.string ⟨#[]⟩, .bool false, .slice none 0 0, .slice none 0 0] 94)) := by go_grown
            have hzt : (wo.alloc (.cells #[.string ⟨#[]⟩, .bool false, .slice none 0 0, .slice none 0 0] 94)).heap.size = wo.heap.size + 1 := by simp
            generalize wo.alloc (.cells #[.string ⟨#[]⟩, .bool false, .slice none 0 0, .slice none 0 0] 94) = W4 at hBt hbt hzt ⊢
            have hH4 : Hear (w.heap.size + 1) wo W4 s i7 0 := ⟨hD.out.eye.later hbt hD.out.eye.lt, Grew.of_below hbt some_le, hD.out.le, hD.out.i64⟩
            have hst := hH4.str hs6
            have HST := Lib.hid hst; have HT4 := Lib.hid hBt; have HZ4 := Lib.hid hzt
            clear hst hBt hzt
            clear xok hbt hH4
            go_wp2_with fail
            refine HST.out.mono ?_
            rintro en w5 ⟨y1, i8, e8, hy1, rfl, hH5, hg5, hr5⟩
            have hT5 := hg5.box_ HT4.out (by omega)
            have t0 := hT5.at_ 0 _ rfl
            have u0 := hT5.free 0
            have hH6 := hH5.set (p := ⟨wo.heap.size, 0, none⟩) (Nat.le_refl _) hbo (.string y1)
            have hT6 : Box (w5.setCell ⟨wo.heap.size, 0, none⟩ (.string y1)) wo.heap.size 94 #[.string y1, .bool false, .slice none 0 0, .slice none 0 0] := by simpa using hT5.put 0 (.string y1)
            have hst := hH6.num hs6
            have HST6 := Lib.hid hst; have HT6 := Lib.hid hT6; have HRD5 := Lib.hid hr5; have HY1 := Lib.hid hy1
            clear hst hT6 hr5 hy1
            clear hH5 hg5 hT5 HT4 hH6 HST
            go_wp2_with fail
            refine HST6.out.mono ?_
            rintro en w7 ⟨q, i9, e9, hq, rfl, hH7, hg7, hr7⟩
            have hT7 := hg7.box_ HT6.out (by omega)
            obtain ⟨z, hz⟩ : ∃ z, decide (e9 = 0 ∧ 1 < q) = z := ⟨_, rfl⟩
            have y2 := hH7.ok
            have HH7 := Lib.hid hH7; have HT7 := Lib.hid hT7; have HRD7 := Lib.hid hr7; have HZ := Lib.hid hz
            clear hH7 hT7 hr7 hz
            clear hg7 HST6 HT6 t0 u0
            go_upto_region 14 with fail
            go_cut [54] (fun s54 wc => s54 = .bool z ∧ Aside (wc = w7))
            case first =>
              by_cases h9 : e9 = 0
              · subst h9
                by_cases hq1 : 1 < q
                · have hqz : (1 : Int) < (q : Int) := by omega
                  have hqz2 : (q : Int) > 1 := by omega
                  obtain rfl : z = true := by rw [← HZ.out]; simp [hq1]
                  go_wp2_with fail
                  go_meet
                  exact ⟨rfl, aside rfl⟩
                · have hqz : ¬ (1 : Int) < (q : Int) := by omega
                  have hqz2 : ¬ (q : Int) > 1 := by omega
                  obtain rfl : z = false := by rw [← HZ.out]; simp [hq1]
                  go_wp2_with fail
                  go_meet
                  exact ⟨rfl, aside rfl⟩
              · have hez : (e9 == 0) = false := by simp [h9]
                obtain rfl : z = false := by rw [← HZ.out]; simp [h9]
                go_wp2_with fail
                go_meet
                exact ⟨rfl, aside rfl⟩
            case rest =>
              obtain ⟨rfl, hwc⟩ := hcut
              obtain rfl := hwc.out
              have y2 := HH7.out.ok
              have y3 := HH7.out.eye.free 2
              go_upto_if 54 with (fail)
              go_cut [] (fun wc => ∃ e10 : Int, Aside (e10 = if z then 4 else e9) ∧ Aside (Hear (w.heap.size + 1) wo wc s i9 e10) ∧ Aside (Box wc wo.heap.size 94 #[.string y1, .bool false, .slice none 0 0, .slice none 0 0]))
              case first =>
                cases z with
                | true =>
                  have hb5 : Box (wc.setCell ⟨w.heap.size + 1, 2, none⟩ (.int .i64 4)) (w.heap.size + 1) 90 #[.string s, .int .i64 i9, .int .i64 4] := by simpa using HH7.out.eye.put 2 (.int .i64 4)
                  have HB5 := Lib.hid hb5
                  clear hb5
                  go_wp2_with fail
                  go_meet
                  exact ⟨4, aside rfl, aside ⟨HB5.out, HH7.out.grew.trans_ (Grew.cell_ _ _ _), HH7.out.le, ⟨by decide, by decide⟩⟩, aside (HT7.out.far (by show wo.heap.size ≠ w.heap.size + 1; omega) _)⟩
                | false =>
                  go_wp2_with fail
                  go_meet
                  exact ⟨e9, aside rfl, aside HH7.out, aside HT7.out⟩
              case rest =>
                obtain ⟨e10, he10, hH10, hT10⟩ := hcut
                obtain ⟨w10, rfl⟩ : ∃ W, W = wc := ⟨_, rfl⟩
                obtain ⟨t, ht⟩ : ∃ t, decide (q = 1) = t := ⟨_, rfl⟩
                have hnt : ((q : Int) == 1) = t := by rw [← ht]; by_cases h : q = 1 <;> simp [h]; omega
                have hrt : Reads rdThere (s.data.toList.drop i8) e8 t (s.data.toList.drop i9) e10 := by
                  have h := HRD7.out.there
                  rw [ht] at h
                  rw [he10.out, ← HZ.out]
                  simpa using h
                have hwt : wo.heap.size < w10.heap.size := hT10.out.lt
                have t1 := hT10.out.at_ 1 _ rfl
                have u1 := hT10.out.free 1
                have hH11 := hH10.out.set (p := ⟨wo.heap.size, 1, none⟩) (Nat.le_refl _) hbo (.bool t)
                have hT11 : Box (w10.setCell ⟨wo.heap.size, 1, none⟩ (.bool t)) wo.heap.size 94 #[.string y1, .bool t, .slice none 0 0, .slice none 0 0] := by simpa using hT10.out.put 1 (.bool t)
                have hfa := hH11.face hs6
                have HFA := Lib.hid hfa; have HT11 := Lib.hid hT11; have HRT := Lib.hid hrt; have HTT := Lib.hid ht
                clear hfa hT11 hrt ht
                clear y2 y3 hH11 HT7 HH7 he10
                go_wp2_with fail
                refine HFA.out.mono ?_
                rintro en w12 ⟨fa, A1, n1, c1, A2, n2, c2, i12, e12, rfl, hf12, hH12, hg12, hr12⟩
                rw [size_set] at hf12
                have hT12 := hg12.box_ HT11.out (by omega)
                have hD12 := hD.out.next hH12
                have hH13 := (hH12.set (p := ⟨wo.heap.size, 2, none⟩) (Nat.le_refl _) hbo (.slice A1 n1 c1)).set (p := ⟨wo.heap.size, 3, none⟩) (Nat.le_refl _) hbo (.slice A2 n2 c2)
                have hf13 := FaceR.pf (p := ⟨wo.heap.size, 3, none⟩) (FaceR.pf (p := ⟨wo.heap.size, 2, none⟩) hf12 hwt (.slice A1 n1 c1)) hwt (.slice A2 n2 c2)
                have hO13 := hO.out.heard ImportR.stays hH13 (by omega) hk.out.2.2
                have hD13 := hD.out.next hH13
                have hz13 := hH13.size
                simp only [size_set] at hz13
                have hz12 := hg12.size
                rw [size_set] at hz12
                clear t1 u1
                have t0 := hT12.at_ 0 _ rfl
                have t1 := hT12.at_ 1 _ rfl
                have t2 := hT12.at_ 2 _ rfl
                have t3 := hT12.at_ 3 _ rfl
                have u2 := hT12.free 2
                have u3 := hT12.free 3
                have c2' := hD12.rec_.at_ 2 _ rfl
                have g2 := hD12.rec_.free 2
                have HO13 := Lib.hid hO13; have HD13 := Lib.hid hD13; have HF13 := Lib.hid hf13; have HZ13 := Lib.hid hz13; have HZ12 := Lib.hid hz12; have HRD12 := Lib.hid hr12
                clear hO13 hD13 hf13 hz13 hz12 hr12
                clear hg12 hT12 hD12 hH12 hf12 hH13 HFA hH10 hT10
                go_wp2_with (at_builtin; go_must ((refine wpList_push ImportR.stays (.agg #[.string ⟨#[]⟩, .bool false, .slice none 0 0, .slice none 0 0]) [.string y1, .bool t, .slice A1 n1 c1, .slice A2 n2 c2] ⟨y1, t, fa⟩ rfl rfl Try.underlying26 (bytes := 72) (by kernel_rfl) HO13.out rfl rfl (by decide) (show _ = Value.slice (some ⟨_, 0, none⟩) 1 1 by simp only [size_set]; rfl) rfl (G := fresh w10.heap.size w12.heap.size) (⟨_, _, rfl, HY1.out, HF13.out⟩) (by intro u hu; simp at hu; rcases hu with rfl | rfl | rfl | rfl <;> rfl) (fun k hk => ⟨by simp only [size_set]; exact hk.2, fun e => by have h1 := hk.1; have := (hO.out.row e.symm).2; omega⟩) (by unfold maxLen; have := hk.out.2.1; omega) (by have := hk.out.2.1; omega) (by simp only [size_set]; have := HZ13.out; omega) ?_); (intro A14 c14 w14 hO14 hgr14 hloc14; have hD14 := HD13.out.grown hgr14 (Nat.lt_succ_self _); have hz14 := hgr14.size; clear t0 t1 t2 t3 u2 u3 c2' g2; have c2' := hD14.rec_.at_ 2 _ rfl; have g2 := hD14.rec_.free 2; have HO14 := Lib.hid hO14; have HD14 := Lib.hid hD14; have HZ14 := Lib.hid hz14; clear hO14 hgr14 hloc14 hD14 hz14)))
                go_roundg (n - (k + 1))
                case measure => omega
                case rel =>
                  have hD15 := HD14.out.put 2 (.slice A14 (xs.length + 1) c14)
                  simp only [List.setIfInBounds_toArray, List.set_cons_zero, List.set_cons_succ] at hD15
                  have hFl : ∀ j, (F j ∨ fresh w10.heap.size w12.heap.size j) → w.heap.size + 1 + 1 + 1 ≤ j := fun j hj => hj.elim (hk.out.2.2 j) (fun h => by have := h.1; omega)
                  exact ⟨k + 1, A14, xs.length + 1, c14, xs ++ [⟨y1, t, fa⟩], _, i12, e12, by omega, by omega, by go_num, aside ⟨by have := hk.out.2.1; omega, by have := hk.out.2.1; simp; omega, hFl⟩,
                    aside (HO14.out.set ImportR.stays (by simp) (fun j hj => by have := hFl j hj; simp; omega) _), aside hD15, aside (hRd.out.next (HRD5.out.bind (HRT.out.bind (HRD12.out.map (g := fun f => (⟨y1, t, f⟩ : Import))))))⟩
          · have hez : (e7 == 0) = false := by simp [he7]
            have hxl := hk.out.2.1
            go_wp2_with fail
            go_meet
            subst hxl
            exact ⟨A, c, xs, F, i7, e7, by omega, aside ⟨hO.out, hk.out.2.2⟩, hD, aside (hRd.out.stop he7 hii)⟩
        · have hltz : ¬ (k : Int) < (n : Int) := by omega
          obtain rfl : k = n := by omega
          have hxl := hk.out.2.1
          go_wp2_with fail
          go_meet
          subst hxl
          exact ⟨A, c, xs, F, i7, e7, by omega, aside ⟨hO.out, hk.out.2.2⟩, hD, hRd⟩
    case rest =>
      obtain ⟨A, c, xs, F, i7, e7, hxl, hO, hD, hRd⟩ := hcut
      obtain ⟨w7, rfl⟩ : ∃ W, W = wc := ⟨_, rfl⟩
      have hfa := hD.out.hear.face hs6
      have hlow := hD.out.low
      have HFA := Lib.hid hfa; clear hfa
      go_wp2_with fail
      refine HFA.out.mono ?_
      rintro en w8 ⟨fa, A1, n1, c1, A2, n2, c2, i8, e8, rfl, hf8, hH8, hg8, hr8⟩
      have hD8 := hD.out.next hH8
      have hims := (hO.out.1.read ImportR.stays hg8 (by omega) hO.out.2).slice ImportR.stays (by_ := 72) (F' := fresh (w.heap.size + 1 + 1 + 1) w8.heap.size) (fun j hj => ⟨hO.out.2 j hj, Nat.lt_of_lt_of_le (hO.out.1.foot hj).1 hg8.size⟩) (fun j h1 h2 => ⟨h1, h2⟩) (by omega) (by omega)
      have hlw : w.heap.size + 1 + 1 < w7.heap.size := hlow
      have hf9 := FaceR.pf (p := ⟨w.heap.size + 1 + 1, 4, none⟩) (FaceR.pf (p := ⟨w.heap.size + 1 + 1, 3, none⟩) hf8 hlw (.slice A1 n1 c1)) hlw (.slice A2 n2 c2)
      have him9 := (hims.put ImportR.stays (p := ⟨w.heap.size + 1 + 1, 3, none⟩) (Nat.lt_succ_self _) (.slice A1 n1 c1)).put ImportR.stays (p := ⟨w.heap.size + 1 + 1, 4, none⟩) (Nat.lt_succ_self _) (.slice A2 n2 c2)
      have hD9 := (hD8.put 3 (.slice A1 n1 c1)).put 4 (.slice A2 n2 c2)
      simp only [List.setIfInBounds_toArray, List.set_cons_zero, List.set_cons_succ] at hD9
      have hz8 := hg8.size
      have hst := hD9.hear.num hs6
      have ca3 := hD8.rec_.at_ 3 _ rfl
      have ca4 := hD8.rec_.at_ 4 _ rfl
      have f3 := hD8.rec_.free 3
      have f4 := hD8.rec_.free 4
      have HST := Lib.hid hst; have HD9 := Lib.hid hD9; have HF9 := Lib.hid hf9; have HIM9 := Lib.hid him9; have HRD8 := Lib.hid hr8; have HZ8 := Lib.hid hz8
      clear hst hD9 hf9 him9 hr8 hz8
      clear hf8 hH8 hg8 hims hD8 HFA hO hD
      go_wp2_with fail
      refine HST.out.mono ?_
      rintro en w10 ⟨m, i10, e10, hm255, rfl, hH10, hg10, hr10⟩
      have hD10 := HD9.out.next hH10
      have hz10 := hg10.size
      simp only [size_set] at hz10
      have hf10 := FaceR.rd HF9.out hg10 (by omega) (by simp only [size_set]; exact Nat.le_refl _)
      have him10 := HIM9.out.read ImportR.stays hg10 (by omega) (by simp only [size_set]; exact Nat.le_refl _)
      have HD10 := Lib.hid hD10; have HF10 := Lib.hid hf10; have HIM10 := Lib.hid him10; have HRD10 := Lib.hid hr10; have HZ10 := Lib.hid hz10
      clear hD10 hf10 him10 hr10 hz10
      clear hH10 hg10 HST HF9 HIM9 HD9 ca3 ca4 f3 f4
      go_upto_block 2 with fail
      go_cut [10, 11] (fun s10 s11 wc => ∃ (B : Option Addr) (d : Nat) (ds : List Diag) (i11 : Nat) (e11 : Int), ds.length ≤ 255 ∧ Aside (Owns DiagR 2 64 w10.heap.size wc none_ (.slice B ds.length d) ds) ∧
        Aside (Reco w wc s i11 e11 #[.string x1, .string x2, .slice A xs.length c, .slice A1 n1 c1, .slice A2 n2 c2, .slice B ds.length d]) ∧ Aside (Reads (rdMany rdDiag m) (s.data.toList.drop i10) e10 ds (s.data.toList.drop i11) e11) ∧ Aside (w10.heap.size ≤ wc.heap.size) ∧ Aside (Keeps (fresh (w.heap.size + 1 + 1 + 1) w10.heap.size) w10 wc))
      case first =>
        go_wp2_with fail
        go_loopg [10, 11] m (fun gg s10 s11 wr => ∃ (jj : Nat) (B : Option Addr) (k d : Nat) (ds : List Diag) (i11 : Nat) (e11 : Int), jj ≤ m ∧ m - jj ≤ gg ∧ s10 = .int .i64 jj ∧ Aside (k = jj ∧ ds.length = jj) ∧ Aside (Owns DiagR 2 64 w10.heap.size wr none_ (.slice B k d) ds) ∧
          Aside (Reco w wr s i11 e11 #[.string x1, .string x2, .slice A xs.length c, .slice A1 n1 c1, .slice A2 n2 c2, .slice B k d]) ∧ Aside (Reads (rdMany rdDiag jj) (s.data.toList.drop i10) e10 ds (s.data.toList.drop i11) e11) ∧ Aside (w10.heap.size ≤ wr.heap.size) ∧ Aside (Keeps (fresh (w.heap.size + 1 + 1 + 1) w10.heap.size) w10 wr))
        case atStart => exact ⟨0, none, 0, 0, [], i10, e10, Nat.zero_le _, by omega, rfl, aside ⟨rfl, rfl⟩, aside Owns.nil_, aside HD10.out, aside Reads.none_, aside (Nat.le_refl _), aside (Keeps.refl _ _)⟩
        case round =>
          obtain ⟨jj, B, k, d, ds, i11, e11, hjj, hg, rfl, hk, hO, hD, hRe, hW, hKp⟩ := hrel
          obtain ⟨wo, rfl⟩ : ∃ W, W = wr := ⟨_, rfl⟩
          obtain rfl : k = jj := hk.out.1
          have xok := hD.out.hear.ok
          have hlow2 := hD.out.low
          have hW' : w10.heap.size ≤ wo.heap.size := hW.out
          have hwl := HD10.out.low
          by_cases hlt : k < m
          · have hltz : (k : Int) < (m : Int) := by omega
            by_cases he11 : e11 = 0
            · subst he11
              have hbo : w.heap.size + 1 < wo.heap.size := by omega
              go_upto_region 25 with fail
              have hBt := Box.made wo 64 #[.string ⟨#[]⟩, .int .i64 0]
              have hbt : Below wo.heap.size wo (wo.alloc (.cells #[.string ⟨#[]⟩, .int .i64 0] 64)) := by go_grown
              have hzt : (wo.alloc (.cells #[.string ⟨#[]⟩, .int .i64 0] 64)).heap.size = wo.heap.size + 1 := by simp
              generalize wo.alloc (.cells #[.string ⟨#[]⟩, .int .i64 0] 64) = W4 at hBt hbt hzt ⊢
              have hH4 : Hear (w.heap.size + 1) wo W4 s i11 0 := ⟨hD.out.eye.later hbt hD.out.eye.lt, Grew.of_below hbt some_le, hD.out.le, hD.out.i64⟩
              have hst := hH4.str hs6
              have HST := Lib.hid hst; have HT4 := Lib.hid hBt; have HZ4 := Lib.hid hzt
              clear hst hBt hzt
              clear xok hbt hH4
              go_wp2_with fail
              refine HST.out.mono ?_
              rintro en w12 ⟨y1, i12, e12, hy1, rfl, hH5, hg5, hr5⟩
              have hT5 := hg5.box_ HT4.out (by omega)
              have t0 := hT5.at_ 0 _ rfl
              have u0 := hT5.free 0
              have hH6 := hH5.set (p := ⟨wo.heap.size, 0, none⟩) (Nat.le_refl _) hbo (.string y1)
              have hT6 : Box (w12.setCell ⟨wo.heap.size, 0, none⟩ (.string y1)) wo.heap.size 64 #[.string y1, .int .i64 0] := by simpa using hT5.put 0 (.string y1)
              have hst := hH6.num hs6
              have HST6 := Lib.hid hst; have HT6 := Lib.hid hT6; have HRD5 := Lib.hid hr5; have HY1 := Lib.hid hy1
              clear hst hT6 hr5 hy1
              clear hH5 hg5 hT5 HT4 hH6 HST
              go_wp2_with fail
              refine HST6.out.mono ?_
              rintro en w13 ⟨q, i13, e13, hq, rfl, hH7, hg7, hr7⟩
              have hT7 := hg7.box_ HT6.out (by omega)
              have hD12 := hD.out.next hH7
              have hH8 := hH7.set (p := ⟨wo.heap.size, 1, none⟩) (Nat.le_refl _) hbo (.int .i64 q)
              have hO8 := hO.out.heard DiagR.stays hH8 (by omega) (fun k hk => hk.elim)
              have hD8 := hD.out.next hH8
              have hkp := hKp.out.trans (hH8.grew.keeps (by omega) hW')
              have hz8 := hH8.size
              rw [size_set] at hz8
              clear t0 u0
              have t0 := hT7.at_ 0 _ rfl
              have t1 := hT7.at_ 1 _ rfl
              have u1 := hT7.free 1
              have c5 := hD12.rec_.at_ 5 _ rfl
              have g5 := hD12.rec_.free 5
              have HO8 := Lib.hid hO8; have HD8 := Lib.hid hD8; have HRD7 := Lib.hid hr7; have HZ8 := Lib.hid hz8; have HKP := Lib.hid hkp
              clear hO8 hD8 hr7 hz8 hkp
              clear hg7 hT7 hD12 hH7 hH8 HST6 HT6
              go_wp2_with (at_builtin; go_must ((refine wpList_push DiagR.stays (.agg #[.string ⟨#[]⟩, .int .i64 0]) [.string y1, .int .i64 q] ⟨y1, q⟩ rfl rfl Try.underlying31 (bytes := 24) (by kernel_rfl) HO8.out rfl rfl (by decide) (show _ = Value.slice (some ⟨_, 0, none⟩) 1 1 by simp only [size_set]; rfl) rfl (G := none_) (⟨rfl, HY1.out, ⟨by show (-9223372036854775808 : Int) ≤ (q : Int); omega, by show (q : Int) ≤ 9223372036854775807; omega⟩⟩) (by intro u hu; simp at hu; rcases hu with rfl | rfl <;> rfl) (fun k hk => hk.elim) (by unfold maxLen; have := hk.out.2; omega) (by have := hk.out.2; omega) (by simp only [size_set]; have := HZ8.out; omega) ?_); (intro A14 c14 w14 hO14 hgr14 hloc14; have hD14 := HD8.out.grown hgr14 (by omega); have hz14 := hgr14.size; have hkp14 := HKP.out.trans (keeps_of_heap (F := fresh (w.heap.size + 1 + 1 + 1) w10.heap.size) (w' := w14) fun k hk => hgr14.block k (by rw [size_set]; have := hk.2; have := HZ8.out; omega) (fun e => by have := hgr14.low k e.symm; have := hk.2; omega)); clear t0 t1 u1 c5 g5; have c5 := hD14.rec_.at_ 5 _ rfl; have g5 := hD14.rec_.free 5; have HO14 := Lib.hid hO14; have HD14 := Lib.hid hD14; have HZ14 := Lib.hid hz14; have HKP14 := Lib.hid hkp14; clear hO14 hgr14 hloc14 hD14 hz14 hkp14)))
              go_roundg (m - (k + 1))
              case measure => omega
              case rel =>
                have hD15 := HD14.out.put 5 (.slice A14 (ds.length + 1) c14)
                simp only [List.setIfInBounds_toArray, List.set_cons_zero, List.set_cons_succ] at hD15
                have hz14 := HZ14.out
                have hz8 := HZ8.out
                rw [size_set] at hz14
                exact ⟨k + 1, A14, ds.length + 1, c14, ds ++ [⟨y1, q⟩], i13, e13, by omega, by omega, by go_num, aside ⟨by have := hk.out.2; omega, by have := hk.out.2; simp; omega⟩,
                  aside ((HO14.out.wider DiagR.stays (F' := none_) (fun k hk => hk.elim id id) (fun k hk => hk.elim)).set DiagR.stays (by simp; omega) (fun k hk => hk.elim) _), aside hD15, aside (hRe.out.next (HRD5.out.bind (HRD7.out.map (g := fun n : Nat => (⟨y1, (n : Int)⟩ : Diag))))), aside (by rw [size_set]; omega), aside (HKP14.out.setCell (fresh_no (by simp)) _)⟩
            · have hez : (e11 == 0) = false := by simp [he11]
              have hxl := hk.out.2
              go_wp2_with fail
              go_meet
              subst hxl
              exact ⟨B, d, ds, i11, e11, by omega, hO, hD, aside (hRe.out.stop he11 hjj), hW, hKp⟩
          · have hltz : ¬ (k : Int) < (m : Int) := by omega
            obtain rfl : k = m := by omega
            have hxl := hk.out.2
            go_wp2_with fail
            go_meet
            subst hxl
            exact ⟨B, d, ds, i11, e11, by omega, hO, hD, hRe, hW, hKp⟩
      case rest =>
        obtain ⟨B, d, ds, i11, e11, hdl, hO, hD, hRe, hW, hKp⟩ := hcut
        obtain ⟨w11, rfl⟩ : ∃ W, W = wc := ⟨_, rfl⟩
        have hlow2 := hD.out.low
        have hW' : w10.heap.size ≤ w11.heap.size := hW.out
        have hz10 := HZ10.out
        have hz8 := HZ8.out
        have hle : i11 ≤ s.size := hD.out.le
        obtain ⟨R, hRec⟩ : ∃ R : Record, R = ⟨x1, x2, xs, fa, ds⟩ := ⟨_, rfl⟩
        have hrec : RecordR w11 (fresh (w.heap.size + 1 + 1 + 1) w11.heap.size) [.string x1, .string x2, .slice A xs.length c, .slice A1 n1 c1, .slice A2 n2 c2, .slice B ds.length d] R := by
          rw [hRec]
          exact ⟨_, _, _, _, rfl, HN1.out, HN2.out, (HIM10.out.stays ImportR.stays (fresh_up (Nat.le_refl _) (by omega)) (Keeps.refl _ _)).stays ImportR.stays (fresh_up (Nat.le_refl _) hW') hKp.out, FaceR.stays _ _ _ _ _ _ (FaceR.stays _ _ _ _ _ _ HF10.out (fresh_up (n' := w.heap.size + 1 + 1 + 1) (m' := w10.heap.size) (by omega) (by omega)) (Keeps.refl _ _)) (fresh_up (Nat.le_refl _) hW') hKp.out,
            hO.out.slice DiagR.stays (fun k hk => hk.elim) (fun k h1 h2 => ⟨by omega, h2⟩) (by show ds.length * 24 ≤ _; omega) (by show ds.length ≤ _; omega)⟩
        have hall : Reads rdRecord s.data.toList 0 R (s.data.toList.drop i11) e11 := by
          rw [hRec]
          exact HRD2.out.bind (HRD4.out.bind ((HRD6.out.list_ hRd.out).bind (HRD8.out.bind ((HRD10.out.list_ hRe.out).map (g := fun ds => (⟨x1, x2, xs, fa, ds⟩ : Record))))))
        have hln : ¬ 60000 < s.data.toList.length := by rw [Array.length_toList]; exact hlen
        have hdr : (s.data.toList.drop i11).length = s.size - i11 := by rw [List.length_drop, Array.length_toList]; rfl
        have e0 := hD.out.eye.at_ 2 _ rfl
        have e1 := hD.out.eye.at_ 1 _ rfl
        have ef := hD.out.eye.free 2
        have r0 := hD.out.res.at_ 0 _ rfl
        have r1 := hD.out.res.at_ 1 _ rfl
        have r2 := hD.out.res.at_ 2 _ rfl
        have r3 := hD.out.res.at_ 3 _ rfl
        have r4 := hD.out.res.at_ 4 _ rfl
        have r5 := hD.out.res.at_ 5 _ rfl
        have g0 := hD.out.res.free 0
        have g1 := hD.out.res.free 1
        have g2 := hD.out.res.free 2
        have g3 := hD.out.res.free 3
        have g4 := hD.out.res.free 4
        have g5 := hD.out.res.free 5
        have ca0 := hD.out.rec_.at_ 0 _ rfl
        have ca1 := hD.out.rec_.at_ 1 _ rfl
        have ca2 := hD.out.rec_.at_ 2 _ rfl
        have ca3 := hD.out.rec_.at_ 3 _ rfl
        have ca4 := hD.out.rec_.at_ 4 _ rfl
        have ca5 := hD.out.rec_.at_ 5 _ rfl
        have HREC := Lib.hid hrec; have HALL := Lib.hid hall; have HLN := Lib.hid hln; have HDR := Lib.hid hdr
        clear hrec hall hln hdr
        clear hRec HIM10 HF10 hO hKp hRe hRd HRD2 HRD4 HRD6 HRD8 HRD10 HD10 hW HD6
        by_cases he : e11 = 0
        · subst he
          by_cases hsi : i11 < s.size
          · have hsz : (i11 : Int) < (s.size : Int) := by omega
            have hd := dec_err (dec_more HLN.out HALL.out (by have := HDR.out; omega))
            have HDC := Lib.hid hd
            clear hd
            have HE := Lib.hid (show (w11.setCell ⟨w.heap.size + 1, 2, none⟩ (.int .i64 4)).cell? ⟨w.heap.size + 1, 2, none⟩ = some (.int .i64 4) from (hD.out.eye.put 2 (.int .i64 4)).at_ 2 _ (by simp))
            go_wp2_with fail
            go_region_held3 (fun w' => w'.cell? ⟨w.heap.size + 1, 2, none⟩ = some (.int .i64 4)) (first | (with_reducible exact HE.out) | (simp [World.cell?_setCell_far, HE.out, e0]; done)) (fail)
            all_goals
              (try go_wp2_with fail)
              exact bodyPost_ret (v := .tuple #[.agg #[.string ⟨#[]⟩, .string ⟨#[]⟩, .slice none 0 0, .slice none 0 0, .slice none 0 0, .slice none 0 0], .int .i64 4]) (by simp [results, Try.results18, go_sem, r0, r1, r2, r3, r4, r5]) rfl ⟨_, by rw [HDC.out.1], (by first | exact below_resD (below_res (hD.out.below.setCell (by simp) _)) | exact below_res (below_resD (hD.out.below.setCell (by simp) _))), by rw [HDC.out.2]; exact noRecord_row⟩
          · have hsz : ¬ (i11 : Int) < (s.size : Int) := by omega
            have hck := recordFault_any R [.string x1, .string x2, .slice A xs.length c, .slice A1 n1 c1, .slice A2 n2 c2, .slice B ds.length d] (fresh (w.heap.size + 1 + 1 + 1) w11.heap.size) w11 (fun k hk => hk.2) HREC.out
            have hd1 := fun h => dec_err (dec_fault HLN.out HALL.out (by have := HDR.out; omega) h)
            have hd2 := fun h => dec_rec (dec_ok HLN.out HALL.out (by have := HDR.out; omega) h)
            obtain ⟨C, hC⟩ : ∃ C, recErr R = C := ⟨_, rfl⟩
            rw [hC] at hck hd1 hd2
            have HCK := Lib.hid hck; have HDA := Lib.hid hd1; have HDB := Lib.hid hd2
            clear hck hd1 hd2
            clear hC
            go_wp2_with fail
            refine HCK.out.mono ?_
            rintro en w15 ⟨rfl, hb15⟩
            have hD15 := hD.out.later hb15
            have hrec := RecordR.stays _ _ _ _ _ _ HREC.out (fun _ h => h) (Keeps.of_below hb15 fun k hk => hk.2)
            have hz15 := hb15.size
            clear r0 r1 r2 r3 r4 r5 g0 g1 g2 g3 g4 g5 ca0 ca1 ca2 ca3 ca4 ca5 e0 e1 ef hb15 HCK HREC
            have e0 := hD15.eye.at_ 2 _ rfl
            have ef := hD15.eye.free 2
            have r0 := hD15.res.at_ 0 _ rfl
            have r1 := hD15.res.at_ 1 _ rfl
            have r2 := hD15.res.at_ 2 _ rfl
            have r3 := hD15.res.at_ 3 _ rfl
            have r4 := hD15.res.at_ 4 _ rfl
            have r5 := hD15.res.at_ 5 _ rfl
            have g0 := hD15.res.free 0
            have g1 := hD15.res.free 1
            have g2 := hD15.res.free 2
            have g3 := hD15.res.free 3
            have g4 := hD15.res.free 4
            have g5 := hD15.res.free 5
            have ca0 := hD15.rec_.at_ 0 _ rfl
            have ca1 := hD15.rec_.at_ 1 _ rfl
            have ca2 := hD15.rec_.at_ 2 _ rfl
            have ca3 := hD15.rec_.at_ 3 _ rfl
            have ca4 := hD15.rec_.at_ 4 _ rfl
            have ca5 := hD15.rec_.at_ 5 _ rfl
            have hbw := hD15.below.setCell (p := ⟨w.heap.size + 1, 2, none⟩) (by show w.heap.size ≤ w.heap.size + 1; omega) (.int .i64 C)
            have HE := Lib.hid (show (w15.setCell ⟨w.heap.size + 1, 2, none⟩ (.int .i64 C)).cell? ⟨w.heap.size + 1, 2, none⟩ = some (.int .i64 C) from (hD15.eye.put 2 (.int .i64 C)).at_ 2 _ (by simp))
            have HBW := Lib.hid hbw; have HREC := Lib.hid hrec; have HZ15 := Lib.hid hz15
            clear hbw hrec hz15
            clear hD15
            by_cases hC : C = 0
            · subst hC
              have hd := HDB.out rfl
              have HDC := Lib.hid hd; clear hd
              go_wp2_with fail
              have hz15 := HZ15.out
              have hlo : ∀ i, ¬ fresh (w.heap.size + 1 + 1 + 1) w11.heap.size (⟨w.heap.size, i, none⟩ : Addr).block := fun i => fresh_no (by show w.heap.size < _; omega)
              have hlo2 : ¬ fresh (w.heap.size + 1 + 1 + 1) w11.heap.size (⟨w.heap.size + 1, 2, none⟩ : Addr).block := fresh_no (by show w.heap.size + 1 < _; omega)
              exact bodyPost_ret (v := .tuple #[.agg #[.string x1, .string x2, .slice A xs.length c, .slice A1 n1 c1, .slice A2 n2 c2, .slice B ds.length d], .int .i64 0]) (by simp [results, Try.results18, go_sem, r0, r1, r2, r3, r4, r5]) rfl ⟨_, by rw [HDC.out.1], below_res HBW.out, by
                rw [HDC.out.2]
                exact RecordR.stays _ _ _ _ _ _ HREC.out (fresh_up (by omega) (by simp only [size_set]; exact hz15)) ((((((((Keeps.refl _ _).setCell hlo2 _).setCell (hlo _) _).setCell (hlo _) _).setCell (hlo _) _).setCell (hlo _) _).setCell (hlo _) _).setCell (hlo _) _)⟩
            · have hez : (C == 0) = false := by simp [hC]
              have hez2 : (C != 0) = true := by simp [hC]
              have hd := HDA.out hC
              have HDC := Lib.hid hd; clear hd
              go_wp2_with fail
              go_region_held3 (fun w' => w'.cell? ⟨w.heap.size + 1, 2, none⟩ = some (.int .i64 C)) (first | (with_reducible exact HE.out) | (simp [World.cell?_setCell_far, HE.out, e0]; done)) (fail)
              all_goals
                (try go_wp2_with fail)
                exact bodyPost_ret (v := .tuple #[.agg #[.string ⟨#[]⟩, .string ⟨#[]⟩, .slice none 0 0, .slice none 0 0, .slice none 0 0, .slice none 0 0], .int .i64 C]) (by simp [results, Try.results18, go_sem, r0, r1, r2, r3, r4, r5]) rfl ⟨_, by rw [HDC.out.1], (by first | exact below_resD (below_res HBW.out) | exact below_res (below_resD HBW.out)), by rw [HDC.out.2]; exact noRecord_row⟩
        · have hez : (e11 == 0) = false := by simp [he]
          have hez2 : (e11 != 0) = true := by simp [he]
          have hd := dec_err (dec_bad HLN.out HALL.out he)
          have HDC := Lib.hid hd
          clear hd
          have HE := Lib.hid e0
          go_wp2_with fail
          go_region_held3 (fun w' => w'.cell? ⟨w.heap.size + 1, 2, none⟩ = some (.int .i64 e11)) (first | (with_reducible exact HE.out) | (simp [World.cell?_setCell_far, HE.out, e0]; done)) (fail)
          all_goals
            (try go_wp2_with fail)
            exact bodyPost_ret (v := .tuple #[.agg #[.string ⟨#[]⟩, .string ⟨#[]⟩, .slice none 0 0, .slice none 0 0, .slice none 0 0, .slice none 0 0], .int .i64 e11]) (by simp [results, Try.results18, go_sem, r0, r1, r2, r3, r4, r5]) rfl ⟨_, by rw [HDC.out.1], (by first | exact below_resD (below_res hD.out.below) | exact below_res (below_resD hD.out.below)), by rw [HDC.out.2]; exact noRecord_row⟩

end Go.Proofs.Ytoejhgbndehaiaa
