/- The reference's reader: (*ear).face. -/
import Derived.Test.YtoejhgbndehaiaaHear
import Derived.Test.YtoejhgbndehaiaaBase
import Derived.Test.YtoejhgbndehaiaaClone
import Derived.Test.YtoejhgbndehaiaaReadI
import Derived.Deep.CutBlock
import Derived.Deep.RegionLaw
namespace Go.Proofs.Ytoejhgbndehaiaa
open Go.RowKit Go.Shelf

set_option maxRecDepth 100000 in
set_option maxHeartbeats 8000000 in
theorem earFace_any (b : Nat) (s : ByteArray) (i : Nat) (e : Int) (w : World) (hs : s.size ≤ 60000) (hi : i ≤ s.size) (hei : I64 e) (hB : Ear w b s i e) :
    Calls Try.prog 39 #[.pointer (some ⟨b, 0, none⟩)] w fun en w' => ∃ (x : Face) (A1 : Option Addr) (n1 c1 : Nat) (A2 : Option Addr) (n2 c2 : Nat), en = .returned (.agg #[.slice A1 n1 c1, .slice A2 n2 c2]) ∧
      FaceR w' (fresh w.heap.size w'.heap.size) [.slice A1 n1 c1, .slice A2 n2 c2] x ∧ EarTo b rdFace s i e x w w' := by
  have hbl := hB.lt
  have hbne : w.heap.size ≠ b := by omega
  have hbne1 : w.heap.size + 1 ≠ b := by omega
  have HH0 := Lib.hid (show Hear b w w s i e from ⟨hB, Grew.refl_ _ _ _ some_le, hi, hei⟩)
  clear hB
  go_enter Try.func39, Try.ntmps39
  go_upto_region 2 with fail
  have hBb1 := ((Box.made w 30 #[.slice none 0 0, .slice none 0 0]).alloc (.cells #[.slice none 0 0, .slice none 0 0] 30))
  have hBb2 := (Box.made (w.alloc (.cells #[.slice none 0 0, .slice none 0 0] 30)) 30 #[.slice none 0 0, .slice none 0 0])
  rw [show (w.alloc (.cells #[.slice none 0 0, .slice none 0 0] 30)).heap.size = w.heap.size + 1 by simp only [World.size_alloc]] at hBb2
  have hbb : Below w.heap.size w ((w.alloc (.cells #[.slice none 0 0, .slice none 0 0] 30)).alloc (.cells #[.slice none 0 0, .slice none 0 0] 30)) := by go_grown
  have hzb : ((w.alloc (.cells #[.slice none 0 0, .slice none 0 0] 30)).alloc (.cells #[.slice none 0 0, .slice none 0 0] 30)).heap.size = w.heap.size + 1 + 1 := by simp only [World.size_alloc]
  generalize (w.alloc (.cells #[.slice none 0 0, .slice none 0 0] 30)).alloc (.cells #[.slice none 0 0, .slice none 0 0] 30) = W1 at hBb1 hBb2 hbb hzb ⊢
  have hH1 : Hear b w W1 s i e := ⟨HH0.out.eye.later hbb hbl, Grew.of_below hbb some_le, hi, hei⟩
  have hn := hH1.num hs
  have HN := Lib.hid hn; have HR1 := Lib.hid hBb1; have HF1 := Lib.hid hBb2; have HZ1 := Lib.hid hzb
  clear hn hBb1 hBb2 hzb
  clear hbb HH0 hH1
  go_wp2_with fail
  refine HN.out.mono ?_
  rintro en w2 ⟨n, i2, e2, hn255, rfl, hH2, hg2, hr2⟩
  have hR2 := hg2.box_ HR1.out hbne
  have hF2 := hg2.box_ HF1.out hbne1
  have hz2 := hg2.size
  have HH2 := Lib.hid hH2; have HR2 := Lib.hid hR2; have HF2 := Lib.hid hF2; have HZ2 := Lib.hid hz2; have HRD2 := Lib.hid hr2
  clear hH2 hR2 hF2 hz2 hr2
  clear hg2 HN HR1 HF1
  go_upto_block 0 with fail
  go_cut [5, 6] (fun s5 s6 wc => ∃ (A : Option Addr) (c : Nat) (xs : List Known) (i3 : Nat) (e3 : Int), xs.length ≤ 255 ∧ Aside (Owns KnownR 2 68 W1.heap.size wc none_ (.slice A xs.length c) xs) ∧ Aside (Hear b w wc s i3 e3) ∧ Aside (Box wc w.heap.size 30 #[.slice none 0 0, .slice none 0 0]) ∧ Aside (Box wc (w.heap.size + 1) 30 #[.slice A xs.length c, .slice none 0 0]) ∧
    Aside (Reads (rdMany rdKnown n) (s.data.toList.drop i2) e2 xs (s.data.toList.drop i3) e3) ∧ Aside (W1.heap.size ≤ wc.heap.size))
  case first =>
    go_wp2_with fail
    go_loopg [5, 6] n (fun gg s5 s6 wr => ∃ (ii : Nat) (A : Option Addr) (k c : Nat) (xs : List Known) (i3 : Nat) (e3 : Int), ii ≤ n ∧ n - ii ≤ gg ∧ s5 = .int .i64 ii ∧ Aside (k = ii ∧ xs.length = ii) ∧
      Aside (Owns KnownR 2 68 W1.heap.size wr none_ (.slice A k c) xs) ∧ Aside (Hear b w wr s i3 e3) ∧ Aside (Box wr w.heap.size 30 #[.slice none 0 0, .slice none 0 0]) ∧ Aside (Box wr (w.heap.size + 1) 30 #[.slice A k c, .slice none 0 0]) ∧
      Aside (Reads (rdMany rdKnown ii) (s.data.toList.drop i2) e2 xs (s.data.toList.drop i3) e3) ∧ Aside (W1.heap.size ≤ wr.heap.size))
    case atStart => exact ⟨0, none, 0, 0, [], i2, e2, Nat.zero_le _, by omega, rfl, aside ⟨rfl, rfl⟩, aside Owns.nil_, aside HH2.out, aside HR2.out, aside HF2.out, aside Reads.none_, aside HZ2.out⟩
    case round =>
      obtain ⟨ii, A, k, c, xs, i3, e3, hii, hg, rfl, hk, hO, hH, hR, hF, hRd, hW⟩ := hrel
      obtain ⟨wo, rfl⟩ : ∃ W, W = wr := ⟨_, rfl⟩
      obtain rfl : k = ii := hk.out.1
      have x2 := hH.out.ok
      have hzw := HZ1.out
      have hW' : W1.heap.size ≤ wo.heap.size := hW.out
      by_cases hlt : k < n
      · have hltz : (k : Int) < (n : Int) := by omega
        by_cases he3 : e3 = 0
        · subst he3
          have hHs := hH.out.start
          go_upto_region 7 with fail
          have hBt := Box.made wo 68 #[.string ⟨#[]⟩, .string ⟨#[]⟩]
          have hbt : Below wo.heap.size wo (wo.alloc (.cells #[.string ⟨#[]⟩, .string ⟨#[]⟩] 68)) := by go_grown
          have hzt : (wo.alloc (.cells #[.string ⟨#[]⟩, .string ⟨#[]⟩] 68)).heap.size = wo.heap.size + 1 := by simp
          generalize wo.alloc (.cells #[.string ⟨#[]⟩, .string ⟨#[]⟩] 68) = W4 at hBt hbt hzt ⊢
          have hH4 : Hear b wo W4 s i3 0 := ⟨hHs.eye.later hbt hHs.eye.lt, Grew.of_below hbt some_le, hHs.le, hHs.i64⟩
          have hst := hH4.str hs
          have hbo : b < wo.heap.size := hHs.eye.lt
          have HST := Lib.hid hst; have HT4 := Lib.hid hBt; have HZ4 := Lib.hid hzt
          clear hst hBt hzt
          clear x2 hHs hbt hH4
          go_wp2_with fail
          refine HST.out.mono ?_
          rintro en w5 ⟨y1, i5, e5, hy1, rfl, hH5, hg5, hr5⟩
          have hT5 := hg5.box_ HT4.out (by omega)
          have t0 := hT5.at_ 0 _ rfl
          have f0 := hT5.free 0
          have hH6 := hH5.set (p := ⟨wo.heap.size, 0, none⟩) (Nat.le_refl _) hbo (.string y1)
          have hT6 : Box (w5.setCell ⟨wo.heap.size, 0, none⟩ (.string y1)) wo.heap.size 68 #[.string y1, .string ⟨#[]⟩] := by simpa using hT5.put 0 (.string y1)
          have hst := hH6.str hs
          have HST6 := Lib.hid hst; have HT6 := Lib.hid hT6; have HRD5 := Lib.hid hr5; have HY1 := Lib.hid hy1
          clear hst hT6 hr5 hy1
          clear hH5 hg5 hT5 HT4 hH6 HST
          go_wp2_with fail
          refine HST6.out.mono ?_
          rintro en w7 ⟨y2, i7, e7, hy2, rfl, hH7, hg7, hr7⟩
          have hT7 := hg7.box_ HT6.out (by omega)
          have hH8 := hH7.set (p := ⟨wo.heap.size, 1, none⟩) (Nat.le_refl _) hbo (.string y2)
          have hO8 := hO.out.heard KnownR.stays hH8 (by omega) (fun k hk => hk.elim)
          have hF8 := hH8.box hF.out hbne1
          have hF7 := hH7.box hF.out hbne1
          have hR8 := hH8.box hR.out hbne
          clear t0 f0
          have t0 := hT7.at_ 0 _ rfl
          have t1 := hT7.at_ 1 _ rfl
          have u0 := hT7.free 0
          have u1 := hT7.free 1
          have f0 := hF7.at_ 0 _ rfl
          have g0 := hF7.free 0
          have hz8 := hH8.size
          have HH8 := Lib.hid hH8; have HO8 := Lib.hid hO8; have HF8 := Lib.hid hF8; have HR8 := Lib.hid hR8; have HRD7 := Lib.hid hr7; have HY2 := Lib.hid hy2; have HZ8 := Lib.hid hz8
          clear hH8 hO8 hF8 hR8 hr7 hy2 hz8
          clear hg7 hT7 hF7 hH7 HST6 HT6
          go_wp2_with (at_builtin; go_must ((refine wpList_push KnownR.stays (.agg #[.string ⟨#[]⟩, .string ⟨#[]⟩]) [.string y1, .string y2] ⟨y1, y2⟩ rfl rfl Try.underlying27 (bytes := 32) (by kernel_rfl) HO8.out rfl rfl (by decide) (show _ = Value.slice (some ⟨_, 0, none⟩) 1 1 by rw [size_set]; rfl) rfl (G := none_) (⟨rfl, HY1.out, HY2.out⟩) (by intro u hu; simp at hu; rcases hu with rfl | rfl <;> rfl) (fun k hk => hk.elim) (by unfold maxLen; have := hk.out.2; omega) (by have := hk.out.2; omega) (by have := HZ8.out; omega) ?_); (intro A9 c9 w9 hO9 hgr9 hloc9; have hH9 := (hH.out.trans HH8.out).then_ hbl (by omega) hgr9; have hz9 := hgr9.size; have hF9 := hgr9.box HF8.out (by omega); have hR9 := hgr9.box HR8.out (by omega); clear t0 t1 u0 u1 f0 g0; have f0 := hF9.at_ 0 _ rfl; have g0 := hF9.free 0; have HO9 := Lib.hid hO9; have HH9 := Lib.hid hH9; have HF9 := Lib.hid hF9; have HR9 := Lib.hid hR9; have HZ9 := Lib.hid hz9; clear hO9 hgr9 hloc9 hH9 hF9 hR9 hz9)))
          go_roundg (n - (k + 1))
          case measure => omega
          case rel =>
            have hw9 : W1.heap.size ≤ w9.heap.size := by have := HZ8.out; have := HZ9.out; omega
            have hFs : Box (w9.setCell ⟨w.heap.size + 1, 0, none⟩ (.slice A9 (xs.length + 1) c9)) (w.heap.size + 1) 30 #[.slice A9 (xs.length + 1) c9, .slice none 0 0] := by simpa using HF9.out.put 0 (.slice A9 (xs.length + 1) c9)
            exact ⟨k + 1, A9, xs.length + 1, c9, xs ++ [⟨y1, y2⟩], i7, e7, by omega, by omega, by go_num, aside ⟨by have := hk.out.2; omega, by have := hk.out.2; simp; omega⟩,
              aside ((HO9.out.wider KnownR.stays (F' := none_) (fun k hk => hk.elim id id) (fun k hk => hk.elim)).set KnownR.stays (by simp; omega) (fun k hk => hk.elim) _), aside (HH9.out.set (by simp) hbl _), aside (HR9.out.far (by simp) _), aside hFs,
              aside (hRd.out.next (HRD5.out.bind (HRD7.out.map (g := fun i => (⟨y1, i⟩ : Known))))), aside (by rw [size_set]; exact hw9)⟩
        · have hez : (e3 == 0) = false := by simp [he3]
          have hxl := hk.out.2
          go_wp2_with fail
          go_meet
          subst hxl
          exact ⟨A, c, xs, i3, e3, by omega, hO, hH, hR, hF, aside (hRd.out.stop he3 hii), hW⟩
      · have hltz : ¬ (k : Int) < (n : Int) := by omega
        obtain rfl : k = n := by omega
        have hxl := hk.out.2
        go_wp2_with fail
        go_meet
        subst hxl
        exact ⟨A, c, xs, i3, e3, by omega, hO, hH, hR, hF, hRd, hW⟩
  case rest =>
    obtain ⟨A, c, xs, i3, e3, hxl, hO, hH, hR, hF, hRd, hW⟩ := hcut
    obtain ⟨w10, rfl⟩ : ∃ W, W = wc := ⟨_, rfl⟩
    have hn := hH.out.num hs
    have HN := Lib.hid hn; clear hn
    go_wp2_with fail
    refine HN.out.mono ?_
    rintro en w11 ⟨m, i4, e4, hm255, rfl, hH11, hg11, hr11⟩
    have hR11 := hg11.box_ hR.out hbne
    have hF11 := hg11.box_ hF.out hbne1
    have hz11 := hg11.size
    have hTs := (hO.out.read KnownR.stays hg11 (by have := HZ1.out; omega) (fun k hk => hk.elim)).slice KnownR.stays (by_ := 32) (F' := fresh W1.heap.size w11.heap.size) (fun k hk => hk.elim) (fun k h1 h2 => ⟨h1, h2⟩) (by omega) (by omega)
    have hzw : W1.heap.size = w.heap.size + 1 + 1 := HZ1.out
    have hzw2 : W1.heap.size ≤ w10.heap.size := hW.out
    have HH11 := Lib.hid hH11; have HR11 := Lib.hid hR11; have HF11 := Lib.hid hF11; have HRD11 := Lib.hid hr11; have HTS := Lib.hid hTs
    clear hH11 hR11 hF11 hr11 hTs
    clear hg11 HN hR hF hH hO hW
    go_wp2_with fail
    go_loopg [7, 8, 9, 10] m (fun gg s7 s8 s9 s10 wr => ∃ (jj : Nat) (B : Option Addr) (k d : Nat) (fs : List Sig) (F : Foot) (i5 : Nat) (e5 : Int), jj ≤ m ∧ m - jj ≤ gg ∧ s7 = .int .i64 jj ∧ Aside (k = jj ∧ fs.length = jj ∧ ∀ k, F k → w11.heap.size ≤ k) ∧
      Aside (Owns SigR 3 74 w11.heap.size wr F (.slice B k d) fs) ∧ Aside (Hear b w wr s i5 e5) ∧ Aside (Box wr w.heap.size 30 #[.slice none 0 0, .slice none 0 0]) ∧ Aside (Box wr (w.heap.size + 1) 30 #[.slice A xs.length c, .slice B k d]) ∧
      Aside (Reads (rdMany rdSig jj) (s.data.toList.drop i4) e4 fs (s.data.toList.drop i5) e5) ∧ Aside (w11.heap.size ≤ wr.heap.size) ∧ Aside (Keeps (fresh W1.heap.size w11.heap.size) w11 wr))
    case atStart => exact ⟨0, none, 0, 0, [], none_, i4, e4, Nat.zero_le _, by omega, rfl, aside ⟨rfl, rfl, fun _ h => h.elim⟩, aside Owns.nil_, aside HH11.out, aside HR11.out, aside HF11.out, aside Reads.none_, aside (Nat.le_refl _), aside (Keeps.refl _ _)⟩
    case round =>
      obtain ⟨jj, B, k, d, fs, F, i5, e5, hjj, hg, rfl, hk, hO, hH, hR, hF, hRd2, hW, hKp⟩ := hrel
      obtain ⟨wo, rfl⟩ : ∃ W, W = wr := ⟨_, rfl⟩
      obtain rfl : k = jj := hk.out.1
      have x2 := hH.out.ok
      have hW' : w11.heap.size ≤ wo.heap.size := hW.out
      have hfin : ∀ e6, e6 = e5 → Reads (rdMany rdSig m) (s.data.toList.drop i4) e4 fs (s.data.toList.drop i5) e6 → FaceR wo (fresh W1.heap.size wo.heap.size) [.slice A xs.length c, .slice B k d] ⟨xs, fs⟩ ∧ Reads rdFace (s.data.toList.drop i) e ⟨xs, fs⟩ (s.data.toList.drop i5) e6 := fun e6 he hr =>
        ⟨⟨_, _, rfl, HTS.out.stays KnownR.stays (fresh_up (Nat.le_refl _) hW') hKp.out, hO.out.slice SigR.stays (fun j hj => ⟨by have := hk.out.2.2 j hj; omega, (hO.out.foot hj).1⟩) (fun j h1 h2 => ⟨by omega, h2⟩) (by have := hk.out.2.1; show fs.length * 56 ≤ _; omega) (by have := hk.out.2.1; show fs.length ≤ _; omega)⟩,
          (HRD2.out.list_ hRd.out).bind ((HRD11.out.list_ hr).map (g := fun fs => (⟨xs, fs⟩ : Face)))⟩
      have HFIN := Lib.hid hfin
      clear hfin
      by_cases hlt : k < m
      · have hltz : (k : Int) < (m : Int) := by omega
        by_cases he5 : e5 = 0
        · subst he5
          have hHs := hH.out.start
          go_upto_region 15 with fail
          have hBt := Box.made wo 74 #[.string ⟨#[]⟩, .slice none 0 0, .string ⟨#[]⟩]
          have hbt : Below wo.heap.size wo (wo.alloc (.cells #[.string ⟨#[]⟩, .slice none 0 0, .string ⟨#[]⟩] 74)) := by go_grown
          have hzt : (wo.alloc (.cells #[.string ⟨#[]⟩, .slice none 0 0, .string ⟨#[]⟩] 74)).heap.size = wo.heap.size + 1 := by simp
          generalize wo.alloc (.cells #[.string ⟨#[]⟩, .slice none 0 0, .string ⟨#[]⟩] 74) = W4 at hBt hbt hzt ⊢
          have hH4 : Hear b wo W4 s i5 0 := ⟨hHs.eye.later hbt hHs.eye.lt, Grew.of_below hbt some_le, hHs.le, hHs.i64⟩
          have hst := hH4.str hs
          have hbo : b < wo.heap.size := hHs.eye.lt
          have HST := Lib.hid hst; have HT4 := Lib.hid hBt; have HZ4 := Lib.hid hzt
          clear hst hBt hzt
          clear x2 hHs hbt hH4
          go_wp2_with fail
          refine HST.out.mono ?_
          rintro en w5 ⟨y1, i6, e6, hy1, rfl, hH5, hg5, hr5⟩
          have hT5 := hg5.box_ HT4.out (by omega)
          have t0 := hT5.at_ 0 _ rfl
          have f0 := hT5.free 0
          have hH6 := hH5.set (p := ⟨wo.heap.size, 0, none⟩) (Nat.le_refl _) hbo (.string y1)
          have hT6 : Box (w5.setCell ⟨wo.heap.size, 0, none⟩ (.string y1)) wo.heap.size 74 #[.string y1, .slice none 0 0, .string ⟨#[]⟩] := by simpa using hT5.put 0 (.string y1)
          have hst := hH6.num hs
          have HST6 := Lib.hid hst; have HT6 := Lib.hid hT6; have HRD5 := Lib.hid hr5; have HY1 := Lib.hid hy1
          clear hst hT6 hr5 hy1
          clear hH5 hg5 hT5 HT4 hH6 HST
          go_wp2_with fail
          refine HST6.out.mono ?_
          rintro en w7 ⟨q, i7, e7, hq, rfl, hH7, hg7, hr7⟩
          have hT7 := hg7.box_ HT6.out (by omega)
          have hz7 : wo.heap.size < w7.heap.size := by have h1 := hg7.size; rw [size_set] at h1; have := hT7.lt; omega
          have HH7 := Lib.hid hH7; have HT7 := Lib.hid hT7; have HRD7 := Lib.hid hr7
          clear hH7 hT7 hr7
          clear hg7 HST6 HT6 t0 f0
          go_upto_block 4 with fail
          go_cut [10] (fun s10 wc => ∃ (D : Option Addr) (dc : Nat) (ps : List ByteArray) (i8 : Nat) (e8 : Int), ps.length ≤ 255 ∧ Aside (Owns StrR 1 9 (wo.heap.size + 1) wc none_ (.slice D ps.length dc) ps) ∧ Aside (Hear b wo wc s i8 e8) ∧
            Aside (Box wc wo.heap.size 74 #[.string y1, .slice D ps.length dc, .string ⟨#[]⟩]) ∧ Aside (Reads (rdMany rdStr q) (s.data.toList.drop i7) e7 ps (s.data.toList.drop i8) e8) ∧ Aside (wo.heap.size + 1 ≤ wc.heap.size))
          case first =>
            go_wp2_with fail
            go_loopg [10] q (fun gg s10 wr => ∃ (ll : Nat) (D : Option Addr) (l dc : Nat) (ps : List ByteArray) (i8 : Nat) (e8 : Int), ll ≤ q ∧ q - ll ≤ gg ∧ s10 = .int .i64 ll ∧ Aside (l = ll ∧ ps.length = ll) ∧ Aside (Owns StrR 1 9 (wo.heap.size + 1) wr none_ (.slice D l dc) ps) ∧ Aside (Hear b wo wr s i8 e8) ∧
              Aside (Box wr wo.heap.size 74 #[.string y1, .slice D l dc, .string ⟨#[]⟩]) ∧ Aside (Reads (rdMany rdStr ll) (s.data.toList.drop i7) e7 ps (s.data.toList.drop i8) e8) ∧ Aside (wo.heap.size + 1 ≤ wr.heap.size))
            case atStart => exact ⟨0, none, 0, 0, [], i7, e7, Nat.zero_le _, by omega, rfl, aside ⟨rfl, rfl⟩, aside Owns.nil_, aside HH7.out, aside HT7.out, aside Reads.none_, aside (by omega)⟩
            case round =>
              obtain ⟨ll, D, l, dc, ps, i8, e8, hll, hg8, rfl, hl, hOp, hH8, hT8, hRp, hW8⟩ := hrel
              obtain ⟨w8, rfl⟩ : ∃ W, W = wr := ⟨_, rfl⟩
              obtain rfl : l = ll := hl.out.1
              have hlen := hl.out.2
              have x2 := hH8.out.ok
              have hw8 : wo.heap.size + 1 ≤ w8.heap.size := hW8.out
              by_cases hlt3 : l < q
              · have hltz3 : (l : Int) < (q : Int) := by omega
                by_cases he8 : e8 = 0
                · subst he8
                  have t1 := hT8.out.at_ 1 _ rfl
                  have u1 := hT8.out.free 1
                  have HLEN := Lib.hid hlen; clear hlen
                  go_wp2_with fail
                  go_region_law (first
                      | (go_simp; go_at_call 37; (with_reducible refine (Hear.str (b := b) (w := wo) (s := s) (i := i8) (e := 0) (by first | exact hH8.out | exact hH8.out.drew) hs).mono ?_); rintro en w9 ⟨y2, i9, e9, hy2, rfl, hH9, hg9, hr9⟩; have hT9 := hg9.box_ (show Box _ wo.heap.size 74 #[.string y1, .slice D l dc, .string ⟨#[]⟩] from by first | exact hT8.out | exact hT8.out.drew) (by omega); have hO9 := Owns.read StrR.stays (show Owns StrR 1 9 (wo.heap.size + 1) _ none_ (.slice D l dc) ps from by first | exact hOp.out | exact hOp.out) hg9 (by omega) (fun k hk => hk.elim); have t1 := hT9.at_ 1 _ rfl; have u1 := hT9.free 1; have hz9 : w8.heap.size ≤ w9.heap.size := hg9.size;  have hq9 : wo.heap.size < w9.heap.size := hT9.lt; have hq8 : w9.heap.size ≠ wo.heap.size := Nat.ne_of_gt hq9; have t2 := (hT9.alloc (.cells #[.string y2] 9)).at_ 1 _ rfl; have HH9 := Lib.hid hH9; have HT9 := Lib.hid hT9; have HO9 := Lib.hid hO9; have HRD9 := Lib.hid hr9; have HY2 := Lib.hid hy2; have HZ9 := Lib.hid hz9; clear hH9 hg9 hT9 hO9 hr9 hy2 hz9)
                      | ((refine step_push StrR.stays (.string ⟨#[]⟩) [.string y2] y2 _ _ 35 rfl rfl Try.underlying35 (bytes := 16) (by kernel_rfl) (show Owns StrR 1 9 (wo.heap.size + 1) _ none_ _ ps from HO9.out.alloc StrR.stays _) rfl rfl (by decide) rfl (heap_alloc_new _ _) rfl (show StrR _ none_ _ _ from ⟨rfl, HY2.out⟩) (StrR.one (w := w9) (F := none_) _ _ ⟨rfl, HY2.out⟩) (fun k hk => hk.elim) (by have := HLEN.out; unfold maxLen; omega) (by have := HLEN.out; omega) (by have := HZ9.out; rw [World.size_alloc]; omega) ?_); intro A10 c10 w12 ho10 hg10 _; have hT10 := hg10.box (HT9.out.alloc _) (by omega); have hH10 := (HH9.out.alloc _).then_ hbo (Nat.le_succ _) hg10; clear t1 u1; have t1 := hT10.at_ 1 _ rfl; have u1 := hT10.free 1; have hz10 := hg10.size; have HT10 := Lib.hid hT10; have HH10 := Lib.hid hH10; have HO10 := Lib.hid ho10; have HZ10 := Lib.hid hz10; clear hT10 hH10 ho10 hg10 hz10))
                  all_goals
                    (try go_wp2_with fail)
                    go_roundg (q - (l + 1))
                    case measure => omega
                    case rel =>
                      have hlen := HLEN.out
                      have hTs : Box (w12.setCell ⟨wo.heap.size, 1, none⟩ (.slice A10 (ps.length + 1) c10)) wo.heap.size 74 #[.string y1, .slice A10 (ps.length + 1) c10, .string ⟨#[]⟩] := by simpa using HT10.out.put 1 (.slice A10 (ps.length + 1) c10)
                      exact ⟨l + 1, A10, ps.length + 1, c10, ps ++ [y2], i9, e9, by omega, by omega, by go_num, aside ⟨by omega, by simp; omega⟩,
                        aside ((HO10.out.wider StrR.stays (F' := none_) (fun k hk => hk.elim id id) (fun k hk => hk.elim)).set StrR.stays (by simp) (fun k hk => hk.elim) _), aside (HH10.out.set (Nat.le_refl _) hbo _), aside hTs, aside (hRp.out.next HRD9.out), aside (by rw [size_set]; have := HZ10.out; rw [World.size_alloc] at this; omega)⟩
                · have hez : (e8 == 0) = false := by simp [he8]
                  go_wp2_with fail
                  go_meet
                  subst hlen
                  exact ⟨D, dc, ps, i8, e8, by omega, hOp, hH8, hT8, aside (hRp.out.stop he8 hll), hW8⟩
              · have hltz3 : ¬ (l : Int) < (q : Int) := by omega
                obtain rfl : l = q := by omega
                go_wp2_with fail
                go_meet
                subst hlen
                exact ⟨D, dc, ps, i8, e8, by omega, hOp, hH8, hT8, hRp, hW8⟩
          case rest =>
            obtain ⟨D, dc, ps, i8, e8, hpl, hOp, hH8, hT8, hRp, hW8⟩ := hcut
            obtain ⟨w13, rfl⟩ : ∃ W, W = wc := ⟨_, rfl⟩
            have hst := hH8.out.str hs
            have hw13 : wo.heap.size + 1 ≤ w13.heap.size := hW8.out
            have HST := Lib.hid hst; clear hst
            go_wp2_with fail
            refine HST.out.mono ?_
            rintro en w14 ⟨y3, i14, e14, hy3, rfl, hH14, hg14, hr14⟩
            have hT14 := hg14.box_ hT8.out (by omega)
            have hsl := ((hOp.out.read StrR.stays hg14 (by omega) (fun k hk => hk.elim)).slice StrR.stays (by_ := 16) (F' := fresh (wo.heap.size + 1) w14.heap.size) (fun k hk => hk.elim) (fun k h1 h2 => ⟨h1, h2⟩) (by omega) (by omega)).put StrR.stays (p := ⟨wo.heap.size, 2, none⟩) (Nat.lt_succ_self _) (.string y3)
            have hz14 := hg14.size
            have hH15 := hH14.set (p := ⟨wo.heap.size, 2, none⟩) (Nat.le_refl _) hbo (.string y3)
            have hT15 : Box (w14.setCell ⟨wo.heap.size, 2, none⟩ (.string y3)) wo.heap.size 74 #[.string y1, .slice D ps.length dc, .string y3] := by simpa using hT14.put 2 (.string y3)
            have hO15 := hO.out.heard SigR.stays hH15 (by omega) hk.out.2.2
            have hF14 := hH14.box hF.out hbne1
            have hF15 := hH15.box hF.out hbne1
            have hR15 := hH15.box hR.out hbne
            have hkp := hKp.out.trans (hH15.grew.keeps (by omega) hW')
            have t0 := hT14.at_ 0 _ rfl
            have t1 := hT14.at_ 1 _ rfl
            have t2 := hT14.at_ 2 _ rfl
            have u2 := hT14.free 2
            have f1 := hF14.at_ 1 _ rfl
            have hw14 : wo.heap.size < w14.heap.size := by omega
            have HH15 := Lib.hid hH15; have HO15 := Lib.hid hO15; have HF15 := Lib.hid hF15; have HR15 := Lib.hid hR15; have HRD14 := Lib.hid hr14; have HY3 := Lib.hid hy3; have HSL := Lib.hid hsl; have HKP := Lib.hid hkp; have HRP := Lib.hid hRp; have HT15 := Lib.hid hT15
            clear hH15 hO15 hF15 hR15 hr14 hy3 hsl hkp hRp hT15
            clear hg14 hT14 hF14 hH14 HST hOp hH8 hT8
            go_wp2_with (at_builtin; go_must ((refine wpList_push SigR.stays (.agg #[.string ⟨#[]⟩, .slice none 0 0, .string ⟨#[]⟩]) [.string y1, .slice D ps.length dc, .string y3] ⟨y1, ps, y3⟩ rfl rfl Try.underlying28 (bytes := 56) (by kernel_rfl) HO15.out rfl rfl (by decide) (show _ = Value.slice (some ⟨_, 0, none⟩) 1 1 by rw [size_set]; rfl) rfl (G := fresh (wo.heap.size + 1) w14.heap.size) (⟨_, rfl, HY1.out, HY3.out, HSL.out⟩) (by intro u hu; simp at hu; rcases hu with rfl | rfl | rfl <;> rfl) (fun k hk => ⟨by rw [size_set]; exact hk.2, fun e => by have h1 := hk.1; have := (hO.out.row e.symm).2; omega⟩) (by unfold maxLen; have := hk.out.2.1; omega) (by have := hk.out.2.1; omega) (by rw [size_set]; omega) ?_); (intro A9 c9 w9 hO9 hgr9 hloc9; have hH9 := (hH.out.trans HH15.out).then_ hbl (by omega) hgr9; have hz9 := hgr9.size; have hF9 := hgr9.box HF15.out (by omega); have hR9 := hgr9.box HR15.out (by omega); have hkp9 := HKP.out.trans (keeps_of_heap (F := fresh W1.heap.size w11.heap.size) (w := w14.setCell ⟨wo.heap.size, 2, none⟩ (.string y3)) (w' := w9) fun k hk => hgr9.block k (by rw [size_set]; have := hk.2; omega) (fun e => by have := hgr9.low k e.symm; have := hk.2; omega)); clear t0 t1 t2 u2 f1; have f1 := hF9.at_ 1 _ rfl; have g1 := hF9.free 1; have HO9 := Lib.hid hO9; have HH9 := Lib.hid hH9; have HF9 := Lib.hid hF9; have HR9 := Lib.hid hR9; have HZ9 := Lib.hid hz9; have HKP9 := Lib.hid hkp9; clear hO9 hgr9 hloc9 hH9 hF9 hR9 hz9 hkp9)))
            go_roundg (m - (k + 1))
            case measure => omega
            case rel =>
              have hz9 := HZ9.out
              rw [size_set] at hz9
              have hFs : Box (w9.setCell ⟨w.heap.size + 1, 1, none⟩ (.slice A9 (fs.length + 1) c9)) (w.heap.size + 1) 30 #[.slice A xs.length c, .slice A9 (fs.length + 1) c9] := by simpa using HF9.out.put 1 (.slice A9 (fs.length + 1) c9)
              have hFl : ∀ j, (F j ∨ fresh (wo.heap.size + 1) w14.heap.size j) → w11.heap.size ≤ j := fun j hj => hj.elim (hk.out.2.2 j) (fun h => by have := h.1; omega)
              exact ⟨k + 1, A9, fs.length + 1, c9, fs ++ [⟨y1, ps, y3⟩], _, i14, e14, by omega, by omega, by go_num, aside ⟨by have := hk.out.2.1; omega, by have := hk.out.2.1; simp; omega, hFl⟩,
                aside (HO9.out.set SigR.stays (by simp; omega) (fun j hj => by have := hFl j hj; simp; omega) _), aside (HH9.out.set (by simp) hbl _), aside (HR9.out.far (by simp) _), aside hFs,
                aside (hRd2.out.next (HRD5.out.bind ((HRD7.out.list_ HRP.out.out).bind (HRD14.out.map (g := fun r => (⟨y1, ps, r⟩ : Sig)))))), aside (by rw [size_set]; omega), aside (HKP9.out.setCell (fresh_no (by simp; omega)) _)⟩
        · have hez : (e5 == 0) = false := by simp [he5]
          obtain ⟨hface, hread⟩ := HFIN.out e5 rfl (hRd2.out.stop he5 hjj)
          have r0 := hR.out.at_ 0 _ rfl
          have r1 := hR.out.at_ 1 _ rfl
          have g0 := hR.out.free 0
          have g1 := hR.out.free 1
          have f0 := hF.out.at_ 0 _ rfl
          have f1 := hF.out.at_ 1 _ rfl
          have HFACE := Lib.hid hface; have HREAD := Lib.hid hread
          clear hface hread
          go_wp2_with fail
          exact bodyPost_ret (v := .agg #[.slice A xs.length c, .slice B k d]) (by simp [results, Try.results39, go_sem, r0, r1]) rfl ⟨⟨xs, fs⟩, A, xs.length, c, B, k, d, rfl, ((HFACE.out.pf (by simp; omega) _).pf (by simp; omega) _).ff (by omega) (by simp [size_set]), i5, e5, (hH.out.eye.far (by simpa using hbne.symm) _).far (by simpa using hbne.symm) _, (hH.out.grew.set_new (by simp) _).set_new (by simp) _, hH.out.le, hH.out.i64, HREAD.out⟩
      · have hltz : ¬ (k : Int) < (m : Int) := by omega
        obtain rfl : k = m := by omega
        obtain ⟨hface, hread⟩ := HFIN.out e5 rfl hRd2.out
        have r0 := hR.out.at_ 0 _ rfl
        have r1 := hR.out.at_ 1 _ rfl
        have g0 := hR.out.free 0
        have g1 := hR.out.free 1
        have f0 := hF.out.at_ 0 _ rfl
        have f1 := hF.out.at_ 1 _ rfl
        have HFACE := Lib.hid hface; have HREAD := Lib.hid hread
        clear hface hread
        go_wp2_with fail
        exact bodyPost_ret (v := .agg #[.slice A xs.length c, .slice B k d]) (by simp [results, Try.results39, go_sem, r0, r1]) rfl ⟨⟨xs, fs⟩, A, xs.length, c, B, k, d, rfl, ((HFACE.out.pf (by simp; omega) _).pf (by simp; omega) _).ff (by omega) (by simp [size_set]), i5, e5, (hH.out.eye.far (by simpa using hbne.symm) _).far (by simpa using hbne.symm) _, (hH.out.grew.set_new (by simp) _).set_new (by simp) _, hH.out.le, hH.out.i64, HREAD.out⟩

end Go.Proofs.Ytoejhgbndehaiaa
