/- Bytes of things: the reference's sized, one, faceBytes. -/
import Derived.Test.YtamkgphamffdcaaRecEnc
import Derived.Test.YtamkgphamffdcaaOwns
import Derived.Test.YtamkgphamffdcaaRows
import Derived.Laws.IdiomStrings
import Derived.Deep.RegionHeld3
import Derived.Deep.QuietTactic
import Derived.BigQuiet
import Derived.WalkSmall
import Derived.Deep.DeepCutAuto
import Derived.Deep.Light
namespace Go.Proofs.Ytamkgphamffdcaa
open Go.RowKit Go.Shelf

theorem byte_nat (k : Nat) : (k : Int) % 256 = ((UInt8.ofNat k).toNat : Int) := by simp
theorem byte_hi (k : Nat) : (k : Int) / 256 % 256 = ((UInt8.ofNat (k / 256)).toNat : Int) := by
  rw [show ((k : Int) / 256) = ((k / 256 : Nat) : Int) by simp]
  exact byte_nat _

set_option maxHeartbeats 1000000 in
set_option maxRecDepth 100000 in
theorem one_any (n : Nat) (w : World) : Calls Try.prog 151 #[.int .i64 n] w fun e w' => e = .returned (.string (txt (encNum n))) ∧ Below w.heap.size w w' := by
  have hcv : (convert 105 9 (.slice (some ⟨w.heap.size, 0, none⟩) 1 1)).run Try.prog (w.alloc (.cells #[.int .u8 ((n : Int) % 256)] 5)) = .ok (.string (txt (encNum n))) (w.alloc (.cells #[.int .u8 ((n : Int) % 256)] 5)) := by
    refine run_convert_bytes_back _ 105 9 5 ⟨w.heap.size, 0, none⟩ 1 (encNum n) Try.underlying105 Try.underlying5 Try.underlying9 (fun j hj => ?_)
    have hB := Box.made w 5 #[.int .u8 ((n : Int) % 256)]
    match j, hj with
    | 0, _ =>
      have := hB.at_ 0 _ rfl
      rw [byte_nat] at this
      first | (simp [Addr.add, encNum]; done) | simpa [Addr.add, encNum] using this
  go_enter Try.func151, Try.ntmps151
  go_wp2_with fail
  go_ret
  exact ⟨rfl, by go_grown⟩

set_option maxHeartbeats 1000000 in
set_option maxRecDepth 100000 in
theorem sized_any (s : ByteArray) (w : World) (hs : s.size ≤ 140737488355328) : Calls Try.prog 150 #[.string s] w fun e w' => e = .returned (.string (txt (encStr s))) ∧ Below w.heap.size w w' := by
  have hcv : (convert 105 9 (.slice (some ⟨w.heap.size, 0, none⟩) 2 2)).run Try.prog (w.alloc (.cells #[.int .u8 ((s.size : Int) / 256 % 256), .int .u8 ((s.size : Int) % 256)] 5)) = .ok (.string (txt [UInt8.ofNat (s.size / 256), UInt8.ofNat s.size])) (w.alloc (.cells #[.int .u8 ((s.size : Int) / 256 % 256), .int .u8 ((s.size : Int) % 256)] 5)) := by
    refine run_convert_bytes_back _ 105 9 5 ⟨w.heap.size, 0, none⟩ 2 [UInt8.ofNat (s.size / 256), UInt8.ofNat s.size] Try.underlying105 Try.underlying5 Try.underlying9 (fun j hj => ?_)
    have hB := Box.made w 5 #[.int .u8 ((s.size : Int) / 256 % 256), .int .u8 ((s.size : Int) % 256)]
    match j, hj with
    | 0, _ =>
      have := hB.at_ 0 _ rfl
      rw [byte_hi] at this
      first | (simp [Addr.add]; done) | simpa [Addr.add] using this
    | 1, _ =>
      have := hB.at_ 1 _ rfl
      rw [byte_nat] at this
      first | (simp [Addr.add]; done) | simpa [Addr.add] using this
  have hq : IntKind.i64.wrap ((s.size : Int) / 256) = (s.size : Int) / 256 := IntWalk.i64_in _ (by omega)
  have hr : ((s.size : Int)).tmod 256 = (s.size : Int) % 256 := Int.tmod_eq_emod_of_nonneg (by omega)
  have hadd : ¬ 9223372036854775807 < (txt [UInt8.ofNat (s.size / 256), UInt8.ofNat s.size]).size + s.size := by rw [txt_size]; simp; omega
  have hend : txt [UInt8.ofNat (s.size / 256), UInt8.ofNat s.size] ++ s = txt (encStr s) := ba_ext (by simp only [txt, ba_app, ba_of, encStr]; rfl)
  generalize txt [UInt8.ofNat (s.size / 256), UInt8.ofNat s.size] = H at *
  go_enter Try.func150, Try.ntmps150
  go_wp2_with fail
  go_ret
  exact ⟨by first | rfl | exact ret_str hend, by go_grown⟩

set_option maxHeartbeats 4000000 in
set_option maxRecDepth 100000 in
theorem faceBytes_any (a : Face) (cs : List Value) (F : Foot) (w : World) (hF : ∀ k, F k → k < w.heap.size) (ha : FaceR w F cs a) (he : faceErr a = 0) :
    Calls Try.prog 152 #[.agg cs.toArray] w fun e w' => e = .returned (.string (txt (encFace a))) ∧ Below w.heap.size w w' := by
  obtain ⟨tv, fv, rfl, ht, hf⟩ := ha
  obtain ⟨A1, c1, rfl, _, _, hl1, _⟩ := ht.form
  obtain ⟨A3, c3, rfl, _, _, hl3, _⟩ := hf.form
  have hs1 := fun k => encTypes_len he k
  have hs2 := fun k => encFuncs_len he k
  have hs3 := (face_rising he).2.2
  have HT := Lib.hid ht; have HFn := Lib.hid hf; have HS1 := Lib.hid hs1; have HS2 := Lib.hid hs2; have HS3 := Lib.hid hs3; have HF := Lib.hid hF
  clear ht hf hs1 hs2 hs3 hF
  go_enter Try.func152, Try.ntmps152
  go_upto_region 1 with fail
  have hBa := Box.made w 32 #[.slice A1 a.types.length c1, .slice A3 a.funcs.length c3]
  have hba : Below w.heap.size w (w.alloc (.cells #[.slice A1 a.types.length c1, .slice A3 a.funcs.length c3] 32)) := by go_grown
  have hza : (w.alloc (.cells #[.slice A1 a.types.length c1, .slice A3 a.funcs.length c3] 32)).heap.size = w.heap.size + 1 := by simp
  generalize w.alloc (.cells #[.slice A1 a.types.length c1, .slice A3 a.funcs.length c3] 32) = W1 at hBa hba hza ⊢
  have x0 := hBa.at_ 0 _ rfl
  have HBa := Lib.hid hBa; have HBw := Lib.hid hba
  clear hBa hba
  clear hza
  go_wp2_with fail
  refine (one_any a.types.length W1).mono ?_
  rintro e W2 ⟨rfl, hb2⟩
  have hB2 := HBa.out.later hb2 HBa.out.lt
  have hbw := HBw.out.trans (hb2.mono HBw.out.size)
  clear x0
  have HB2 := Lib.hid hB2; have HBW := Lib.hid hbw
  clear hB2 hbw
  clear hb2
  go_upto_region 3 with fail
  go_loopg [3, 4] a.types.length (fun gg s3 s4 wr => ∃ kk : Nat, kk ≤ a.types.length ∧ a.types.length - kk ≤ gg ∧ s4 = .int .i64 kk ∧ s3 = .string (txt (encNum a.types.length ++ (a.types.take kk).flatMap encKnown)) ∧ Aside (Below W2.heap.size W2 wr))
  case atStart => exact ⟨0, Nat.zero_le _, by omega, rfl, by simp, aside (Below.refl _ _)⟩
  case round =>
    obtain ⟨kk, hkk, hg, rfl, rfl, BW⟩ := hrel
    have hBr := HB2.out.later BW.out HB2.out.lt
    have hbw := HBW.out.trans (BW.out.mono HBW.out.size)
    by_cases hlt : kk < a.types.length
    · have hltz : (kk : Int) < (a.types.length : Int) := by omega
      obtain ⟨b1, off, cs, rfl, hbF, hcs, ⟨rfl, hn, hi⟩, hcell⟩ := (HT.out.up KnownR.stays HF.out hbw).at_ hlt
      have x0 := hBr.at_ 0 _ rfl
      have hc0 := hcell 0 _ rfl
      have hc1 := hcell 1 _ rfl
      simp only [Nat.add_zero] at hc0
      have hx := List.getElem?_eq_getElem hlt
      generalize a.types[kk] = x at *
      have hbl := foot_up HF.out hbw _ hbF
      have hwl := hBr.lt
      obtain ⟨hz1, hz2⟩ := known_parts (HS3.out.1 x (List.mem_of_getElem? hx))
      have hs0 : (txt (encNum a.types.length ++ (a.types.take kk).flatMap encKnown)).size ≤ 20000 := by
        have := HS1.out kk; rw [txt_size, List.length_append, encNum, List.length_singleton]; omega
      have hn1 : (txt (encStr x.name)).size ≤ 10 := by rw [txt_size, encStr_len]; omega
      have hn2 : (txt (encStr x.is_)).size ≤ 602 := by rw [txt_size, encStr_len]; omega
      have hsz1 := fun W => sized_any x.name W hn
      have hsz2 := fun W => sized_any x.is_ W hi
      have hsu : txt (encNum a.types.length ++ (a.types.take kk).flatMap encKnown) ++ txt (encStr x.name) ++ txt (encStr x.is_) = txt (encNum a.types.length ++ (a.types.take (kk + 1)).flatMap encKnown) := by
        rw [flatMap_succ hx, txt_app, txt_app]; simp only [encKnown, List.append_assoc]
      generalize txt (encStr x.name) = n1 at hn1 hsz1 hsu
      generalize txt (encStr x.is_) = n2 at hn2 hsz2 hsu
      obtain ⟨S, hS⟩ : ∃ S, txt (encNum a.types.length ++ (a.types.take kk).flatMap encKnown) = S := ⟨_, rfl⟩
      rw [hS] at hs0 hsu ⊢
      have q1 : ¬ 9223372036854775807 < S.size + n1.size := by omega
      have q2 : ¬ 9223372036854775807 < S.size + n1.size + n2.size := by omega
      have hdr : Below wr.heap.size wr wr.drew := by go_grown
      have HS1a := Lib.hid hsz1; have HS2a := Lib.hid hsz2; have HSU := Lib.hid hsu; have HBk := Lib.hid hdr; have HBR := Lib.hid hbw
      clear hsz1 hsz2 hsu hdr hbw
      have HXl := Lib.hid hwl; have HCl := Lib.hid hbl; have HX0 := Lib.hid x0; have HC0 := Lib.hid hc0; have HC1 := Lib.hid hc1
      clear hcell hcs hS hBr hx
      go_upto_region 5 with fail
      go_region_held3 (fun w' => w'.cell? ⟨w.heap.size, 0, none⟩ = some (.slice (some ⟨b1, off, none⟩) a.types.length c1) ∧ w'.cell? ⟨b1, off + kk * 2, none⟩ = some (.string x.name) ∧ w'.cell? ⟨b1, off + kk * 2 + 1, none⟩ = some (.string x.is_))
        (exact ⟨(HBk.out.cell (p := ⟨w.heap.size, 0, none⟩) HXl.out).trans HX0.out, (HBk.out.cell (p := ⟨b1, off + kk * 2, none⟩) HCl.out).trans HC0.out, (HBk.out.cell (p := ⟨b1, off + kk * 2 + 1, none⟩) HCl.out).trans HC1.out⟩)
        (first
          | (go_at_call 150; with_reducible refine (HS1a.out _).mono ?_; rintro e w7 ⟨rfl, hb7⟩; have hb8 := HBk.out.trans (hb7.mono HBk.out.size); have HBk := Lib.hid hb8; clear hb7 hb8)
          | (go_at_call 150; with_reducible refine (HS2a.out _).mono ?_; rintro e w7 ⟨rfl, hb7⟩; have hb8 := HBk.out.trans (hb7.mono HBk.out.size); have HBk := Lib.hid hb8; clear hb7 hb8))
      all_goals
        go_wp2_with fail
        go_roundg (a.types.length - (kk + 1))
        case measure => omega
        case rel => exact ⟨kk + 1, by omega, by omega, by go_num, by rw [HSU.out], aside (BW.out.trans (HBk.out.mono BW.out.size))⟩
    · have hltz : ¬ (kk : Int) < (a.types.length : Int) := by omega
      obtain rfl : kk = a.types.length := by omega
      rw [List.take_length]
      obtain ⟨V, rfl⟩ : ∃ V, V = wr := ⟨_, rfl⟩
      have x0 := hBr.at_ 0 _ rfl
      have x1 := hBr.at_ 1 _ rfl
      have hs0 : (txt (encNum a.types.length ++ a.types.flatMap encKnown)).size ≤ 20000 := by
        have := HS1.out a.types.length
        rw [List.take_length] at this
        rw [txt_size, List.length_append, encNum, List.length_singleton]; omega
      obtain ⟨S, hS⟩ : ∃ S, txt (encNum a.types.length ++ a.types.flatMap encKnown) = S := ⟨_, rfl⟩
      rw [hS] at hs0 ⊢
      have hone := fun W => one_any a.funcs.length W
      have hn3 : (txt (encNum a.funcs.length)).size = 1 := by rw [txt_size]; rfl
      obtain ⟨n3, hn3e⟩ : ∃ n, txt (encNum a.funcs.length) = n := ⟨_, rfl⟩
      rw [hn3e] at hone hn3
      have HSe := Lib.hid hS; have HON := Lib.hid hone; have HN3 := Lib.hid hn3e; have HBr := Lib.hid hBr; have HBV := Lib.hid hbw
      clear hS hone hn3e hBr hbw
      clear BW
      go_wp2_with fail
      refine (HON.out V).mono ?_
      rintro e V2 ⟨rfl, hb3⟩
      have hBv := HBr.out.later hb3 HBr.out.lt
      have hbv := HBV.out.trans (hb3.mono HBV.out.size)
      have hs2 : (S ++ n3).size ≤ 20001 := by rw [ba_app_size]; omega
      clear x0 x1
      have HBv := Lib.hid hBv; have HBV2 := Lib.hid hbv
      clear hBv hbv
      clear hb3
      go_upto_region 8 with fail
      obtain ⟨S2, hS2⟩ : ∃ T, S ++ n3 = T := ⟨_, rfl⟩
      rw [hS2] at hs2
      have HS2e := Lib.hid hS2
      go_loopg [3, 5, 6] a.funcs.length (fun gg s3 s5 _ wr => ∃ kk : Nat, kk ≤ a.funcs.length ∧ a.funcs.length - kk ≤ gg ∧ s5 = .int .i64 kk ∧ s3 = .string (S2 ++ txt ((a.funcs.take kk).flatMap encSig)) ∧ Aside (Below V2.heap.size V2 wr))
      case atStart => exact ⟨0, Nat.zero_le _, by omega, rfl, by rw [← hS2, List.take_zero, List.flatMap_nil, show txt [] = ⟨#[]⟩ from rfl, ba_app_nil], aside (Below.refl _ _)⟩
      case round =>
        clear hS2
        obtain ⟨kk, hkk, hg, rfl, rfl, BW⟩ := hrel
        have hBr := HBv.out.later BW.out HBv.out.lt
        have hbw := HBV2.out.trans (BW.out.mono HBV2.out.size)
        have x1 := hBr.at_ 1 _ rfl
        by_cases hlt : kk < a.funcs.length
        · have hltz : (kk : Int) < (a.funcs.length : Int) := by omega
          obtain ⟨b1, off, cs, rfl, hbF, hcs, ⟨pv, rfl, hn, hi, hp⟩, hcell⟩ := (HFn.out.up SigR.stays HF.out hbw).at_ hlt
          obtain ⟨P1, p1, rfl, _, _, hpl, _⟩ := hp.form
          have hc0 := hcell 0 _ rfl
          have hc1 := hcell 1 _ rfl
          have hc2 := hcell 2 _ rfl
          simp only [Nat.add_zero] at hc0
          have hx := List.getElem?_eq_getElem hlt
          generalize a.funcs[kk] = x at *
          have hbl := foot_up HF.out hbw _ hbF
          have hwl := hBr.lt
          have hsb := HS3.out.2 x (List.mem_of_getElem? hx)
          obtain ⟨hz1, hz2, hz3, hz4⟩ := sig_parts hsb
          have hps := fun k => encParams_len hsb k
          have hs0 : (S2 ++ txt ((a.funcs.take kk).flatMap encSig)).size ≤ 200000 := by
            have := HS2.out kk; rw [ba_app_size, txt_size]; omega
          have hn1 : (txt (encStr x.name)).size ≤ 10 := by rw [txt_size, encStr_len]; omega
          have hn4 : (txt (encNum x.params.length)).size ≤ 1 := by rw [txt_size]; exact Nat.le_refl _
          have hn5 : (txt (encStr x.result)).size ≤ 602 := by rw [txt_size, encStr_len]; omega
          have hsz1 := fun W => sized_any x.name W hn
          have hsz4 := fun W => one_any x.params.length W
          have hsz5 := fun W => sized_any x.result W hi
          have hsu : S2 ++ txt ((a.funcs.take kk).flatMap encSig) ++ txt (encStr x.name) ++ txt (encNum x.params.length) ++ txt (x.params.flatMap encStr) ++ txt (encStr x.result) = S2 ++ txt ((a.funcs.take (kk + 1)).flatMap encSig) := by
            rw [flatMap_succ hx, ← txt_app]; simp only [encSig, ← txt_app, ba_assoc]
          generalize txt (encStr x.name) = n1 at hn1 hsz1 hsu
          generalize txt (encNum x.params.length) = n4 at hn4 hsz4 hsu
          generalize txt (encStr x.result) = n5 at hn5 hsz5 hsu
          obtain ⟨T, hT⟩ : ∃ S, S2 ++ txt ((a.funcs.take kk).flatMap encSig) = S := ⟨_, rfl⟩
          rw [hT] at hs0 hsu ⊢
          have q1 : ¬ 9223372036854775807 < T.size + n1.size := by omega
          have q2 : ¬ 9223372036854775807 < T.size + n1.size + n4.size := by omega
          have hdr : Below wr.heap.size wr wr.drew := by go_grown
          have HS1a := Lib.hid hsz1; have HS4a := Lib.hid hsz4; have HS5a := Lib.hid hsz5; have HSU := Lib.hid hsu; have HBk := Lib.hid hdr; have HBR := Lib.hid hbw; have HP := Lib.hid hp; have HPS := Lib.hid hps; have HZ4 := Lib.hid hz4
          clear hsz1 hsz4 hsz5 hsu hdr hbw hp hps hz4
          have HXl := Lib.hid hwl; have HCl := Lib.hid hbl; have HX1 := Lib.hid x1; have HC0 := Lib.hid hc0; have HC1 := Lib.hid hc1; have HC2 := Lib.hid hc2
          clear hcell hcs hT hx hsb
          go_upto_region 10 with fail
          go_cut [3] (fun s3 wc => s3 = .string (T ++ n1 ++ n4) ∧ Aside (Below wr.heap.size wr wc))
          case first =>
            go_region_held3 (fun w' => w'.cell? ⟨w.heap.size, 1, none⟩ = some (.slice (some ⟨b1, off, none⟩) a.funcs.length c3) ∧ w'.cell? ⟨b1, off + kk * 3, none⟩ = some (.string x.name) ∧ w'.cell? ⟨b1, off + kk * 3 + 1, none⟩ = some (.slice P1 x.params.length p1))
              (exact ⟨(HBk.out.cell (p := ⟨w.heap.size, 1, none⟩) HXl.out).trans HX1.out, (HBk.out.cell (p := ⟨b1, off + kk * 3, none⟩) HCl.out).trans HC0.out, (HBk.out.cell (p := ⟨b1, off + kk * 3 + 1, none⟩) HCl.out).trans HC1.out⟩)
              (first
                | (go_at_call 150; with_reducible refine (HS1a.out _).mono ?_; rintro e w7 ⟨rfl, hb7⟩; have hb8 := HBk.out.trans (hb7.mono HBk.out.size); have HBk := Lib.hid hb8; clear hb7 hb8)
                | (go_at_call 151; with_reducible refine (HS4a.out _).mono ?_; rintro e w7 ⟨rfl, hb7⟩; have hb8 := HBk.out.trans (hb7.mono HBk.out.size); have HBk := Lib.hid hb8; clear hb7 hb8))
            all_goals (go_wp2_with fail; go_meet; exact ⟨rfl, aside HBk.out⟩)
          case rest =>
            obtain ⟨rfl, hb9⟩ := hcut
            obtain ⟨W9, rfl⟩ : ∃ W, W = wc := ⟨_, rfl⟩
            have hbw9 := HBR.out.trans (hb9.out.mono HBR.out.size)
            have hB9 := hBr.later hb9.out hBr.lt
            have hd1 := (hb9.out.cell (p := ⟨b1, off + kk * 3 + 1, none⟩) HCl.out).trans HC1.out
            have hd2 := (hb9.out.cell (p := ⟨b1, off + kk * 3 + 2, none⟩) HCl.out).trans HC2.out
            have hp9 := HP.out.up StrR.stays (foot_up HF.out HBR.out) hb9.out
            have hcl9 := Nat.lt_of_lt_of_le HCl.out hb9.out.size
            have hu0 : (T ++ n1 ++ n4).size ≤ 200100 := by rw [ba_app_size, ba_app_size]; omega
            clear x1 hc0 hc1 hc2 hBr q1 q2 hbl hwl
            have hbwk := BW.out.trans (hb9.out.mono BW.out.size)
            have HBW9 := Lib.hid hbw9; have HB9 := Lib.hid hB9; have HP9 := Lib.hid hp9; have HD1 := Lib.hid hd1; have HD2 := Lib.hid hd2; have HC9 := Lib.hid hcl9; have HBWK := Lib.hid hbwk
            clear hbw9 hB9 hp9 hd1 hd2 hcl9 hbwk
            obtain ⟨U, hU⟩ : ∃ U, T ++ n1 ++ n4 = U := ⟨_, rfl⟩
            have hsu := HSU.out
            rw [hU] at hu0 hsu ⊢
            have HSU2 := Lib.hid hsu; have HU := Lib.hid hU
            clear hsu hU
            go_wp2_with fail
            go_loopg [3, 6] x.params.length (fun gg s3 s6 wr => ∃ mm : Nat, mm ≤ x.params.length ∧ x.params.length - mm ≤ gg ∧ s6 = .int .i64 mm ∧ s3 = .string (U ++ txt ((x.params.take mm).flatMap encStr)) ∧ Aside (Below W9.heap.size W9 wr))
            case atStart => exact ⟨0, Nat.zero_le _, by omega, rfl, by rw [List.take_zero, List.flatMap_nil, show txt [] = ⟨#[]⟩ from rfl, ba_app_nil], aside (Below.refl _ _)⟩
            case round =>
              obtain ⟨mm, hmm, hg2, rfl, rfl, CW⟩ := hrel
              have hBq := HB9.out.later CW.out HB9.out.lt
              have hd1 := (CW.out.cell (p := ⟨b1, off + kk * 3 + 1, none⟩) HC9.out).trans HD1.out
              have hcw := HBW9.out.trans (CW.out.mono HBW9.out.size)
              have x1 := hBq.at_ 1 _ rfl
              have hT0 : (U ++ txt ((x.params.take mm).flatMap encStr)).size ≤ 300000 := by
                have := HPS.out mm; rw [ba_app_size, txt_size]; omega
              by_cases hlt2 : mm < x.params.length
              · have hltz2 : (mm : Int) < (x.params.length : Int) := by omega
                obtain ⟨b2, off2, cs, rfl, hbF2, hcs, ⟨rfl, hys⟩, hcell⟩ := (HP9.out.up StrR.stays (foot_up HF.out HBW9.out) CW.out).at_ hlt2
                have hq0 := hcell 0 _ rfl
                simp only [Nat.mul_one, Nat.add_zero] at hq0
                have hy := List.getElem?_eq_getElem hlt2
                have hy6 := HZ4.out _ (List.mem_of_getElem? hy)
                generalize x.params[mm] = y at *
                have hn6 : (txt (encStr y)).size ≤ 602 := by rw [txt_size, encStr_len]; omega
                have hsz6 := fun W => sized_any y W hys
                have hsv : U ++ txt ((x.params.take mm).flatMap encStr) ++ txt (encStr y) = U ++ txt ((x.params.take (mm + 1)).flatMap encStr) := by rw [flatMap_succ hy, ← txt_app, ba_assoc]
                generalize txt (encStr y) = n6 at hn6 hsz6 hsv
                obtain ⟨Z, hZ⟩ : ∃ S, U ++ txt ((x.params.take mm).flatMap encStr) = S := ⟨_, rfl⟩
                rw [hZ] at hT0 hsv ⊢
                have HS6 := Lib.hid hsz6; have HSV := Lib.hid hsv; have HCWk := Lib.hid CW
                clear hsz6 hsv CW
                clear hcell hcs hZ hy hBq hcw
                go_wp2_with fail
                refine (HS6.out _).mono ?_
                rintro e w7 ⟨rfl, hb7⟩
                have HB7 := Lib.hid (HCWk.out.out.trans (hb7.mono HCWk.out.out.size))
                clear hb7
                go_wp2_with fail
                go_roundg (x.params.length - (mm + 1))
                case measure => omega
                case rel => exact ⟨mm + 1, by omega, by omega, by go_num, by rw [HSV.out], aside HB7.out⟩
              · have hltz2 : ¬ (mm : Int) < (x.params.length : Int) := by omega
                obtain rfl : mm = x.params.length := by omega
                have hd2 := (CW.out.cell (p := ⟨b1, off + kk * 3 + 2, none⟩) HC9.out).trans HD2.out
                rw [List.take_length] at hT0 ⊢
                obtain ⟨Z, hZ⟩ : ∃ S, U ++ txt (x.params.flatMap encStr) = S := ⟨_, rfl⟩
                have hsv := HSU2.out
                rw [hZ] at hT0 hsv ⊢
                have HSV := Lib.hid hsv; have HCW := Lib.hid hcw
                clear hsv hcw
                clear hZ hBq
                go_wp2_with fail
                refine (HS5a.out _).mono ?_
                rintro e w7 ⟨rfl, hb7⟩
                have HB7 := Lib.hid (CW.out.trans (hb7.mono CW.out.size))
                clear hb7
                go_wp2_with fail
                go_roundg (a.funcs.length - (kk + 1))
                case measure => omega
                case rel => exact ⟨kk + 1, by omega, by omega, by go_num, by rw [HSV.out], aside (HBWK.out.trans (HB7.out.mono HBWK.out.size))⟩
        · have hltz : ¬ (kk : Int) < (a.funcs.length : Int) := by omega
          obtain rfl : kk = a.funcs.length := by omega
          rw [List.take_length]
          have hfin : S2 ++ txt (a.funcs.flatMap encSig) = txt (encFace a) := by
            rw [← HS2e.out, ← HSe.out, ← HN3.out, txt_app, txt_app]; simp only [encFace, List.append_assoc]
          rw [hfin]
          go_wp2_with fail
          go_ret
          exact ⟨rfl, hbw⟩

end Go.Proofs.Ytamkgphamffdcaa
