/- Records as bytes: the reference's RecordBytes. -/
import Derived.Test.YtamkgphamffdcaaRefBytes
import Derived.Test.YtamkgphamffdcaaRecEq
import Derived.Test.YtamkgphamffdcaaRecCopy
namespace Go.Proofs.Ytamkgphamffdcaa
open Go.RowKit Go.Shelf

theorem ImportR.whole {w : World} {F : Foot} {cs : List Value} {x : Import} (h : ImportR w F cs x) : ∃ T1 e1 T2 e2, cs = [.string x.name, .bool x.there, .slice T1 x.face.types.length e1, .slice T2 x.face.funcs.length e2] ∧ okS x.name ∧ FaceR w F [.slice T1 x.face.types.length e1, .slice T2 x.face.funcs.length e2] x.face := by
  obtain ⟨tv, fv, rfl, h1, h2⟩ := h
  obtain ⟨T1, e1, T2, e2, h3⟩ := h2.form
  simp only [List.cons.injEq, and_true] at h3
  obtain ⟨rfl, rfl⟩ := h3
  exact ⟨_, _, _, _, rfl, h1, h2⟩
theorem one_1 (w : World) : Calls Try.prog 151 #[.int .i64 1] w fun e w' => e = .returned (.string (txt (encNum 1))) ∧ Below w.heap.size w w' := one_any 1 w
theorem one_0 (w : World) : Calls Try.prog 151 #[.int .i64 0] w fun e w' => e = .returned (.string (txt (encNum 0))) ∧ Below w.heap.size w w' := one_any 0 w

set_option maxHeartbeats 8000000 in
set_option maxRecDepth 100000 in
theorem recordBytes_any (r : Record) (cs : List Value) (F : Foot) (w : World) (hF : ∀ k, F k → k < w.heap.size) (hr : RecordR w F cs r) :
    Calls Try.prog 89 #[.agg cs.toArray] w fun e w' => e = .returned (.tuple #[.string (recBytes r), .int .i64 (recErr r)]) ∧ Below w.heap.size w w' := by
  have hc := fun U (hU : Below w.heap.size w U) => recordFault_any r cs F U (foot_up hF hU) (RecordR.stays.later hr hU hF)
  obtain ⟨I1, i1, T1, e1, T2, e2, D1, d1, rfl, hsn, hss, him, hfa, hdi⟩ := RecordR.parts hr
  clear hr
  unfold recBytes
  obtain ⟨E, hE⟩ : ∃ E, recErr r = E := ⟨_, rfl⟩
  rw [hE] at hc ⊢
  have HC := Lib.hid hc; have HIM := Lib.hid him; have HFA := Lib.hid hfa; have HDI := Lib.hid hdi; have HF := Lib.hid hF
  clear hc him hfa hdi hF
  by_cases h0 : E = 0
  · subst h0
    rw [if_pos rfl]
    obtain ⟨hp1, hp2, hp3, hp4, hp5, hp6⟩ := rec_parts hE
    have hz1 := nameOk_size hp1
    have hz4 := fun k => encImports_len hp4 k
    have hz5 := (imports_good hp4).2
    have hil := (imports_good hp4).1
    have hz6 := fun k => encDiags_len hE k
    have hz7 := encFace_len hp5
    have HE := Lib.hid hE; have HZ4 := Lib.hid hz4; have HZ5 := Lib.hid hz5; have HZ6 := Lib.hid hz6; have HP5 := Lib.hid hp5; have HP6 := Lib.hid hp6; have HZ7 := Lib.hid hz7
    clear hE hz4 hz5 hz6 hp5 hp6 hz7
    clear hp1 hp4
    go_enter Try.func89, Try.ntmps89
    go_upto_region 1 with fail
    have hBa := Box.made w 40 #[.string r.name, .string r.source, .slice I1 r.imports.length i1, .slice T1 r.face.types.length e1, .slice T2 r.face.funcs.length e2, .slice D1 r.diags.length d1]
    have hba : Below w.heap.size w (w.alloc (.cells #[.string r.name, .string r.source, .slice I1 r.imports.length i1, .slice T1 r.face.types.length e1, .slice T2 r.face.funcs.length e2, .slice D1 r.diags.length d1] 40)) := by go_grown
    have hza : (w.alloc (.cells #[.string r.name, .string r.source, .slice I1 r.imports.length i1, .slice T1 r.face.types.length e1, .slice T2 r.face.funcs.length e2, .slice D1 r.diags.length d1] 40)).heap.size = w.heap.size + 1 := by simp
    generalize w.alloc (.cells #[.string r.name, .string r.source, .slice I1 r.imports.length i1, .slice T1 r.face.types.length e1, .slice T2 r.face.funcs.length e2, .slice D1 r.diags.length d1] 40) = W1 at hBa hba hza ⊢
    have x0 := hBa.at_ 0 _ rfl
    have x1 := hBa.at_ 1 _ rfl
    have x2 := hBa.at_ 2 _ rfl
    have x3 := hBa.at_ 3 _ rfl
    have x4 := hBa.at_ 4 _ rfl
    have x5 := hBa.at_ 5 _ rfl
    go_wp2_with fail
    refine (HC.out _ hba).mono ?_
    rintro e W2 ⟨rfl, hb2⟩
    have hB2 := hBa.later hb2 hBa.lt
    have hbw := hba.trans (hb2.mono hba.size)
    clear x0 x1 x2 x3 x4 x5
    have x0 := hB2.at_ 0 _ rfl
    have x1 := hB2.at_ 1 _ rfl
    have x2 := hB2.at_ 2 _ rfl
    have hlo := hB2.lt
    have HB2 := Lib.hid hB2; have HBW := Lib.hid hbw
    clear hB2 hbw
    clear hBa hba hza hb2
    have hn1 : (txt (encStr r.name)).size ≤ 10 := by rw [txt_size, encStr_len]; omega
    have hn2 : (txt (encStr r.source)).size ≤ 1502 := by rw [txt_size, encStr_len]; omega
    have hn3 : (txt (encNum r.imports.length)).size ≤ 1 := by rw [txt_size]; exact Nat.le_refl _
    have hs1 := fun W => sized_any r.name W hsn
    have hs2 := fun W => sized_any r.source W hss
    have hs3 := fun W => one_any r.imports.length W
    have hsu : txt (encStr r.name) ++ txt (encStr r.source) ++ txt (encNum r.imports.length) = txt (encStr r.name ++ encStr r.source ++ encNum r.imports.length) := by rw [txt_app, txt_app]
    have hl3 : (txt (encStr r.name ++ encStr r.source ++ encNum r.imports.length)).size ≤ 2000 := by rw [← hsu, ba_app_size, ba_app_size]; omega
    generalize txt (encStr r.name) = n1 at hn1 hs1 hsu
    generalize txt (encStr r.source) = n2 at hn2 hs2 hsu
    generalize txt (encNum r.imports.length) = n3 at hn3 hs3 hsu
    have q1 : ¬ 9223372036854775807 < n1.size + n2.size := by omega
    have q2 : ¬ 9223372036854775807 < n1.size + n2.size + n3.size := by omega
    have hdr : Below W2.heap.size W2 W2.drew := by go_grown
    have HX0 := Lib.hid x0; have HX1 := Lib.hid x1; have HX2 := Lib.hid x2; have HLO := Lib.hid hlo
    have HS1 := Lib.hid hs1; have HS2 := Lib.hid hs2; have HS3 := Lib.hid hs3; have HBk := Lib.hid hdr; have HSU := Lib.hid hsu; have HL3 := Lib.hid hl3
    clear hs1 hs2 hs3 hdr hsu hl3
    go_upto_region 4 with fail
    go_cut [5] (fun s5 wc => s5 = .string (n1 ++ n2 ++ n3) ∧ Aside (Below W2.heap.size W2 wc))
    case first =>
      go_region_held3 (fun w' => w'.cell? ⟨w.heap.size, 0, none⟩ = some (.string r.name) ∧ w'.cell? ⟨w.heap.size, 1, none⟩ = some (.string r.source) ∧ w'.cell? ⟨w.heap.size, 2, none⟩ = some (.slice I1 r.imports.length i1))
        (exact ⟨(HBk.out.cell (p := ⟨w.heap.size, 0, none⟩) HLO.out).trans HX0.out, (HBk.out.cell (p := ⟨w.heap.size, 1, none⟩) HLO.out).trans HX1.out, (HBk.out.cell (p := ⟨w.heap.size, 2, none⟩) HLO.out).trans HX2.out⟩)
        (first
          | (go_at_call 150; with_reducible refine (HS1.out _).mono ?_; rintro e w7 ⟨rfl, hb7⟩; have hb8 := HBk.out.trans (hb7.mono HBk.out.size); have HBk := Lib.hid hb8; clear hb7 hb8)
          | (go_at_call 150; with_reducible refine (HS2.out _).mono ?_; rintro e w7 ⟨rfl, hb7⟩; have hb8 := HBk.out.trans (hb7.mono HBk.out.size); have HBk := Lib.hid hb8; clear hb7 hb8)
          | (go_at_call 151; with_reducible refine (HS3.out _).mono ?_; rintro e w7 ⟨rfl, hb7⟩; have hb8 := HBk.out.trans (hb7.mono HBk.out.size); have HBk := Lib.hid hb8; clear hb7 hb8))
      all_goals (go_wp2_with fail; go_meet; exact ⟨rfl, aside HBk.out⟩)
    case rest =>
      obtain ⟨rfl, hb9⟩ := hcut
      obtain ⟨W3, rfl⟩ : ∃ W, W = wc := ⟨_, rfl⟩
      have hB3 := HB2.out.later hb9.out HB2.out.lt
      have hbw3 := HBW.out.trans (hb9.out.mono HBW.out.size)
      clear x0 x1 x2 q1 q2 hlo
      rw [HSU.out]
      have hl3 := HL3.out
      obtain ⟨l3, hl3e⟩ : ∃ l, encStr r.name ++ encStr r.source ++ encNum r.imports.length = l := ⟨_, rfl⟩
      rw [hl3e] at hl3 ⊢
      have HB3 := Lib.hid hB3; have HBW3 := Lib.hid hbw3; have HL3E := Lib.hid hl3e
      clear hB3 hbw3 hl3e
      clear hb9
      go_wp2_with fail
      go_loopg [5, 6] r.imports.length (fun gg s5 s6 wr => ∃ kk : Nat, kk ≤ r.imports.length ∧ r.imports.length - kk ≤ gg ∧ s6 = .int .i64 kk ∧ s5 = .string (txt (l3 ++ (r.imports.take kk).flatMap encImport)) ∧ Aside (Below W3.heap.size W3 wr))
      case atStart => exact ⟨0, Nat.zero_le _, by omega, rfl, by simp, aside (Below.refl _ _)⟩
      case round =>
        obtain ⟨kk, hkk, hg, rfl, rfl, BW⟩ := hrel
        have hBr := HB3.out.later BW.out HB3.out.lt
        have hbw := HBW3.out.trans (BW.out.mono HBW3.out.size)
        have hlo := hBr.lt
        have x2 := hBr.at_ 2 _ rfl
        by_cases hlt : kk < r.imports.length
        · have hltz : (kk : Int) < (r.imports.length : Int) := by omega
          obtain ⟨b1, off, cs, rfl, hbF, hcs, hx1, hcell⟩ := (HIM.out.up ImportR.stays HF.out hbw).at_ hlt
          obtain ⟨P1, p1, P2, p2, rfl, hn, hfx⟩ := ImportR.whole hx1
          have hc0 := hcell 0 _ rfl
          have hc1 := hcell 1 _ rfl
          have hc2 := hcell 2 _ rfl
          have hc3 := hcell 3 _ rfl
          simp only [Nat.add_zero] at hc0
          have hx := List.getElem?_eq_getElem hlt
          generalize r.imports[kk] = x at *
          have hbl := foot_up HF.out hbw _ hbF
          obtain ⟨hg1, hg2⟩ := import_face (HZ5.out x (List.mem_of_getElem? hx))
          have hz1 := nameOk_size hg1
          have hs0 : (txt (l3 ++ (r.imports.take kk).flatMap encImport)).size ≤ 5000000 := by
            have := HZ4.out kk; rw [txt_size] at hl3 ⊢; rw [List.length_append]; omega
          have hn1 : (txt (encStr x.name)).size ≤ 10 := by rw [txt_size, encStr_len]; omega
          have hn4 : (txt (encFace x.face)).size ≤ 150000 := by rw [txt_size]; exact encFace_len hg2
          have hs1 := fun W => sized_any x.name W hn
          have hs4 := fun U (hU : Below wr.heap.size wr U) => faceBytes_any x.face _ F U (foot_up (foot_up HF.out hbw) hU) (FaceR.stays.later hfx hU (foot_up HF.out hbw)) hg2
          have hsu : txt (l3 ++ (r.imports.take kk).flatMap encImport) ++ txt (encStr x.name) ++ txt (encNum (if x.there then 1 else 0)) ++ txt (encFace x.face) = txt (l3 ++ (r.imports.take (kk + 1)).flatMap encImport) := by
            rw [flatMap_succ hx, txt_app, txt_app, txt_app]; simp only [encImport, List.append_assoc]
          generalize txt (encStr x.name) = n1 at hn1 hs1 hsu
          generalize txt (encFace x.face) = n4 at hn4 hs4 hsu
          obtain ⟨S, hS⟩ : ∃ S, txt (l3 ++ (r.imports.take kk).flatMap encImport) = S := ⟨_, rfl⟩
          rw [hS] at hs0 hsu ⊢
          have HS1 := Lib.hid hs1; have HS4 := Lib.hid hs4; have HSU := Lib.hid hsu; have HBR := Lib.hid hbw; have HBr := Lib.hid hBr
          clear hs1 hs4 hsu hbw hBr
          have HC1 := Lib.hid hc1; have HC2 := Lib.hid hc2; have HC3 := Lib.hid hc3
          clear hcell hcs hS hx hx1 hg1 hg2 hfx
          go_wp2_with fail
          refine (HS1.out _).mono ?_
          rintro e W4 ⟨rfl, hb4⟩
          have hd1 := (hb4.cell (p := ⟨b1, off + kk * 4 + 1, none⟩) hbl).trans HC1.out
          have hB4 := HBr.out.later hb4 hlo
          clear x2 hc0 hc1 hc2 hc3
          have x2 := hB4.at_ 2 _ rfl
          have HB4 := Lib.hid hb4; have HBX4 := Lib.hid hB4
          clear hb4 hB4
          cases hth : x.there with
          | true =>
            have hsu := HSU.out
            rw [hth] at hd1 hsu
            simp only [if_true] at hsu
            have hn3 : (txt (encNum 1)).size ≤ 1 := by rw [txt_size]; exact Nat.le_refl _
            have hs3 := one_1
            generalize txt (encNum 1) = n3 at hn3 hs3 hsu
            have HSU3 := Lib.hid hsu; have HS3 := Lib.hid hs3; have HTH := Lib.hid hth
            clear hsu hs3 hth
            go_wp2_with fail
            refine (HS3.out _).mono ?_
            rintro e W5 ⟨rfl, hb5⟩
            have hb6 := HB4.out.trans (hb5.mono HB4.out.size)
            have hd2 := (hb6.cell (p := ⟨b1, off + kk * 4 + 2, none⟩) hbl).trans HC2.out
            have hd3 := (hb6.cell (p := ⟨b1, off + kk * 4 + 3, none⟩) hbl).trans HC3.out
            have hB5 := HBr.out.later hb6 hlo
            clear x2 hd1
            have x2 := hB5.at_ 2 _ rfl
            have HB6 := Lib.hid hb6
            clear hb6
            clear hb5 hB5
            go_wp2_with fail
            refine (HS4.out _ HB6.out).mono ?_
            rintro e W7 ⟨rfl, hb7⟩
            have HB8 := Lib.hid (HB6.out.trans (hb7.mono HB6.out.size))
            clear hb7
            go_wp2_with fail
            go_roundg (r.imports.length - (kk + 1))
            case measure => omega
            case rel => exact ⟨kk + 1, by omega, by omega, by go_num, by rw [HSU3.out], aside (BW.out.trans (HB8.out.mono BW.out.size))⟩
          | false =>
            have hsu := HSU.out
            rw [hth] at hd1 hsu
            simp only [Bool.false_eq_true, if_false] at hsu
            have hn3 : (txt (encNum 0)).size ≤ 1 := by rw [txt_size]; exact Nat.le_refl _
            have hs3 := one_0
            generalize txt (encNum 0) = n3 at hn3 hs3 hsu
            have HSU3 := Lib.hid hsu; have HS3 := Lib.hid hs3; have HTH := Lib.hid hth
            clear hsu hs3 hth
            go_wp2_with fail
            refine (HS3.out _).mono ?_
            rintro e W5 ⟨rfl, hb5⟩
            have hb6 := HB4.out.trans (hb5.mono HB4.out.size)
            have hd2 := (hb6.cell (p := ⟨b1, off + kk * 4 + 2, none⟩) hbl).trans HC2.out
            have hd3 := (hb6.cell (p := ⟨b1, off + kk * 4 + 3, none⟩) hbl).trans HC3.out
            have hB5 := HBr.out.later hb6 hlo
            clear x2 hd1
            have x2 := hB5.at_ 2 _ rfl
            have HB6 := Lib.hid hb6
            clear hb6
            clear hb5 hB5
            go_wp2_with fail
            refine (HS4.out _ HB6.out).mono ?_
            rintro e W7 ⟨rfl, hb7⟩
            have HB8 := Lib.hid (HB6.out.trans (hb7.mono HB6.out.size))
            clear hb7
            go_wp2_with fail
            go_roundg (r.imports.length - (kk + 1))
            case measure => omega
            case rel => exact ⟨kk + 1, by omega, by omega, by go_num, by rw [HSU3.out], aside (BW.out.trans (HB8.out.mono BW.out.size))⟩
        · have hltz : ¬ (kk : Int) < (r.imports.length : Int) := by omega
          obtain rfl : kk = r.imports.length := by omega
          rw [List.take_length]
          obtain ⟨V, rfl⟩ : ∃ V, V = wr := ⟨_, rfl⟩
          have hs0 : (txt (l3 ++ r.imports.flatMap encImport)).size ≤ 5000000 := by
            have := HZ4.out r.imports.length
            rw [List.take_length] at this
            rw [txt_size] at hl3 ⊢; rw [List.length_append]; omega
          have hn4 : (txt (encFace r.face)).size ≤ 150000 := by rw [txt_size]; exact HZ7.out
          have hn5 : (txt (encNum r.diags.length)).size ≤ 1 := by rw [txt_size]; exact Nat.le_refl _
          have hs4 := fun U (hU : Below w.heap.size w U) => faceBytes_any r.face _ F U (foot_up HF.out hU) (FaceR.stays.later HFA.out hU HF.out) HP5.out
          have hs5 := fun W => one_any r.diags.length W
          have hsu : txt (l3 ++ r.imports.flatMap encImport) ++ txt (encFace r.face) ++ txt (encNum r.diags.length) = txt (l3 ++ r.imports.flatMap encImport ++ encFace r.face ++ encNum r.diags.length) := by rw [txt_app, txt_app]
          generalize txt (encFace r.face) = n4 at hn4 hs4 hsu
          generalize txt (encNum r.diags.length) = n5 at hn5 hs5 hsu
          obtain ⟨l4, hl4e⟩ : ∃ l, l3 ++ r.imports.flatMap encImport = l := ⟨_, rfl⟩
          rw [hl4e] at hs0 hsu ⊢
          obtain ⟨S, hS⟩ : ∃ S, txt l4 = S := ⟨_, rfl⟩
          rw [hS] at hs0 hsu ⊢
          have q1 : ¬ 9223372036854775807 < S.size + n4.size := by omega
          have q2 : ¬ 9223372036854775807 < S.size + n4.size + n5.size := by omega
          have hdr : Below V.heap.size V V.drew := by go_grown
          clear x2 BW
          have x2 := hBr.at_ 2 _ rfl
          have x3 := hBr.at_ 3 _ rfl
          have x4 := hBr.at_ 4 _ rfl
          have x5 := hBr.at_ 5 _ rfl
          have HX3 := Lib.hid x3; have HX4 := Lib.hid x4; have HX5 := Lib.hid x5; have HLO := Lib.hid hlo
          have HS4 := Lib.hid hs4; have HS5 := Lib.hid hs5; have HBk := Lib.hid hdr; have HSU2 := Lib.hid hsu; have HBV := Lib.hid hbw; have HBr := Lib.hid hBr; have HL4E := Lib.hid hl4e; have HSe := Lib.hid hS
          clear hs4 hs5 hdr hsu hbw hBr hl4e hS
          go_upto_region 13 with fail
          go_cut [5] (fun s5 wc => s5 = .string (S ++ n4 ++ n5) ∧ Aside (Below V.heap.size V wc))
          case first =>
            clear x2
            go_region_held3 (fun w' => w'.cell? ⟨w.heap.size, 3, none⟩ = some (.slice T1 r.face.types.length e1) ∧ w'.cell? ⟨w.heap.size, 4, none⟩ = some (.slice T2 r.face.funcs.length e2) ∧ w'.cell? ⟨w.heap.size, 5, none⟩ = some (.slice D1 r.diags.length d1))
              (exact ⟨(HBk.out.cell (p := ⟨w.heap.size, 3, none⟩) HLO.out).trans HX3.out, (HBk.out.cell (p := ⟨w.heap.size, 4, none⟩) HLO.out).trans HX4.out, (HBk.out.cell (p := ⟨w.heap.size, 5, none⟩) HLO.out).trans HX5.out⟩)
              (first
                | (go_at_call 152; with_reducible refine (HS4.out _ ?_).mono ?_; (exact HBV.out.trans (HBk.out.mono HBV.out.size)); rintro e w7 ⟨rfl, hb7⟩; have hb8 := HBk.out.trans (hb7.mono HBk.out.size); have HBk := Lib.hid hb8; clear hb7 hb8)
                | (go_at_call 151; with_reducible refine (HS5.out _).mono ?_; rintro e w7 ⟨rfl, hb7⟩; have hb8 := HBk.out.trans (hb7.mono HBk.out.size); have HBk := Lib.hid hb8; clear hb7 hb8))
            all_goals (go_wp2_with fail; go_meet; exact ⟨rfl, aside HBk.out⟩)
          case rest =>
            obtain ⟨rfl, hb9⟩ := hcut
            obtain ⟨V2, rfl⟩ : ∃ W, W = wc := ⟨_, rfl⟩
            have hBv := HBr.out.later hb9.out HLO.out
            have hbv := HBV.out.trans (hb9.out.mono HBV.out.size)
            clear x2 x3 x4 x5 q1 q2 hlo
            rw [HSU2.out]
            have hl5 : (txt (l4 ++ encFace r.face ++ encNum r.diags.length)).size ≤ 6000000 := by rw [← HSU2.out, ba_app_size, ba_app_size]; omega
            obtain ⟨l5, hl5e⟩ : ∃ l, l4 ++ encFace r.face ++ encNum r.diags.length = l := ⟨_, rfl⟩
            rw [hl5e] at hl5 ⊢
            have HBv := Lib.hid hBv; have HBVv := Lib.hid hbv; have HL5E := Lib.hid hl5e
            clear hBv hbv hl5e
            clear hb9
            go_wp2_with fail
            go_loopg [5, 7] r.diags.length (fun gg s5 s7 wr => ∃ kk : Nat, kk ≤ r.diags.length ∧ r.diags.length - kk ≤ gg ∧ s7 = .int .i64 kk ∧ s5 = .string (txt (l5 ++ (r.diags.take kk).flatMap encDiag)) ∧ Aside (Below V2.heap.size V2 wr))
            case atStart => exact ⟨0, Nat.zero_le _, by omega, rfl, by simp, aside (Below.refl _ _)⟩
            case round =>
              obtain ⟨kk, hkk, hg, rfl, rfl, BW⟩ := hrel
              have hBr := HBv.out.later BW.out HBv.out.lt
              have hbw := HBVv.out.trans (BW.out.mono HBVv.out.size)
              have hlo := hBr.lt
              have x5 := hBr.at_ 5 _ rfl
              by_cases hlt : kk < r.diags.length
              · have hltz : (kk : Int) < (r.diags.length : Int) := by omega
                obtain ⟨b1, off, cs, rfl, hbF, hcs, ⟨rfl, hn, hco⟩, hcell⟩ := (HDI.out.up DiagR.stays HF.out hbw).at_ hlt
                have hc0 := hcell 0 _ rfl
                have hc1 := hcell 1 _ rfl
                simp only [Nat.add_zero] at hc0
                have hx := List.getElem?_eq_getElem hlt
                generalize r.diags[kk] = x at *
                have hbl := foot_up HF.out hbw _ hbF
                have hdb := HP6.out x (List.mem_of_getElem? hx)
                have hdl := encDiag_len hdb
                have hcd : x.code = ((x.code.toNat : Nat) : Int) := by
                  unfold diagBad at hdb
                  simp at hdb
                  omega
                obtain ⟨cn, hcn⟩ : ∃ n, x.code.toNat = n := ⟨_, rfl⟩
                rw [hcn] at hcd
                rw [hcd] at hc1
                have hs0 : (txt (l5 ++ (r.diags.take kk).flatMap encDiag)).size ≤ 7000000 := by
                  have := HZ6.out kk; rw [txt_size] at hl5 ⊢; rw [List.length_append]; omega
                have hn1 : (txt (encStr x.where_)).size ≤ 20 := by
                  rw [encDiag, List.length_append] at hdl
                  rw [txt_size]; omega
                have hn2 : (txt (encNum cn)).size ≤ 1 := by rw [txt_size]; exact Nat.le_refl _
                have hs1 := fun W => sized_any x.where_ W hn
                have hs2 := fun W => one_any cn W
                have hsu : txt (l5 ++ (r.diags.take kk).flatMap encDiag) ++ txt (encStr x.where_) ++ txt (encNum cn) = txt (l5 ++ (r.diags.take (kk + 1)).flatMap encDiag) := by
                  rw [flatMap_succ hx, txt_app, txt_app]; simp only [encDiag, hcn, List.append_assoc]
                generalize txt (encStr x.where_) = n1 at hn1 hs1 hsu
                generalize txt (encNum cn) = n2 at hn2 hs2 hsu
                obtain ⟨S, hS⟩ : ∃ S, txt (l5 ++ (r.diags.take kk).flatMap encDiag) = S := ⟨_, rfl⟩
                rw [hS] at hs0 hsu ⊢
                have q1 : ¬ 9223372036854775807 < S.size + n1.size := by omega
                have q2 : ¬ 9223372036854775807 < S.size + n1.size + n2.size := by omega
                have hdr : Below wr.heap.size wr wr.drew := by go_grown
                have HX5 := Lib.hid x5; have HC0 := Lib.hid hc0; have HC1 := Lib.hid hc1; have HXl := Lib.hid hlo; have HCl := Lib.hid hbl
                have HS1 := Lib.hid hs1; have HS2 := Lib.hid hs2; have HBk := Lib.hid hdr; have HSU3 := Lib.hid hsu; have HBR := Lib.hid hbw
                clear hs1 hs2 hdr hsu hbw
                clear hcell hcs hS hx hdb hdl hcd hcn hco hBr
                go_upto_region 17 with fail
                go_region_held3 (fun w' => w'.cell? ⟨w.heap.size, 5, none⟩ = some (.slice (some ⟨b1, off, none⟩) r.diags.length d1) ∧ w'.cell? ⟨b1, off + kk * 2, none⟩ = some (.string x.where_) ∧ w'.cell? ⟨b1, off + kk * 2 + 1, none⟩ = some (.int .i64 cn))
                  (exact ⟨(HBk.out.cell (p := ⟨w.heap.size, 5, none⟩) HXl.out).trans HX5.out, (HBk.out.cell (p := ⟨b1, off + kk * 2, none⟩) HCl.out).trans HC0.out, (HBk.out.cell (p := ⟨b1, off + kk * 2 + 1, none⟩) HCl.out).trans HC1.out⟩)
                  (first
                    | (go_at_call 150; with_reducible refine (HS1.out _).mono ?_; rintro e w7 ⟨rfl, hb7⟩; have hb8 := HBk.out.trans (hb7.mono HBk.out.size); have HBk := Lib.hid hb8; clear hb7 hb8)
                    | (go_at_call 151; with_reducible refine (HS2.out _).mono ?_; rintro e w7 ⟨rfl, hb7⟩; have hb8 := HBk.out.trans (hb7.mono HBk.out.size); have HBk := Lib.hid hb8; clear hb7 hb8))
                all_goals
                  go_wp2_with fail
                  go_roundg (r.diags.length - (kk + 1))
                  case measure => omega
                  case rel => exact ⟨kk + 1, by omega, by omega, by go_num, by rw [HSU3.out], aside (BW.out.trans (HBk.out.mono BW.out.size))⟩
              · have hltz : ¬ (kk : Int) < (r.diags.length : Int) := by omega
                obtain rfl : kk = r.diags.length := by omega
                rw [List.take_length]
                have hfin : txt (l5 ++ r.diags.flatMap encDiag) = txt (encRecord r) := by
                  rw [← HL5E.out, ← HL4E.out, ← HL3E.out]; simp only [encRecord, List.append_assoc]
                rw [hfin]
                go_wp2_with fail
                go_ret2
                exact ⟨rfl, hbw⟩
  · have h0n : (E != 0) = true := by simp [h0]
    rw [if_neg h0]
    go_enter Try.func89, Try.ntmps89
    go_upto_region 1 with fail
    have hBa := Box.made w 40 #[.string r.name, .string r.source, .slice I1 r.imports.length i1, .slice T1 r.face.types.length e1, .slice T2 r.face.funcs.length e2, .slice D1 r.diags.length d1]
    have hba : Below w.heap.size w (w.alloc (.cells #[.string r.name, .string r.source, .slice I1 r.imports.length i1, .slice T1 r.face.types.length e1, .slice T2 r.face.funcs.length e2, .slice D1 r.diags.length d1] 40)) := by go_grown
    have hza : (w.alloc (.cells #[.string r.name, .string r.source, .slice I1 r.imports.length i1, .slice T1 r.face.types.length e1, .slice T2 r.face.funcs.length e2, .slice D1 r.diags.length d1] 40)).heap.size = w.heap.size + 1 := by simp
    generalize w.alloc (.cells #[.string r.name, .string r.source, .slice I1 r.imports.length i1, .slice T1 r.face.types.length e1, .slice T2 r.face.funcs.length e2, .slice D1 r.diags.length d1] 40) = W1 at hBa hba hza ⊢
    have x0 := hBa.at_ 0 _ rfl
    have x1 := hBa.at_ 1 _ rfl
    have x2 := hBa.at_ 2 _ rfl
    have x3 := hBa.at_ 3 _ rfl
    have x4 := hBa.at_ 4 _ rfl
    have x5 := hBa.at_ 5 _ rfl
    go_wp2_with fail
    refine (HC.out _ hba).mono ?_
    rintro e W2 ⟨rfl, hb2⟩
    have hbw := hba.trans (hb2.mono hba.size)
    have HBW := Lib.hid hbw
    clear hbw
    clear hBa hba hza hb2 x0 x1 x2 x3 x4 x5
    go_wp2_with fail
    go_ret2
    exact ⟨rfl, HBW.out⟩

end Go.Proofs.Ytamkgphamffdcaa
