/- Records as bytes: record.Encode. -/
import Derived.Test.YtejiaimcgmpliaaWriteFace
import Derived.Laws.IdiomStrings
namespace Go.Proofs.Ytejiaimcgmpliaa
open Go.RowKit Go.Shelf

theorem ImportR.all {w : World} {F : Foot} {cs : List Value} {x : Import} (h : ImportR w F cs x) : ∃ T1 e1 T2 e2, cs = [.string x.name, .bool x.there, .slice T1 x.face.types.length e1, .slice T2 x.face.funcs.length e2] ∧ okS x.name ∧ FaceR w F [.slice T1 x.face.types.length e1, .slice T2 x.face.funcs.length e2] x.face := by
  obtain ⟨tv, fv, rfl, h1, h2⟩ := h
  obtain ⟨T1, e1, T2, e2, h3⟩ := h2.form
  simp only [List.cons.injEq, and_true] at h3
  obtain ⟨rfl, rfl⟩ := h3
  exact ⟨_, _, _, _, rfl, h1, h2⟩
theorem RecordR.all {w : World} {F : Foot} {cs : List Value} {r : Record} (h : RecordR w F cs r) : ∃ I1 i1 T1 e1 T2 e2 D1 d1, cs = [.string r.name, .string r.source, .slice I1 r.imports.length i1, .slice T1 r.face.types.length e1, .slice T2 r.face.funcs.length e2, .slice D1 r.diags.length d1] ∧
    SliceOf ImportR 4 72 w F (.slice I1 r.imports.length i1) r.imports ∧ FaceR w F [.slice T1 r.face.types.length e1, .slice T2 r.face.funcs.length e2] r.face ∧ SliceOf DiagR 2 24 w F (.slice D1 r.diags.length d1) r.diags := by
  obtain ⟨iv, tv, fv, dv, rfl, _, _, h1, h2, h3⟩ := h
  obtain ⟨T1, e1, T2, e2, h4⟩ := h2.form
  simp only [List.cons.injEq, and_true] at h4
  obtain ⟨rfl, rfl⟩ := h4
  obtain ⟨I1, i1, rfl, _⟩ := h1.form
  obtain ⟨D1, d1, rfl, _⟩ := h3.form
  exact ⟨_, _, _, _, _, _, _, _, rfl, h1, h2, h3⟩

/-- What a writer holds, as a text. -/
theorem wr_string {base b : Nat} {l : List UInt8} {w : World} (h : Wr base b l w) (hl : l ≠ []) : ∃ g c, Box w b 142 #[.slice (some ⟨g, 0, none⟩) l.length c] ∧
    (convert 110 9 (.slice (some ⟨g, 0, none⟩) l.length c)).run Try.prog w = .ok (.string (txt l)) w := by
  obtain ⟨_, v, hbk, hown⟩ := h
  rcases hown.2 with ⟨_, h0⟩ | ⟨g, cap, cur, rfl, _, hh, _, _, _, hxs⟩
  · exact absurd (List.length_eq_zero_iff.1 h0) hl
  · refine ⟨g, cap, hbk, run_convert_bytes_back w 110 9 5 ⟨g, 0, none⟩ cap l Try.underlying110 Try.underlying5 Try.underlying9 (fun j hj => ?_)⟩
    rw [Addr.add_lit, Nat.zero_add]
    have h1 : (cur.toList.take (l.length * 1))[j]? = some (.int .u8 (l[j].toNat : Int)) := by
      rw [hxs]; simp [Lib.byteCells, hj]
    rw [List.getElem?_take] at h1
    split at h1
    · simp only [World.cell?, hh]
      simpa using h1
    · cases h1

theorem wcount_1 (base b : Nat) (l : List UInt8) (w : World) (h : Wr base b l w) (hbase : base ≤ w.heap.size) (hlen : l.length + 1 ≤ 140737488355328) :
    Calls Try.prog 79 #[.pointer (some ⟨b, 0, none⟩), .int .i64 1] w fun e w' => e = .returned (.tuple #[]) ∧ Wrote base b w w' (l ++ encNum 1) := wcount_any base b l 1 w h hbase hlen
theorem wcount_0 (base b : Nat) (l : List UInt8) (w : World) (h : Wr base b l w) (hbase : base ≤ w.heap.size) (hlen : l.length + 1 ≤ 140737488355328) :
    Calls Try.prog 79 #[.pointer (some ⟨b, 0, none⟩), .int .i64 0] w fun e w' => e = .returned (.tuple #[]) ∧ Wrote base b w w' (l ++ encNum 0) := wcount_any base b l 0 w h hbase hlen

set_option maxHeartbeats 4000000 in
set_option maxRecDepth 100000 in
theorem encode_any (r : Record) (cs : List Value) (F : Foot) (w : World) (hF : ∀ k, F k → k < w.heap.size) (hr : RecordR w F cs r) :
    Calls Try.prog 33 #[.agg cs.toArray] w fun e w' => e = .returned (.tuple #[.string (recBytes r), .int .i64 (recErr r)]) ∧ Below w.heap.size w w' := by
  have hc := fun U (hU : Below w.heap.size w U) => recordCheck_any r cs F U (foot_up hF hU) (RecordR.stays.later hr hU hF)
  obtain ⟨I1, i1, T1, e1, T2, e2, D1, d1, rfl, him, hfa, hdi⟩ := RecordR.all hr
  clear hr
  unfold recBytes
  obtain ⟨E, hE⟩ : ∃ E, recErr r = E := ⟨_, rfl⟩
  rw [hE] at hc ⊢
  have HC := Lib.hid hc; have HIM := Lib.hid him; have HFA := Lib.hid hfa; have HDI := Lib.hid hdi; have HF := Lib.hid hF
  clear hc him hfa hdi hF
  by_cases h0 : E = 0
  · subst h0
    rw [if_pos rfl]
    obtain ⟨hp1, hp2, hp3, hp4, hp5, hp6⟩ := rec_parts hE
    have hz1 := nameOk_size hp1
    have hz4 := fun k => encImports_len hp4 k
    have hz5 := (imports_good hp4).2
    have hil := (imports_good hp4).1
    have hz6 := fun k => encDiags_len hE k
    have hz7 := encFace_len hp5
    have HE := Lib.hid hE; have HZ4 := Lib.hid hz4; have HZ5 := Lib.hid hz5; have HZ6 := Lib.hid hz6; have HP5 := Lib.hid hp5; have HP6 := Lib.hid hp6; have HZ7 := Lib.hid hz7
    clear hE hz4 hz5 hz6 hp5 hp6 hz7
    clear hp1 hp4
    go_enter Try.func33, Try.ntmps33
    go_upto_region 1 with fail
    have hBa := Box.made w 66 #[.string r.name, .string r.source, .slice I1 r.imports.length i1, .slice T1 r.face.types.length e1, .slice T2 r.face.funcs.length e2, .slice D1 r.diags.length d1]
    have hba : Below w.heap.size w (w.alloc (.cells #[.string r.name, .string r.source, .slice I1 r.imports.length i1, .slice T1 r.face.types.length e1, .slice T2 r.face.funcs.length e2, .slice D1 r.diags.length d1] 66)) := by go_grown
    have hza : (w.alloc (.cells #[.string r.name, .string r.source, .slice I1 r.imports.length i1, .slice T1 r.face.types.length e1, .slice T2 r.face.funcs.length e2, .slice D1 r.diags.length d1] 66)).heap.size = w.heap.size + 1 := by simp
    generalize w.alloc (.cells #[.string r.name, .string r.source, .slice I1 r.imports.length i1, .slice T1 r.face.types.length e1, .slice T2 r.face.funcs.length e2, .slice D1 r.diags.length d1] 66) = W1 at hBa hba hza ⊢
    have x0 := hBa.at_ 0 _ rfl
    have x1 := hBa.at_ 1 _ rfl
    have x2 := hBa.at_ 2 _ rfl
    have x3 := hBa.at_ 3 _ rfl
    have x4 := hBa.at_ 4 _ rfl
    have x5 := hBa.at_ 5 _ rfl
    go_wp2_with fail
    refine (HC.out _ hba).mono ?_
    rintro e W2 ⟨rfl, hb2⟩
    have hB2 := hBa.later hb2 hBa.lt
    have hbw := hba.trans (hb2.mono hba.size)
    have hnb : w.heap.size ≠ W2.heap.size := by have := hB2.lt; omega
    clear x0 x1 x2 x3 x4 x5
    have HB2 := Lib.hid hB2; have HBW := Lib.hid hbw; have HNB := Lib.hid hnb
    clear hB2 hbw hnb
    clear hBa hba hza hb2
    go_upto_region 5 with fail
    have hBb := Box.made W2 142 #[.slice none 0 0]
    have hbb : Below W2.heap.size W2 (W2.alloc (.cells #[.slice none 0 0] 142)) := by go_grown
    have hzb : (W2.alloc (.cells #[.slice none 0 0] 142)).heap.size = W2.heap.size + 1 := by simp
    generalize W2.alloc (.cells #[.slice none 0 0] 142) = W3 at hBb hbb hzb ⊢
    have hwr : Wr W2.heap.size W2.heap.size [] W3 := ⟨Nat.le_refl _, .slice none 0 0, hBb, World.ownsRow_nil _ _ _ _⟩
    have hB3 := HB2.out.later hbb HB2.out.lt
    have hbw3 := HBW.out.trans (hbb.mono HBW.out.size)
    have x0 := hB3.at_ 0 _ rfl
    have hs3 : W2.heap.size ≤ W3.heap.size := hbb.size
    have HWR := Lib.hid hwr; have HB3 := Lib.hid hB3; have HBW3 := Lib.hid hbw3; have HS3 := Lib.hid hs3
    clear hwr hB3 hbw3 hs3
    clear hBb hbb hzb
    go_wp2_with fail
    refine (wtext_any _ _ [] r.name W3 HWR.out HS3.out (by simp; omega)).mono ?_
    rintro e W4 ⟨rfl, hw4⟩
    have hB4 := hw4.box HB3.out HNB.out (by decide)
    clear x0
    have x1 := hB4.at_ 1 _ rfl
    rw [List.nil_append] at hw4
    have HW4 := Lib.hid hw4; have HB4 := Lib.hid hB4
    clear hw4 hB4
    go_wp2_with fail
    refine (wtext_any _ _ _ r.source W4 HW4.out.wr (Nat.le_trans HS3.out HW4.out.bl.size) (by rw [encStr_len]; omega)).mono ?_
    rintro e W5 ⟨rfl, hw5⟩
    have hB5 := hw5.box HB4.out HNB.out (by decide)
    have hW5 := HW4.out.trans hw5
    clear x1 hw5
    have x2 := hB5.at_ 2 _ rfl
    have HW5 := Lib.hid hW5; have HB5 := Lib.hid hB5
    clear hW5 hB5
    go_wp2_with fail
    refine (wcount_any _ _ _ r.imports.length W5 HW5.out.wr (Nat.le_trans HS3.out HW5.out.bl.size) (by rw [List.length_append, encStr_len, encStr_len]; omega)).mono ?_
    rintro e W6 ⟨rfl, hw6⟩
    have hB6 := hw6.box HB5.out HNB.out (by decide)
    have hW6 := HW5.out.trans hw6
    have hl3n : (encStr r.name ++ encStr r.source ++ encNum r.imports.length).length ≤ 2000 := by
      rw [List.length_append, List.length_append, encStr_len, encStr_len, encNum, List.length_singleton]; omega
    obtain ⟨l3, hl3⟩ : ∃ l, encStr r.name ++ encStr r.source ++ encNum r.imports.length = l := ⟨_, rfl⟩
    rw [hl3] at hW6 hl3n
    clear x2 hw6
    have x2 := hB6.at_ 2 _ rfl
    have HW6 := Lib.hid hW6; have HB6 := Lib.hid hB6; have HL3 := Lib.hid hl3; have HL3N := Lib.hid hl3n
    clear hW6 hB6 hl3 hl3n
    go_wp2_with fail
    go_loopg [8, 34] r.imports.length (fun gg _ s34 wr => ∃ kk : Nat, kk ≤ r.imports.length ∧ r.imports.length - kk ≤ gg ∧ s34 = .int .i64 kk ∧ Aside (Wrote W2.heap.size W2.heap.size W6 wr (l3 ++ (r.imports.take kk).flatMap encImport)))
    case atStart => exact ⟨0, Nat.zero_le _, by omega, rfl, aside ((Wrote.start HW6.out.wr).same (by simp))⟩
    case round =>
      obtain ⟨kk, hkk, hg, rfl, BW⟩ := hrel
      have hbw := HBW3.out.trans (((HW6.out.bl.trans BW.out.bl)).mono HBW.out.size)
      have hbs := Nat.le_trans HS3.out (HW6.out.bl.trans BW.out.bl).size
      by_cases hlt : kk < r.imports.length
      · have hltz : (kk : Int) < (r.imports.length : Int) := by omega
        obtain ⟨b1, off, cs, rfl, hbF, hcs, hx1, hcell⟩ := (HIM.out.up ImportR.stays HF.out hbw).at_ hlt
        obtain ⟨P1, p1, P2, p2, rfl, hn, hfx⟩ := ImportR.all hx1
        have hc0 := hcell 0 _ rfl
        have hc1 := hcell 1 _ rfl
        have hc2 := hcell 2 _ rfl
        have hc3 := hcell 3 _ rfl
        simp only [Nat.add_zero] at hc0
        have hx := List.getElem?_eq_getElem hlt
        generalize r.imports[kk] = x at *
        have hbl := foot_up HF.out hbw _ hbF
        obtain ⟨hg1, hg2⟩ := import_face (HZ5.out x (List.mem_of_getElem? hx))
        have hz1 := nameOk_size hg1
        have hl4 : (l3 ++ (r.imports.take kk).flatMap encImport).length + 300000 ≤ 140737488355328 := by
          have := HZ4.out kk; have := HL3N.out
          rw [List.length_append]; omega
        have hnf : wr.heap.size ≠ W2.heap.size := by have := BW.out.wr.lt; omega
        have hFb : ∀ k, F k → k < W2.heap.size := fun k hk => Nat.lt_of_lt_of_le (HF.out k hk) HBW.out.size
        have HX := Lib.hid hx; have HL4 := Lib.hid hl4; have HBS := Lib.hid hbs; have HNF := Lib.hid hnf; have HBR := Lib.hid hbw; have HFX := Lib.hid hfx; have HG2 := Lib.hid hg2; have HFB := Lib.hid hFb
        clear hx hl4 hbs hnf hbw hfx hg2 hFb
        clear hcell hcs x2 hg1
        go_upto_region 11 with fail
        have hBf := Box.made wr 125 #[.string x.name, .bool x.there, .slice P1 x.face.types.length p1, .slice P2 x.face.funcs.length p2]
        have hbf : Below wr.heap.size wr (wr.alloc (.cells #[.string x.name, .bool x.there, .slice P1 x.face.types.length p1, .slice P2 x.face.funcs.length p2] 125)) := by go_grown
        have hzf : (wr.alloc (.cells #[.string x.name, .bool x.there, .slice P1 x.face.types.length p1, .slice P2 x.face.funcs.length p2] 125)).heap.size = wr.heap.size + 1 := by simp
        generalize wr.alloc (.cells #[.string x.name, .bool x.there, .slice P1 x.face.types.length p1, .slice P2 x.face.funcs.length p2] 125) = W7 at hBf hbf hzf ⊢
        have n0 := hBf.at_ 0 _ rfl
        have hw7 := (Wrote.start BW.out.wr).up hbf HBS.out
        obtain ⟨l4, hl4e⟩ : ∃ l, l3 ++ (r.imports.take kk).flatMap encImport = l := ⟨_, rfl⟩
        have hl5 := HL4.out
        rw [hl4e] at hw7 hl5
        have HW7 := Lib.hid hw7; have HBf := Lib.hid hBf; have HL5 := Lib.hid hl5; have HL4E := Lib.hid hl4e
        clear hw7 hBf hl5 hl4e
        clear hbf hzf hc0 hc1 hc2 hc3
        go_wp2_with fail
        refine (wtext_any _ _ _ x.name W7 HW7.out.wr (Nat.le_trans HBS.out HW7.out.bl.size) (by have := HL5.out; omega)).mono ?_
        rintro e W8 ⟨rfl, hw8⟩
        have hB8 := hw8.box HBf.out HNF.out (by decide)
        have hW8 := HW7.out.trans hw8
        have hl8 : (l4 ++ encStr x.name).length + 200000 ≤ 140737488355328 := by have := HL5.out; rw [List.length_append, encStr_len]; omega
        clear n0 hw8
        have n1 := hB8.at_ 1 _ rfl
        have HW8 := Lib.hid hW8; have HB8 := Lib.hid hB8; have HL8 := Lib.hid hl8
        clear hW8 hB8 hl8
        cases hth : x.there with
        | true =>
          rw [hth] at n1
          go_wp2_with fail
          refine (wcount_1 _ _ _ W8 HW8.out.wr (Nat.le_trans HBS.out HW8.out.bl.size) (by have := HL8.out; omega)).mono ?_
          rintro e W9 ⟨rfl, hw9⟩
          have hB9 := hw9.box HB8.out HNF.out (by decide)
          have hW9 := HW8.out.trans hw9
          have hfx := FaceR.stays.later (FaceR.stays.wider HFX.out HFB.out) hW9.bl (fun _ h => h)
          clear n1 hw9
          have n2 := hB9.at_ 2 _ rfl
          have n3 := hB9.at_ 3 _ rfl
          have HW9 := Lib.hid hW9; have HFX9 := Lib.hid hfx; have HTH := Lib.hid hth
          clear hW9 hfx hth
          clear hB9
          go_wp2_with fail
          refine (wface_any _ _ _ x.face _ _ W9 HW9.out.wr (Nat.le_trans HBS.out HW9.out.bl.size) (fun _ h => h) HFX9.out HG2.out (by have := HL8.out; simp only [List.length_append, encNum, List.length_cons, List.length_nil] at this ⊢; omega)).mono ?_
          rintro e W10 ⟨rfl, hw10⟩
          have HW10 := Lib.hid (BW.out.trans (HW9.out.trans hw10))
          clear hw10
          go_wp2_with fail
          go_roundg (r.imports.length - (kk + 1))
          case measure => omega
          case rel => exact ⟨kk + 1, by omega, by omega, by go_num, aside (HW10.out.same (by rw [flatMap_succ HX.out, ← HL4E.out]; simp only [encImport, HTH.out, if_true, List.append_assoc]))⟩
        | false =>
          rw [hth] at n1
          go_wp2_with fail
          refine (wcount_0 _ _ _ W8 HW8.out.wr (Nat.le_trans HBS.out HW8.out.bl.size) (by have := HL8.out; omega)).mono ?_
          rintro e W9 ⟨rfl, hw9⟩
          have hB9 := hw9.box HB8.out HNF.out (by decide)
          have hW9 := HW8.out.trans hw9
          have hfx := FaceR.stays.later (FaceR.stays.wider HFX.out HFB.out) hW9.bl (fun _ h => h)
          clear n1 hw9
          have n2 := hB9.at_ 2 _ rfl
          have n3 := hB9.at_ 3 _ rfl
          have HW9 := Lib.hid hW9; have HFX9 := Lib.hid hfx; have HTH := Lib.hid hth
          clear hW9 hfx hth
          clear hB9
          go_wp2_with fail
          refine (wface_any _ _ _ x.face _ _ W9 HW9.out.wr (Nat.le_trans HBS.out HW9.out.bl.size) (fun _ h => h) HFX9.out HG2.out (by have := HL8.out; simp only [List.length_append, encNum, List.length_cons, List.length_nil] at this ⊢; omega)).mono ?_
          rintro e W10 ⟨rfl, hw10⟩
          have HW10 := Lib.hid (BW.out.trans (HW9.out.trans hw10))
          clear hw10
          go_wp2_with fail
          go_roundg (r.imports.length - (kk + 1))
          case measure => omega
          case rel => exact ⟨kk + 1, by omega, by omega, by go_num, aside (HW10.out.same (by rw [flatMap_succ HX.out, ← HL4E.out]; simp only [encImport, HTH.out, Bool.false_eq_true, if_false, List.append_assoc]))⟩
      · have hltz : ¬ (kk : Int) < (r.imports.length : Int) := by omega
        obtain rfl : kk = r.imports.length := by omega
        have hw7 := BW.out
        rw [List.take_length] at hw7
        obtain ⟨l4, hl4e⟩ : ∃ l, l3 ++ r.imports.flatMap encImport = l := ⟨_, rfl⟩
        rw [hl4e] at hw7
        have hl4 : l4.length ≤ 4000000 := by
          have h1 := HZ4.out r.imports.length; have := HL3N.out
          rw [List.take_length] at h1
          rw [← hl4e, List.length_append]; omega
        obtain ⟨V, rfl⟩ : ∃ W, W = wr := ⟨_, rfl⟩
        have hBv := BW.out.box HB6.out HNB.out (by decide)
        have hWv := HW6.out.trans hw7
        have hFb : ∀ k, F k → k < W2.heap.size := fun k hk => Nat.lt_of_lt_of_le (HF.out k hk) HBW.out.size
        have hfa := FaceR.stays.later (FaceR.stays.later HFA.out HBW3.out HF.out) hWv.bl hFb
        clear x2 BW
        have x3 := hBv.at_ 3 _ rfl
        have x4 := hBv.at_ 4 _ rfl
        have HWV := Lib.hid hWv; have HL4E := Lib.hid hl4e; have HL4 := Lib.hid hl4; have HBV := Lib.hid hBv; have HBWV := Lib.hid hbw; have HBS := Lib.hid hbs; have HFB := Lib.hid hFb; have HFAV := Lib.hid hfa
        clear hWv hl4e hl4 hBv hbw hbs hFb hfa
        clear hw7
        go_wp2_with fail
        refine (wface_any _ _ _ r.face _ F V HWV.out.wr HBS.out HFB.out HFAV.out HP5.out (by have := HL4.out; omega)).mono ?_
        rintro e V2 ⟨rfl, hw8⟩
        have hBv2 := hw8.box HBV.out HNB.out (by decide)
        have hWv2 := HWV.out.trans hw8
        have hl5 : (l4 ++ encFace r.face).length ≤ 4200000 := by have := HL4.out; have := HZ7.out; rw [List.length_append]; omega
        clear x3 x4 hw8
        have x5 := hBv2.at_ 5 _ rfl
        have HWV2 := Lib.hid hWv2; have HBV2 := Lib.hid hBv2; have HL5 := Lib.hid hl5
        clear hWv2 hBv2 hl5
        go_wp2_with fail
        refine (wcount_any _ _ _ r.diags.length V2 HWV2.out.wr (Nat.le_trans HS3.out HWV2.out.bl.size) (by have := HL5.out; omega)).mono ?_
        rintro e V3 ⟨rfl, hw9⟩
        have hBv3 := hw9.box HBV2.out HNB.out (by decide)
        have hWv3 := HWV2.out.trans hw9
        have hl6 : (l4 ++ encFace r.face ++ encNum r.diags.length).length ≤ 4300000 := by have := HL5.out; rw [List.length_append, encNum, List.length_singleton]; omega
        obtain ⟨l6, hl6e⟩ : ∃ l, l4 ++ encFace r.face ++ encNum r.diags.length = l := ⟨_, rfl⟩
        rw [hl6e] at hWv3 hl6
        clear x5 hw9
        have x5 := hBv3.at_ 5 _ rfl
        have HWV3 := Lib.hid hWv3; have HL6 := Lib.hid hl6; have HL6E := Lib.hid hl6e
        clear hWv3 hl6 hl6e
        clear hBv3
        go_wp2_with fail
        go_loopg [64] r.diags.length (fun gg s64 wr => ∃ kk : Nat, kk ≤ r.diags.length ∧ r.diags.length - kk ≤ gg ∧ s64 = .int .i64 kk ∧ Aside (Wrote W2.heap.size W2.heap.size V3 wr (l6 ++ (r.diags.take kk).flatMap encDiag)))
        case atStart => exact ⟨0, Nat.zero_le _, by omega, rfl, aside ((Wrote.start HWV3.out.wr).same (by simp))⟩
        case round =>
          obtain ⟨kk, hkk, hg, rfl, BW⟩ := hrel
          have hbw := HBW3.out.trans (((HWV3.out.bl.trans BW.out.bl)).mono HBW.out.size)
          have hbs := Nat.le_trans HS3.out (HWV3.out.bl.trans BW.out.bl).size
          by_cases hlt : kk < r.diags.length
          · have hltz : (kk : Int) < (r.diags.length : Int) := by omega
            obtain ⟨b1, off, cs, rfl, hbF, hcs, ⟨rfl, hn, hco⟩, hcell⟩ := (HDI.out.up DiagR.stays HF.out hbw).at_ hlt
            have hc0 := hcell 0 _ rfl
            have hc1 := hcell 1 _ rfl
            simp only [Nat.add_zero] at hc0
            have hx := List.getElem?_eq_getElem hlt
            generalize r.diags[kk] = x at *
            have hbl := foot_up HF.out hbw _ hbF
            have hdb := HP6.out x (List.mem_of_getElem? hx)
            have hdl := encDiag_len hdb
            have hcd : x.code = ((x.code.toNat : Nat) : Int) := by
              unfold diagBad at hdb
              simp at hdb
              omega
            obtain ⟨cn, hcn⟩ : ∃ n, x.code.toNat = n := ⟨_, rfl⟩
            rw [hcn] at hcd
            rw [hcd] at hc1
            have HCN := Lib.hid hcn
            clear hcn
            have hds : x.where_.size ≤ 18 := by
              rw [encDiag, List.length_append, encStr_len] at hdl; omega
            have hl7 : (l6 ++ (r.diags.take kk).flatMap encDiag).length + 100 ≤ 140737488355328 := by
              have := HZ6.out kk; have := HL6.out
              rw [List.length_append]; omega
            have hnf : wr.heap.size ≠ W2.heap.size := by have := BW.out.wr.lt; omega
            have HX := Lib.hid hx; have HL7 := Lib.hid hl7; have HBS := Lib.hid hbs; have HNF := Lib.hid hnf; have HBR := Lib.hid hbw
            clear hx hl7 hbs hnf hbw
            clear hcell hcs x5 hdb hdl hcd hco
            go_upto_region 23 with fail
            have hBf := Box.made wr 130 #[.string x.where_, .int .i64 (cn : Int)]
            have hbf : Below wr.heap.size wr (wr.alloc (.cells #[.string x.where_, .int .i64 (cn : Int)] 130)) := by go_grown
            have hzf : (wr.alloc (.cells #[.string x.where_, .int .i64 (cn : Int)] 130)).heap.size = wr.heap.size + 1 := by simp
            generalize wr.alloc (.cells #[.string x.where_, .int .i64 (cn : Int)] 130) = W7 at hBf hbf hzf ⊢
            have n0 := hBf.at_ 0 _ rfl
            have hw7 := (Wrote.start BW.out.wr).up hbf HBS.out
            have HW7 := Lib.hid hw7; have HBf := Lib.hid hBf
            clear hw7 hBf
            clear hbf hzf hc0 hc1
            go_wp2_with fail
            refine (wtext_any _ _ _ x.where_ W7 HW7.out.wr (Nat.le_trans HBS.out HW7.out.bl.size) (by have := HL7.out; omega)).mono ?_
            rintro e W8 ⟨rfl, hw8⟩
            have hB8 := hw8.box HBf.out HNF.out (by decide)
            have hW8 := HW7.out.trans hw8
            clear n0 hw8
            have n1 := hB8.at_ 1 _ rfl
            have HW8 := Lib.hid hW8
            clear hW8
            clear hB8
            go_wp2_with fail
            refine (wcount_any _ _ _ cn W8 HW8.out.wr (Nat.le_trans HBS.out HW8.out.bl.size) (by have := HL7.out; rw [List.length_append, encStr_len]; omega)).mono ?_
            rintro e W9 ⟨rfl, hw9⟩
            have HW9 := Lib.hid (BW.out.trans (HW8.out.trans hw9))
            clear hw9
            go_wp2_with fail
            go_roundg (r.diags.length - (kk + 1))
            case measure => omega
            case rel => exact ⟨kk + 1, by omega, by omega, by go_num, aside (HW9.out.same (by rw [flatMap_succ HX.out]; simp only [encDiag, HCN.out, List.append_assoc]))⟩
          · have hltz : ¬ (kk : Int) < (r.diags.length : Int) := by omega
            obtain rfl : kk = r.diags.length := by omega
            have hw9 := BW.out.wr
            have hle : l6 ++ (r.diags.take r.diags.length).flatMap encDiag = encRecord r := by
              rw [List.take_length, ← HL6E.out, ← HL4E.out, ← HL3.out]; simp only [encRecord, List.append_assoc]
            rw [hle] at hw9
            obtain ⟨g, c, hbx, hcv⟩ := wr_string hw9 (by simp [encRecord, encStr])
            have n0 := hbx.at_ 0 _ rfl
            have HBR := Lib.hid hbw
            clear hbw
            go_wp2_with fail
            go_ret2
            exact ⟨rfl, HBR.out⟩
  · have h0n : (E != 0) = true := by simp [h0]
    rw [if_neg h0]
    go_enter Try.func33, Try.ntmps33
    go_upto_region 1 with fail
    have hBa := Box.made w 66 #[.string r.name, .string r.source, .slice I1 r.imports.length i1, .slice T1 r.face.types.length e1, .slice T2 r.face.funcs.length e2, .slice D1 r.diags.length d1]
    have hba : Below w.heap.size w (w.alloc (.cells #[.string r.name, .string r.source, .slice I1 r.imports.length i1, .slice T1 r.face.types.length e1, .slice T2 r.face.funcs.length e2, .slice D1 r.diags.length d1] 66)) := by go_grown
    have hza : (w.alloc (.cells #[.string r.name, .string r.source, .slice I1 r.imports.length i1, .slice T1 r.face.types.length e1, .slice T2 r.face.funcs.length e2, .slice D1 r.diags.length d1] 66)).heap.size = w.heap.size + 1 := by simp
    generalize w.alloc (.cells #[.string r.name, .string r.source, .slice I1 r.imports.length i1, .slice T1 r.face.types.length e1, .slice T2 r.face.funcs.length e2, .slice D1 r.diags.length d1] 66) = W1 at hBa hba hza ⊢
    have x0 := hBa.at_ 0 _ rfl
    have x1 := hBa.at_ 1 _ rfl
    have x2 := hBa.at_ 2 _ rfl
    have x3 := hBa.at_ 3 _ rfl
    have x4 := hBa.at_ 4 _ rfl
    have x5 := hBa.at_ 5 _ rfl
    go_wp2_with fail
    refine (HC.out _ hba).mono ?_
    rintro e W2 ⟨rfl, hb2⟩
    have hbw := hba.trans (hb2.mono hba.size)
    have HBW := Lib.hid hbw
    clear hbw
    clear hBa hba hza hb2 x0 x1 x2 x3 x4 x5
    go_wp2_with fail
    go_ret2
    exact ⟨rfl, HBW.out⟩

end Go.Proofs.Ytejiaimcgmpliaa
