/- A face that is written: (*record.writer).face. -/
import Derived.Test.YtejiaimcgmpliaaWriter
import Derived.Deep.DeepCutAuto
import Derived.Deep.Light
namespace Go.Proofs.Ytejiaimcgmpliaa
open Go.RowKit Go.Shelf

set_option maxHeartbeats 4000000 in
set_option maxRecDepth 100000 in
theorem wface_any (base b : Nat) (l : List UInt8) (a : Face) (cs : List Value) (F : Foot) (w : World) (h : Wr base b l w) (hbase : base ≤ w.heap.size) (hF : ∀ k, F k → k < base) (ha : FaceR w F cs a) (he : faceErr a = 0) (hlen : l.length + 170000 ≤ 140737488355328) :
    Calls Try.prog 80 #[.pointer (some ⟨b, 0, none⟩), .agg cs.toArray] w fun e w' => e = .returned (.tuple #[]) ∧ Wrote base b w w' (l ++ encFace a) := by
  obtain ⟨tv, fv, rfl, ht, hf⟩ := ha
  obtain ⟨A1, c1, rfl, _, _, hl1, _⟩ := ht.form
  obtain ⟨A3, c3, rfl, _, _, hl3, _⟩ := hf.form
  have hblt := h.lt
  have hnb : w.heap.size ≠ b := by omega
  have hs1 := fun k => encTypes_len he k
  have hs2 := fun k => encFuncs_len he k
  have hs3 := (face_rising he).2.2
  have hs4 := fun k => (show (l ++ encNum k).length = l.length + 1 by simp [encNum])
  have HT := Lib.hid ht; have HFn := Lib.hid hf; have HS1 := Lib.hid hs1; have HS2 := Lib.hid hs2; have HS3 := Lib.hid hs3; have HF := Lib.hid hF; have HL := Lib.hid hlen; have HS4 := Lib.hid hs4; have HB := Lib.hid hnb
  clear ht hf hs1 hs2 hs3 hF hlen hs4 hnb
  go_enter Try.func80, Try.ntmps80
  go_upto_region 1 with fail
  have hBa := Box.made w 63 #[.slice A1 a.types.length c1, .slice A3 a.funcs.length c3]
  have hba : Below w.heap.size w (w.alloc (.cells #[.slice A1 a.types.length c1, .slice A3 a.funcs.length c3] 63)) := by go_grown
  have hza : (w.alloc (.cells #[.slice A1 a.types.length c1, .slice A3 a.funcs.length c3] 63)).heap.size = w.heap.size + 1 := by simp
  generalize w.alloc (.cells #[.slice A1 a.types.length c1, .slice A3 a.funcs.length c3] 63) = W1 at hBa hba hza ⊢
  have x0 := hBa.at_ 0 _ rfl
  have hw1 := (Wrote.start h).up hba hbase
  have HW1 := Lib.hid hw1; have HBa := Lib.hid hBa
  clear hw1 hBa
  clear hba hza h
  go_wp2_with fail
  refine (wcount_any base b l a.types.length W1 HW1.out.wr (Nat.le_trans hbase HW1.out.bl.size) (by have := HL.out; omega)).mono ?_
  rintro e W2 ⟨rfl, hw2⟩
  have hB2 := hw2.box HBa.out HB.out (by decide)
  have hW2 := HW1.out.trans hw2
  clear x0
  have x0 := hB2.at_ 0 _ rfl
  have HW2 := Lib.hid hW2; have HB2 := Lib.hid hB2
  clear hW2 hB2
  clear hw2
  go_wp2_with fail
  go_loopg [18] a.types.length (fun gg s18 wr => ∃ kk : Nat, kk ≤ a.types.length ∧ a.types.length - kk ≤ gg ∧ s18 = .int .i64 kk ∧ Aside (Wrote base b W2 wr (l ++ encNum a.types.length ++ (a.types.take kk).flatMap encKnown)))
  case atStart => exact ⟨0, Nat.zero_le _, by omega, rfl, aside ((Wrote.start HW2.out.wr).same (by simp))⟩
  case round =>
    obtain ⟨kk, hkk, hg, rfl, BW⟩ := hrel
    have hbw := HW2.out.bl.trans BW.out.bl
    have hbs := Nat.le_trans hbase hbw.size
    by_cases hlt : kk < a.types.length
    · have hltz : (kk : Int) < (a.types.length : Int) := by omega
      obtain ⟨b1, off, cs, rfl, hbF, hcs, ⟨rfl, hn, hi⟩, hcell⟩ := (HT.out.stays KnownR.stays (fun _ h => h) (Keeps.of_below hbw HF.out)).at_ hlt
      have hc0 := hcell 0 _ rfl
      have hc1 := hcell 1 _ rfl
      simp only [Nat.add_zero] at hc0
      have hx := List.getElem?_eq_getElem hlt
      generalize a.types[kk] = x at *
      have hbl : b1 < wr.heap.size := Nat.lt_of_lt_of_le (HF.out _ hbF) hbs
      obtain ⟨hz1, hz2⟩ := known_parts (HS3.out.1 x (List.mem_of_getElem? hx))
      have hl4 : (l ++ encNum a.types.length ++ (a.types.take kk).flatMap encKnown).length + 10000 ≤ 140737488355328 := by
        have := HS1.out kk; have := HL.out
        rw [List.length_append, HS4.out]; omega
      have hnf : wr.heap.size ≠ b := by have := BW.out.wr.lt; omega
      have HX := Lib.hid hx; have HL4 := Lib.hid hl4; have HBS := Lib.hid hbs; have HNF := Lib.hid hnf; have HBW := Lib.hid hbw
      clear hx hl4 hbs hnf hbw
      clear hcell hcs x0
      go_upto_region 5 with fail
      have hBf := Box.made wr 146 #[.string x.name, .string x.is_]
      have hbf : Below wr.heap.size wr (wr.alloc (.cells #[.string x.name, .string x.is_] 146)) := by go_grown
      have hzf : (wr.alloc (.cells #[.string x.name, .string x.is_] 146)).heap.size = wr.heap.size + 1 := by simp
      generalize wr.alloc (.cells #[.string x.name, .string x.is_] 146) = W4 at hBf hbf hzf ⊢
      have n0 := hBf.at_ 0 _ rfl
      have hw4 := BW.out.up hbf HBS.out
      have HW4 := Lib.hid hw4; have HBf := Lib.hid hBf
      clear hw4 hBf
      clear hbf hzf hc0 hc1
      go_wp2_with fail
      refine (wtext_any base b _ x.name W4 HW4.out.wr (Nat.le_trans hbase (HW2.out.bl.trans HW4.out.bl).size) (by have := HL4.out; omega)).mono ?_
      rintro e W5 ⟨rfl, hw5⟩
      have hB5 := hw5.box HBf.out HNF.out (by decide)
      have hW5 := HW4.out.trans hw5
      clear n0
      have n1 := hB5.at_ 1 _ rfl
      have HW5 := Lib.hid hW5
      clear hW5
      clear hw5 hB5
      go_wp2_with fail
      refine (wtext_any base b _ x.is_ W5 HW5.out.wr (Nat.le_trans hbase (HW2.out.bl.trans HW5.out.bl).size) (by have := HL4.out; rw [List.length_append, encStr_len]; omega)).mono ?_
      rintro e W6 ⟨rfl, hw6⟩
      have HW6 := Lib.hid (HW5.out.trans hw6)
      clear hw6
      go_wp2_with fail
      go_roundg (a.types.length - (kk + 1))
      case measure => omega
      case rel => exact ⟨kk + 1, by omega, by omega, by go_num, aside (HW6.out.same (by rw [flatMap_succ HX.out]; simp only [encKnown, List.append_assoc]))⟩
    · have hltz : ¬ (kk : Int) < (a.types.length : Int) := by omega
      obtain rfl : kk = a.types.length := by omega
      have hw3 := BW.out
      rw [List.take_length] at hw3
      obtain ⟨l2, hl2⟩ : ∃ l2, l ++ encNum a.types.length ++ a.types.flatMap encKnown = l2 := ⟨_, rfl⟩
      rw [hl2] at hw3
      have hl2n : l2.length ≤ l.length + 15000 := by
        have := HS1.out a.types.length
        rw [List.take_length] at this
        rw [← hl2, List.length_append, HS4.out]; omega
      obtain ⟨V, rfl⟩ : ∃ W, W = wr := ⟨_, rfl⟩
      have hBv := BW.out.box HB2.out HB.out (by decide)
      clear x0
      have x1 := hBv.at_ 1 _ rfl
      have hW3 := HW2.out.trans hw3
      have hs5 := fun k => (show (l2 ++ encNum k).length = l2.length + 1 by simp [encNum])
      have HL2 := Lib.hid hl2; have HL2N := Lib.hid hl2n; have HBv := Lib.hid hBv; have HW3 := Lib.hid hW3; have HS5 := Lib.hid hs5
      clear hl2 hl2n hBv hW3 hs5
      clear hw3 hbw BW hbs
      go_wp2_with fail
      refine (wcount_any base b l2 a.funcs.length V HW3.out.wr (Nat.le_trans hbase HW3.out.bl.size) (by have := HL.out; have := HL2N.out; omega)).mono ?_
      rintro e V2 ⟨rfl, hw4⟩
      have hBv2 := hw4.box HBv.out HB.out (by decide)
      have hW4 := HW3.out.trans hw4
      clear x1
      have x1 := hBv2.at_ 1 _ rfl
      have HW4 := Lib.hid hW4
      clear hW4
      clear hw4 hBv2
      go_wp2_with fail
      go_loopg [39] a.funcs.length (fun gg s39 wr => ∃ kk : Nat, kk ≤ a.funcs.length ∧ a.funcs.length - kk ≤ gg ∧ s39 = .int .i64 kk ∧ Aside (Wrote base b V2 wr (l2 ++ encNum a.funcs.length ++ (a.funcs.take kk).flatMap encSig)))
      case atStart => exact ⟨0, Nat.zero_le _, by omega, rfl, aside ((Wrote.start HW4.out.wr).same (by simp))⟩
      case round =>
        obtain ⟨kk, hkk, hg, rfl, BW⟩ := hrel
        have hbw := HW4.out.bl.trans BW.out.bl
        have hbs := Nat.le_trans hbase hbw.size
        by_cases hlt : kk < a.funcs.length
        · have hltz : (kk : Int) < (a.funcs.length : Int) := by omega
          obtain ⟨b1, off, cs, rfl, hbF, hcs, ⟨pv, rfl, hn, hi, hp⟩, hcell⟩ := (HFn.out.stays SigR.stays (fun _ h => h) (Keeps.of_below hbw HF.out)).at_ hlt
          obtain ⟨P1, p1, rfl, _, _, hpl, _⟩ := hp.form
          have hc0 := hcell 0 _ rfl
          have hc1 := hcell 1 _ rfl
          have hc2 := hcell 2 _ rfl
          simp only [Nat.add_zero] at hc0
          have hx := List.getElem?_eq_getElem hlt
          generalize a.funcs[kk] = x at *
          have hbl : b1 < wr.heap.size := Nat.lt_of_lt_of_le (HF.out _ hbF) hbs
          have hsb := HS3.out.2 x (List.mem_of_getElem? hx)
          obtain ⟨hz1, hz2, hz3, hz4⟩ := sig_parts hsb
          have hps := fun k => encParams_len hsb k
          have hl4 : (l2 ++ encNum a.funcs.length ++ (a.funcs.take kk).flatMap encSig).length + 10000 ≤ 140737488355328 := by
            have := HS2.out kk; have := HL.out; have := HL2N.out
            rw [List.length_append, HS5.out]; omega
          have hnf : wr.heap.size ≠ b := by have := BW.out.wr.lt; omega
          have HX := Lib.hid hx; have HL4 := Lib.hid hl4; have HBS := Lib.hid hbs; have HNF := Lib.hid hnf; have HBW := Lib.hid hbw; have HP := Lib.hid hp; have HPS := Lib.hid hps; have HZ4 := Lib.hid hz4
          clear hx hl4 hbs hnf hbw hp hps hz4
          clear hcell hcs x1 hsb
          go_upto_region 12 with fail
          have hBf := Box.made wr 45 #[.string x.name, .slice P1 x.params.length p1, .string x.result]
          have hbf : Below wr.heap.size wr (wr.alloc (.cells #[.string x.name, .slice P1 x.params.length p1, .string x.result] 45)) := by go_grown
          have hzf : (wr.alloc (.cells #[.string x.name, .slice P1 x.params.length p1, .string x.result] 45)).heap.size = wr.heap.size + 1 := by simp
          generalize wr.alloc (.cells #[.string x.name, .slice P1 x.params.length p1, .string x.result] 45) = W4 at hBf hbf hzf ⊢
          have n0 := hBf.at_ 0 _ rfl
          have hw4 := (Wrote.start BW.out.wr).up hbf HBS.out
          have HWa := Lib.hid hw4; have HBf := Lib.hid hBf
          clear hw4 hBf
          clear hbf hzf hc0 hc1 hc2
          obtain ⟨l3, hl3⟩ : ∃ l3, l2 ++ encNum a.funcs.length ++ (a.funcs.take kk).flatMap encSig = l3 := ⟨_, rfl⟩
          have hwa := HWa.out
          have hl5 := HL4.out
          rw [hl3] at hwa hl5
          have HWA := Lib.hid hwa; have HL5 := Lib.hid hl5; have HL3 := Lib.hid hl3
          clear hwa hl5 hl3
          go_wp2_with fail
          refine (wtext_any base b l3 x.name W4 HWA.out.wr (Nat.le_trans HBS.out HWA.out.bl.size) (by have := HL5.out; omega)).mono ?_
          rintro e W5 ⟨rfl, hw5⟩
          have hB5 := hw5.box HBf.out HNF.out (by decide)
          have hW5 := HWA.out.trans hw5
          clear n0
          have n1 := hB5.at_ 1 _ rfl
          have HW5 := Lib.hid hW5; have HB5 := Lib.hid hB5
          clear hW5 hB5
          clear hw5
          go_wp2_with fail
          refine (wcount_any base b _ x.params.length W5 HW5.out.wr (Nat.le_trans HBS.out HW5.out.bl.size) (by have := HL5.out; rw [List.length_append, encStr_len]; omega)).mono ?_
          rintro e W6 ⟨rfl, hw6⟩
          have hB6 := hw6.box HB5.out HNF.out (by decide)
          have hW6 := HW5.out.trans hw6
          have hl6 : (l3 ++ encStr x.name ++ encNum x.params.length).length + 9000 ≤ 140737488355328 := by
            have := HL5.out
            rw [List.length_append, List.length_append, encStr_len, encNum, List.length_singleton]; omega
          clear n1
          have n1 := hB6.at_ 1 _ rfl
          have HW6 := Lib.hid hW6; have HB6 := Lib.hid hB6; have HL6 := Lib.hid hl6
          clear hW6 hB6 hl6
          clear hw6
          obtain ⟨l4, hl4e⟩ : ∃ l4, l3 ++ encStr x.name ++ encNum x.params.length = l4 := ⟨_, rfl⟩
          have hwb := HW6.out
          have hl7 := HL6.out
          rw [hl4e] at hwb hl7
          have HWB := Lib.hid hwb; have HL7 := Lib.hid hl7; have HL4E := Lib.hid hl4e
          clear hwb hl7 hl4e
          go_wp2_with fail
          go_loopg [9, 55] x.params.length (fun gg _ s55 wr => ∃ mm : Nat, mm ≤ x.params.length ∧ x.params.length - mm ≤ gg ∧ s55 = .int .i64 mm ∧ Aside (Wrote base b W6 wr (l4 ++ (x.params.take mm).flatMap encStr)))
          case atStart => exact ⟨0, Nat.zero_le _, by omega, rfl, aside ((Wrote.start HWB.out.wr).same (by simp))⟩
          case round =>
            obtain ⟨mm, hmm, hg2, rfl, CW⟩ := hrel
            have hcw := HWB.out.bl.trans CW.out.bl
            have hcs := Nat.le_trans HBS.out hcw.size
            by_cases hlt2 : mm < x.params.length
            · have hltz2 : (mm : Int) < (x.params.length : Int) := by omega
              obtain ⟨b2, off2, cs, rfl, hbF2, _, ⟨rfl, _⟩, hcell⟩ := (HP.out.stays StrR.stays (fun _ h => h) (Keeps.of_below (hcw) HF.out)).at_ hlt2
              have hq0 := hcell 0 _ rfl
              simp only [Nat.mul_one, Nat.add_zero] at hq0
              have hy := List.getElem?_eq_getElem hlt2
              have hy6 := HZ4.out _ (List.mem_of_getElem? hy)
              generalize x.params[mm] = y at *
              have hbl2 : b2 < wr.heap.size := Nat.lt_of_lt_of_le (HF.out _ hbF2) hcs
              have hl8 : (l4 ++ (x.params.take mm).flatMap encStr).length + y.size + 2 ≤ 140737488355328 := by
                have := HPS.out mm; have := HL7.out
                rw [List.length_append]; omega
              have HY := Lib.hid hy; have HL8 := Lib.hid hl8; have HCS := Lib.hid hcs
              clear hy hl8 hcs
              clear hcell n1
              go_wp2_with fail
              refine (wtext_any base b _ y wr CW.out.wr HCS.out HL8.out).mono ?_
              rintro e W7 ⟨rfl, hw7⟩
              have HW7 := Lib.hid (CW.out.trans hw7)
              clear hw7
              go_wp2_with fail
              go_roundg (x.params.length - (mm + 1))
              case measure => omega
              case rel => exact ⟨mm + 1, by omega, by omega, by go_num, aside (HW7.out.same (by rw [flatMap_succ HY.out]; simp only [List.append_assoc]))⟩
            · have hltz2 : ¬ (mm : Int) < (x.params.length : Int) := by omega
              obtain rfl : mm = x.params.length := by omega
              have hB7 := CW.out.box HB6.out HNF.out (by decide)
              have hl8 : (l4 ++ x.params.flatMap encStr).length + x.result.size + 2 ≤ 140737488355328 := by
                have h1 := HPS.out x.params.length; have := HL7.out
                rw [List.take_length] at h1
                rw [List.length_append]; omega
              have hw8 := CW.out
              rw [List.take_length] at hw8
              clear n1
              have n2 := hB7.at_ 2 _ rfl
              have HL8 := Lib.hid hl8; have HCS := Lib.hid hcs; have HW8 := Lib.hid hw8
              clear hl8 hcs hw8
              clear hB7
              go_wp2_with fail
              refine (wtext_any base b _ x.result wr HW8.out.wr HCS.out HL8.out).mono ?_
              rintro e W7 ⟨rfl, hw7⟩
              have HW7 := Lib.hid (BW.out.trans (HWB.out.trans (HW8.out.trans hw7)))
              clear hw7
              go_wp2_with fail
              go_roundg (a.funcs.length - (kk + 1))
              case measure => omega
              case rel => exact ⟨kk + 1, by omega, by omega, by go_num, aside (HW7.out.same (by rw [flatMap_succ HX.out, ← HL4E.out, ← HL3.out]; simp only [encSig, List.append_assoc]))⟩
        · have hltz : ¬ (kk : Int) < (a.funcs.length : Int) := by omega
          obtain rfl : kk = a.funcs.length := by omega
          have hw9 := BW.out
          rw [List.take_length] at hw9
          have HW9 := Lib.hid (HW4.out.trans hw9)
          clear hw9
          go_wp2_with fail
          go_end0
          exact ⟨rfl, HW9.out.same (by rw [← HL2.out]; simp only [encFace, List.append_assoc])⟩

end Go.Proofs.Ytejiaimcgmpliaa
