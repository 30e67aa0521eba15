/- A face as text: face.Show. -/
import Derived.Test.YtamkgphamffdcaaFaceText
import Derived.Test.YtamkgphamffdcaaFaceChk
import Derived.Test.YtamkgphamffdcaaShelf
import Derived.Deep.RegionHeld3
import Derived.Test.YtamkgphamffdcaaBuild
namespace Go.Proofs.Ytamkgphamffdcaa
open Go.RowKit Go.Shelf

theorem join_any (v : Value) (l : List ByteArray) (F : Foot) (w : World) (hF : ∀ k, F k → k < w.heap.size) (hv : SliceOf StrR 1 16 w F v l) (hl : (joined l).size ≤ 140737488355328) :
    Calls Try.prog 145 #[v, .string ⟨#[44, 32]⟩] w fun e w' => e = .returned (.string (joined l)) ∧ Below w.heap.size w w' := by
  obtain ⟨A, cap, rfl, h1, h2, h3, h3', h4⟩ := hv
  cases l with
  | nil => exact (Try.strings_Join_none A cap ⟨#[44, 32]⟩ w).mono fun e w' ⟨he, hw⟩ => ⟨he, hw ▸ Below.refl _ _⟩
  | cons x r =>
    obtain ⟨b, off, rfl, hb, hx⟩ := h4 (by simp)
    refine (Try.strings_Join b off cap (x :: r) ⟨#[44, 32]⟩ w (fun j y hj => ?_) (hF _ hb) h3' h1 ?_).mono fun e w' ⟨he, hw⟩ => ⟨he, hw⟩
    · obtain ⟨cs, hc, ⟨rfl, _⟩, hcell⟩ := hx j y hj
      have := hcell 0 _ rfl
      simpa using this
    · rw [ba_size, joined, ba_of] at hl; exact hl

set_option maxRecDepth 100000 in
set_option maxHeartbeats 4000000 in
theorem faceShow_any (a : Face) (cs : List Value) (F : Foot) (w : World) (hF : ∀ k, F k → k < w.heap.size) (ha : FaceR w F cs a) :
    Calls Try.prog 86 #[.agg cs.toArray] w fun e w' => e = .returned (.tuple #[.string (shownTxt a), .int .i64 (faceErr a)]) ∧ Below w.heap.size w w' := by
  have hc := fun U (hU : Below w.heap.size w U) => faceCheck_any a cs F U (foot_up hF hU) (FaceR.stays.later ha hU hF)
  obtain ⟨tv, fv, rfl, ht, hf⟩ := ha
  obtain ⟨A1, c1, rfl, _, _, hl1, _⟩ := ht.form
  obtain ⟨A3, c3, rfl, _, _, hl3, _⟩ := hf.form
  have hs := fun (h : faceErr a = 0) (k : Nat) => types_small h k
  have hs2 := fun (h : faceErr a = 0) (k : Nat) => funcs_small h k
  have hs3 := fun (h : faceErr a = 0) => (face_rising h).2.2
  unfold shownTxt
  obtain ⟨E, hE⟩ : ∃ E, faceErr a = E := ⟨_, rfl⟩
  rw [hE] at hc ⊢
  have HC := Lib.hid hc; have HT := Lib.hid ht; have HFn := Lib.hid hf
  clear hc ht hf
  by_cases h0 : E = 0
  · subst h0
    have hs := hs hE
    have hs2 := hs2 hE
    have hs3 := hs3 hE
    rw [if_pos rfl]
    have HS := Lib.hid hs; have HS2 := Lib.hid hs2; have HS3 := Lib.hid hs3; have HE := Lib.hid hE
    clear hs hs2 hs3 hE
    go_enter Try.func86, Try.ntmps86
    go_upto_region 1 with fail
    have hBa := Box.made w 32 #[.slice A1 a.types.length c1, .slice A3 a.funcs.length c3]
    have hba : Below w.heap.size w (w.alloc (.cells #[.slice A1 a.types.length c1, .slice A3 a.funcs.length c3] 32)) := by go_grown
    have hza : (w.alloc (.cells #[.slice A1 a.types.length c1, .slice A3 a.funcs.length c3] 32)).heap.size = w.heap.size + 1 := by simp
    generalize w.alloc (.cells #[.slice A1 a.types.length c1, .slice A3 a.funcs.length c3] 32) = W1 at hBa hba hza ⊢
    have x0 := hBa.at_ 0 _ rfl
    have x1 := hBa.at_ 1 _ rfl
    go_wp2_with fail
    refine (HC.out _ hba).mono ?_
    rintro e W2 ⟨rfl, hb2⟩
    have hB2 := hBa.later hb2 hBa.lt
    have hbw := hba.trans (hb2.mono hba.size)
    clear x0 x1
    have x0 := hB2.at_ 0 _ rfl
    have HB2 := Lib.hid hB2; have HBW := Lib.hid hbw
    clear hB2 hbw
    clear hBa hba hza hb2
    go_upto_region 5 with fail
    have hBb := Box.made W2 163 #[.pointer none, .slice none 0 0]
    have hbb : Below W2.heap.size W2 (W2.alloc (.cells #[.pointer none, .slice none 0 0] 163)) := by go_grown
    have hzb : (W2.alloc (.cells #[.pointer none, .slice none 0 0] 163)).heap.size = W2.heap.size + 1 := by simp
    generalize W2.alloc (.cells #[.pointer none, .slice none 0 0] 163) = W3 at hBb hbb hzb ⊢
    have hI : Lib.IsBuilder 163 5 W2.heap.size W2.heap.size (Lib.byteCells (typesTxt (a.types.take 0)).data.toList) W3 :=
      Or.inl ⟨Nat.le_refl _, .slice none 0 0, hBb, World.ownsRow_nil _ _ _ _, by simp [Value.ownBlock]⟩
    have hB3 := HB2.out.later hbb HB2.out.lt
    clear x0
    have x0 := hB3.at_ 0 _ rfl
    have HI := Lib.hid hI; have HB3 := Lib.hid hB3; have Hbb := Lib.hid hbb
    clear hI hB3 hbb
    clear hBb hzb
    go_wp2_with fail
    go_loopg [18] a.types.length (fun gg s18 wr => ∃ kk : Nat, kk ≤ a.types.length ∧ a.types.length - kk ≤ gg ∧ s18 = .int .i64 kk ∧ Aside (Below W2.heap.size W2 wr) ∧ Aside (Lib.IsBuilder 163 5 W2.heap.size W2.heap.size (Lib.byteCells (typesTxt (a.types.take kk)).data.toList) wr))
    case atStart => exact ⟨0, Nat.zero_le _, by omega, rfl, aside Hbb.out, aside HI.out⟩
    case round =>
      obtain ⟨kk, hkk, hg, rfl, BW, BI⟩ := hrel
      have hbw := HBW.out.trans (BW.out.mono HBW.out.size)
      by_cases hlt : kk < a.types.length
      · have hltz : (kk : Int) < (a.types.length : Int) := by omega
        obtain ⟨b1, off, cs, rfl, hbF, hcs, ⟨rfl, hn, hi⟩, hcell⟩ := (HT.out.up KnownR.stays hF hbw).at_ hlt
        have hc0 := hcell 0 _ rfl
        have hc1 := hcell 1 _ rfl
        simp only [Nat.add_zero] at hc0
        have hx := List.getElem?_eq_getElem hlt
        generalize a.types[kk] = x at *
        have hbl := foot_up hF hbw _ hbF
        have hsz := HS.out (kk + 1)
        rw [typesTxt_succ hx, ba_app_size] at hsz
        obtain ⟨hz1, hz2⟩ := known_parts (HS3.out.1 x (List.mem_of_getElem? hx))
        have HX := Lib.hid hx; have HBR := Lib.hid hbw; have HSZ := Lib.hid hsz
        clear hx hbw hsz
        clear hcell hcs x0
        go_upto_region 8 with fail
        have hBf := Box.made wr 110 #[.string x.name, .string x.is_]
        have hbf : Below wr.heap.size wr (wr.alloc (.cells #[.string x.name, .string x.is_] 110)) := by go_grown
        have hzf : (wr.alloc (.cells #[.string x.name, .string x.is_] 110)).heap.size = wr.heap.size + 1 := by simp
        generalize wr.alloc (.cells #[.string x.name, .string x.is_] 110) = W4 at hBf hbf hzf ⊢
        have n0 := hBf.at_ 0 _ rfl
        have n1 := hBf.at_ 1 _ rfl
        have hI4 := builder_up BI.out hbf
        have hb4 := BW.out.trans (hbf.mono BW.out.size)
        have HI4 := Lib.hid hI4; have HB4 := Lib.hid hb4
        clear hI4 hb4
        clear hBf hbf hzf hc0 hc1
        go_wp2_with fail
        refine (writeString_any W2.heap.size W2.heap.size _ (knownLine x) W4 HI4.out ?_ HB4.out.size).mono ?_
        · rw [Lib.byteCells_length, ← ba_size]; have := HSZ.out; omega
        rintro e W5 ⟨rfl, hbt, hb5, _⟩
        have hI5 : Lib.IsBuilder 163 5 W2.heap.size W2.heap.size (Lib.byteCells (typesTxt (a.types.take (kk + 1))).data.toList) W5 := by
          rw [typesTxt_succ HX.out, ba_app, Lib.byteCells_append, ← Lib.strCells_eq]
          exact hbt
        have hb6 := HB4.out.trans hb5
        have HI5 := Lib.hid hI5; have HB6 := Lib.hid hb6
        clear hI5 hb6
        clear hbt hb5 n0 n1
        go_wp2_with fail
        go_roundg (a.types.length - (kk + 1))
        case measure => omega
        case rel => exact ⟨kk + 1, by omega, by omega, by go_num, aside HB6.out, aside HI5.out⟩
      · have hltz : ¬ (kk : Int) < (a.types.length : Int) := by omega
        obtain rfl : kk = a.types.length := by omega
        have hI5 := BI.out
        rw [List.take_length] at hI5
        obtain ⟨V, rfl⟩ : ∃ W, W = wr := ⟨_, rfl⟩
        have hBv := HB2.out.later BW.out HB2.out.lt
        clear x0
        have x1 := hBv.at_ 1 _ rfl
        have hI6 : Lib.IsBuilder 163 5 W2.heap.size W2.heap.size (Lib.byteCells (typesTxt a.types ++ funcsTxt (a.funcs.take 0)).data.toList) V := by
          rw [List.take_zero, show funcsTxt [] = ⟨#[]⟩ from rfl, ba_app_nil]; exact hI5
        have hts := HS.out a.types.length
        rw [List.take_length] at hts
        have HI5 := Lib.hid hI6; have HBv := Lib.hid hBv; have HBV := Lib.hid hbw; have HTS := Lib.hid hts
        clear hI6 hBv hbw hts
        clear hI5 BI
        go_wp2_with fail
        go_loopg [35] a.funcs.length (fun gg s35 wr => ∃ kk : Nat, kk ≤ a.funcs.length ∧ a.funcs.length - kk ≤ gg ∧ s35 = .int .i64 kk ∧ Aside (Below W2.heap.size W2 wr) ∧ Aside (Lib.IsBuilder 163 5 W2.heap.size W2.heap.size (Lib.byteCells (typesTxt a.types ++ funcsTxt (a.funcs.take kk)).data.toList) wr))
        case atStart => exact ⟨0, Nat.zero_le _, by omega, rfl, aside BW.out, aside HI5.out⟩
        case round =>
          clear BW
          obtain ⟨kk, hkk, hg, rfl, BW, BI⟩ := hrel
          have hbw := HBW.out.trans (BW.out.mono HBW.out.size)
          by_cases hlt : kk < a.funcs.length
          · have hltz : (kk : Int) < (a.funcs.length : Int) := by omega
            obtain ⟨b1, off, cs, rfl, hbF, hcs, ⟨pv, rfl, hn, hi, hp⟩, hcell⟩ := (HFn.out.up SigR.stays hF hbw).at_ hlt
            obtain ⟨P1, p1, rfl, _⟩ := hp.form
            have hc0 := hcell 0 _ rfl
            have hc1 := hcell 1 _ rfl
            have hc2 := hcell 2 _ rfl
            simp only [Nat.add_zero] at hc0
            have hx := List.getElem?_eq_getElem hlt
            generalize a.funcs[kk] = x at *
            have hbl := foot_up hF hbw _ hbF
            have hsz := HS2.out (kk + 1)
            rw [funcsTxt_succ hx, ba_app_size] at hsz
            have hps := params_small (HS3.out.2 x (List.mem_of_getElem? hx))
            obtain ⟨hz1, hz2, _, _⟩ := sig_parts (HS3.out.2 x (List.mem_of_getElem? hx))
            have hlen : (Lib.byteCells (typesTxt a.types ++ funcsTxt (a.funcs.take kk)).data.toList).length + (sigLine x).size ≤ 140737488355328 := by
              rw [Lib.byteCells_length, ← ba_size, ba_app_size]; have := HTS.out; omega
            have HX := Lib.hid hx; have HBR := Lib.hid hbw; have HLEN := Lib.hid hlen; have HPS := Lib.hid hps; have HP := Lib.hid hp
            clear hx hbw hlen hps hp
            clear hcell hcs x1 hsz
            go_upto_region 13 with fail
            have hBf := Box.made wr 52 #[.string x.name, .slice P1 x.params.length p1, .string x.result]
            have hbf : Below wr.heap.size wr (wr.alloc (.cells #[.string x.name, .slice P1 x.params.length p1, .string x.result] 52)) := by go_grown
            have hzf : (wr.alloc (.cells #[.string x.name, .slice P1 x.params.length p1, .string x.result] 52)).heap.size = wr.heap.size + 1 := by simp
            generalize wr.alloc (.cells #[.string x.name, .slice P1 x.params.length p1, .string x.result] 52) = W4 at hBf hbf hzf ⊢
            have n0 := hBf.at_ 0 _ rfl
            have n1 := hBf.at_ 1 _ rfl
            have n2 := hBf.at_ 2 _ rfl
            have hI4 := builder_up BI.out hbf
            have hb4 := BW.out.trans (hbf.mono BW.out.size)
            have hb4w := HBR.out.trans (hbf.mono HBR.out.size)
            have hfn : wr.heap.size ≠ W2.heap.size := by
              intro h
              have := builder_lt BI.out
              omega
            have hjo := fun U (hU : Below W4.heap.size W4 U) => join_any _ x.params F U (foot_up (foot_up hF hb4w) hU) ((HP.out.up StrR.stays (foot_up hF HBR.out) hbf).up StrR.stays (foot_up hF hb4w) hU) (Nat.le_trans HPS.out (by decide))
            have HI4 := Lib.hid hI4; have HB4 := Lib.hid hb4; have HBf := Lib.hid hBf; have HFN := Lib.hid hfn; have HJO := Lib.hid hjo
            clear hI4 hb4 hBf hfn hjo
            clear hbf hzf hc0 hc1 hc2 hb4w
            have s1 : ¬ 9223372036854775807 < 5 + x.name.size := by omega
            have s2 : ¬ 9223372036854775807 < 5 + x.name.size + 1 := by omega
            have s3 : ¬ 9223372036854775807 < 5 + x.name.size + 1 + (joined x.params).size := by have := HPS.out; omega
            have s4 : ¬ 9223372036854775807 < 5 + x.name.size + 1 + (joined x.params).size + 3 := by have := HPS.out; omega
            have s5 : ¬ 9223372036854775807 < 5 + x.name.size + 1 + (joined x.params).size + 3 + x.result.size := by have := HPS.out; omega
            have s6 : ¬ 9223372036854775807 < 5 + x.name.size + 1 + (joined x.params).size + 3 + x.result.size + 1 := by have := HPS.out; omega
            have HBx := HBf
            have HIx := HI4
            have HBy := HB4
            go_region_held3 (fun w' => w'.cell? ⟨wr.heap.size, 0, none⟩ = some (.string x.name) ∧ w'.cell? ⟨wr.heap.size, 1, none⟩ = some (.slice P1 x.params.length p1) ∧ w'.cell? ⟨wr.heap.size, 2, none⟩ = some (.string x.result))
              (exact ⟨HBx.out.at_ 0 _ rfl, HBx.out.at_ 1 _ rfl, HBx.out.at_ 2 _ rfl⟩)
              (first
                | (go_at_call 145; refine (HJO.out _ ?_).mono ?_; (go_grown); rintro e w7 ⟨rfl, hb7⟩; have hb8 : Below W4.heap.size W4 w7 := Below.trans (show Below W4.heap.size W4 W4.drew by go_grown) hb7; have HIx := Lib.hid (builder_up HI4.out hb8); have HBy := Lib.hid (HB4.out.trans (hb8.mono HB4.out.size)); have HBx := Lib.hid (HBf.out.later hb8 HBf.out.lt); clear hb7 hb8)
                | (go_at_call 144; refine (writeString_any W2.heap.size W2.heap.size _ (sigLine x) _ ?_ HLEN.out ?_).mono ?_; (exact HIx.out); (exact HBy.out.size); rintro e w8 ⟨rfl, hI8, hb8, hk8⟩; have HIz := Lib.hid hI8; have HBz := Lib.hid (HBy.out.trans hb8); have HBx := Lib.hid (others_box hk8 HBx.out HFN.out (by decide)); clear hI8 hb8 hk8))
            go_wp2_with fail
            have hI9 : Lib.IsBuilder 163 5 W2.heap.size W2.heap.size (Lib.byteCells (typesTxt a.types ++ funcsTxt (a.funcs.take (kk + 1))).data.toList) w8 := by
              rw [funcsTxt_succ HX.out, ← ba_assoc, ba_app _ (sigLine x), Lib.byteCells_append, ← Lib.strCells_eq]
              exact HIz.out
            go_roundg (a.funcs.length - (kk + 1))
            case measure => omega
            case rel => exact ⟨kk + 1, by omega, by omega, by go_num, aside HBz.out, aside hI9⟩
          · have hltz : ¬ (kk : Int) < (a.funcs.length : Int) := by omega
            obtain rfl : kk = a.funcs.length := by omega
            have hI7 := BI.out
            rw [List.take_length] at hI7
            have HI7 := Lib.hid hI7; have HBR := Lib.hid hbw
            clear hI7 hbw
            go_wp2_with fail
            refine (Try.Builder_String_any W2.heap.size W2.heap.size _ _ HI7.out BW.out.size).mono ?_
            rintro e W5 ⟨rfl, hb5⟩
            go_wp2_with fail
            go_ret2
            exact ⟨by rw [faceTxt_data]; rfl, HBW.out.trans ((BW.out.trans hb5).mono HBW.out.size)⟩
  · have h0n : (E != 0) = true := by simp [h0]
    rw [if_neg h0]
    go_enter Try.func86, Try.ntmps86
    go_upto_region 1 with fail
    have hBa := Box.made w 32 #[.slice A1 a.types.length c1, .slice A3 a.funcs.length c3]
    have hba : Below w.heap.size w (w.alloc (.cells #[.slice A1 a.types.length c1, .slice A3 a.funcs.length c3] 32)) := by go_grown
    have hza : (w.alloc (.cells #[.slice A1 a.types.length c1, .slice A3 a.funcs.length c3] 32)).heap.size = w.heap.size + 1 := by simp
    generalize w.alloc (.cells #[.slice A1 a.types.length c1, .slice A3 a.funcs.length c3] 32) = W1 at hBa hba hza ⊢
    have x0 := hBa.at_ 0 _ rfl
    have x1 := hBa.at_ 1 _ rfl
    go_wp2_with fail
    refine (HC.out _ hba).mono ?_
    rintro e W2 ⟨rfl, hb2⟩
    have hbw := hba.trans (hb2.mono hba.size)
    have HBW := Lib.hid hbw
    clear hbw
    clear hBa hba hza hb2 x0 x1
    go_wp2_with fail
    go_ret2
    exact ⟨rfl, HBW.out⟩

end Go.Proofs.Ytamkgphamffdcaa
