/- The law RecordsOnce: its walk. -/
import Derived.Test.YtejiaimcgmpliaaDecode
import Derived.Test.YtejiaimcgmpliaaOnce
import Derived.Test.YtejiaimcgmpliaaEncode
import Derived.Handy
namespace Go.Proofs.Ytejiaimcgmpliaa
open Go.ChangeShapes Go.WideShapes Go.ChangeAt Go.RowKit
open Go.ChangeMaps (open_string)

set_option maxRecDepth 100000 in
set_option maxHeartbeats 4000000 in
theorem recordsOnce_calls (s : ByteArray) (W : World) (hs : s.size ≤ 140737488355328) :
    Calls Try.prog 9 #[.string s] W fun e w' => e = .returned (.bool true) ∧ Below W.heap.size W w' := by
  have ha := decode_any s W hs
  cases hd : decRecord recErr s.data.toList with
  | error er =>
    have hne := dec_ne hd
    obtain ⟨hc, hr⟩ := dec_err hd
    rw [hc, hr] at ha
    have hez : (er == 0) = false := by simp [hne]
    have hez2 : (er != 0) = true := by simp [hne]
    have HA := Lib.hid ha
    clear ha
    clear hd hc hr hne
    go_enter Try.func9, Try.ntmps9
    go_wp2_with fail
    refine HA.out.mono ?_
    rintro e W1 ⟨cs, rfl, hb1, hr1⟩
    obtain ⟨I1, i1, T1, e1, T2, e2, D1, d1, rfl, _⟩ := hr1.parts
    dsimp only [noRecord, List.length_nil]
    have HB1 := Lib.hid hb1; have HR1 := Lib.hid hr1
    clear hb1 hr1
    go_wp2_with fail
    go_ret
    exact ⟨rfl, HB1.out.alloc HB1.out.size _⟩
  | ok x =>
    obtain ⟨h1, h2, _⟩ := once hd
    obtain ⟨hc, hr⟩ := dec_rec hd
    rw [hc, hr] at ha
    have he := fun U cs F hF h => encode_any x cs F U hF h
    have hbt : recBytes x = s := by unfold recBytes; rw [if_pos h1, h2]; exact txt_back s
    rw [hbt, h1] at he
    have HA := Lib.hid ha; have HE := Lib.hid he
    clear ha he
    clear hd hc hr h1 h2 hbt
    go_enter Try.func9, Try.ntmps9
    go_wp2_with fail
    refine HA.out.mono ?_
    rintro e W1 ⟨cs, rfl, hb1, hr1⟩
    obtain ⟨I1, i1, T1, e1, T2, e2, D1, d1, rfl, _⟩ := hr1.parts
    have HB1 := Lib.hid hb1; have HR1 := Lib.hid hr1
    clear hb1 hr1
    go_upto_region 2 with fail
    have hBb := Box.made W1 66 #[.string x.name, .string x.source, .slice I1 x.imports.length i1, .slice T1 x.face.types.length e1, .slice T2 x.face.funcs.length e2, .slice D1 x.diags.length d1]
    have hbb : Below W1.heap.size W1 (W1.alloc (.cells #[.string x.name, .string x.source, .slice I1 x.imports.length i1, .slice T1 x.face.types.length e1, .slice T2 x.face.funcs.length e2, .slice D1 x.diags.length d1] 66)) := by go_grown
    have hzb : (W1.alloc (.cells #[.string x.name, .string x.source, .slice I1 x.imports.length i1, .slice T1 x.face.types.length e1, .slice T2 x.face.funcs.length e2, .slice D1 x.diags.length d1] 66)).heap.size = W1.heap.size + 1 := by simp
    generalize W1.alloc (.cells #[.string x.name, .string x.source, .slice I1 x.imports.length i1, .slice T1 x.face.types.length e1, .slice T2 x.face.funcs.length e2, .slice D1 x.diags.length d1] 66) = W2 at hBb hbb hzb ⊢
    have hb2 := HB1.out.trans (hbb.mono HB1.out.size)
    have HQ := Lib.hid (HE.out W2 _ _ (foot_up fresh_lt hbb) (RecordR.stays.later HR1.out hbb fresh_lt))
    have y0 := hBb.at_ 0 _ rfl
    have y1 := hBb.at_ 1 _ rfl
    have y2 := hBb.at_ 2 _ rfl
    have y3 := hBb.at_ 3 _ rfl
    have y4 := hBb.at_ 4 _ rfl
    have y5 := hBb.at_ 5 _ rfl
    have HB2 := Lib.hid hb2
    clear hb2
    clear hbb hzb hBb
    go_wp2_with fail
    refine HQ.out.mono ?_
    rintro e W3 ⟨rfl, hb3⟩
    have hb4 := HB2.out.trans (hb3.mono HB2.out.size)
    have HB4 := Lib.hid hb4
    clear hb4
    go_wp2_with fail
    go_ret
    exact ⟨by simp, HB4.out⟩

end Go.Proofs.Ytejiaimcgmpliaa
