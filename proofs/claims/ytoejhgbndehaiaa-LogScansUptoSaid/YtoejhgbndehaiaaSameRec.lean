/- The laws' sameRecord, at two records that are the same. -/
import Derived.Test.YtoejhgbndehaiaaRecCopy
import Derived.Test.YtoejhgbndehaiaaRefl
namespace Go.Proofs.Ytoejhgbndehaiaa
open Go.RowKit Go.Shelf

set_option maxRecDepth 100000 in
set_option maxHeartbeats 1000000 in
theorem sameImports_self (l : List Import) (v u : Value) (F G : Foot) (w : World) (hF : ∀ k, F k → k < w.heap.size) (hG : ∀ k, G k → k < w.heap.size) (hv : SliceOf ImportR 4 72 w F v l) (hu : SliceOf ImportR 4 72 w G u l) :
    Calls Try.prog 19 #[v, u] w fun e w' => e = .returned (.bool true) ∧ Below w.heap.size w w' := by
  obtain ⟨L1, l1, rfl, _⟩ := hv.form
  obtain ⟨L2, l2, rfl, _⟩ := hu.form
  have hr : RecordR w F [.string ⟨#[]⟩, .string ⟨#[]⟩, .slice L1 l.length l1, .slice none 0 0, .slice none 0 0, .slice none 0 0] ⟨⟨#[]⟩, ⟨#[]⟩, l, ⟨[], []⟩, []⟩ :=
    ⟨_, _, _, _, rfl, Nat.zero_le _, Nat.zero_le _, hv, ⟨_, _, rfl, SliceOf.nil_, SliceOf.nil_⟩, SliceOf.nil_⟩
  have hc := isRecord_any ⟨⟨#[]⟩, ⟨#[]⟩, l, ⟨[], []⟩, []⟩ ⟨#[]⟩ l _ (.slice L2 l.length l2) F G w hF hG hr hu
  have hq : recIs ⟨⟨#[]⟩, ⟨#[]⟩, l, ⟨[], []⟩, []⟩ ⟨#[]⟩ l = true := by simp [recIs, eqB_self, listEq_refl importEq_self]
  rw [hq] at hc
  have HC := Lib.hid hc
  clear hc
  clear hr hv hu hq
  go_enter Try.func19, Try.ntmps19
  go_wp2_with fail
  refine HC.out.mono ?_
  rintro e w' ⟨rfl, hb⟩
  go_wp2_with fail
  go_ret
  exact ⟨rfl, hb⟩

set_option maxRecDepth 100000 in
set_option maxHeartbeats 4000000 in
theorem sameRecord_self (r : Record) (cs ds : List Value) (F G : Foot) (w : World) (hF : ∀ k, F k → k < w.heap.size) (hG : ∀ k, G k → k < w.heap.size) (ha : RecordR w F cs r) (hb : RecordR w G ds r) :
    Calls Try.prog 8 #[.agg cs.toArray, .agg ds.toArray] w fun e w' => e = .returned (.bool true) ∧ Below w.heap.size w w' := by
  obtain ⟨I1, i1, T1, e1, T2, e2, D1, d1, rfl, _, _, hi1, hf1, hd1⟩ := ha.parts
  obtain ⟨I2, i2, T3, e3, T4, e4, D2, d2, rfl, _, _, hi2, hf2, hd2⟩ := hb.parts
  have hci := fun U (hU : Below w.heap.size w U) => sameImports_self r.imports _ _ F G U (foot_up hF hU) (foot_up hG hU) (hi1.up ImportR.stays hF hU) (hi2.up ImportR.stays hG hU)
  have hcf := fun U (hU : Below w.heap.size w U) => sameFace_any r.face r.face _ _ F G U (foot_up hF hU) (foot_up hG hU) (FaceR.stays.later hf1 hU hF) (FaceR.stays.later hf2 hU hG)
  have hcd := fun U (hU : Below w.heap.size w U) => same_diags _ _ r.diags r.diags F G U (foot_up hF hU) (foot_up hG hU) (hd1.up DiagR.stays hF hU) (hd2.up DiagR.stays hG hU)
  rw [faceEq_self] at hcf
  rw [listEq_refl diagEq_self] at hcd
  have HCI := Lib.hid hci; have HCF := Lib.hid hcf; have HCD := Lib.hid hcd
  clear hci hcf hcd
  clear ha hb hi1 hf1 hd1 hi2 hf2 hd2
  go_enter Try.func8, Try.ntmps8
  go_upto_region 1 with fail
  have hBb1 := ((Box.made w 33 #[.string r.name, .string r.source, .slice I1 r.imports.length i1, .slice T1 r.face.types.length e1, .slice T2 r.face.funcs.length e2, .slice D1 r.diags.length d1]).alloc (.cells #[.string r.name, .string r.source, .slice I2 r.imports.length i2, .slice T3 r.face.types.length e3, .slice T4 r.face.funcs.length e4, .slice D2 r.diags.length d2] 33))
  have hBb2 := (Box.made (w.alloc (.cells #[.string r.name, .string r.source, .slice I1 r.imports.length i1, .slice T1 r.face.types.length e1, .slice T2 r.face.funcs.length e2, .slice D1 r.diags.length d1] 33)) 33 #[.string r.name, .string r.source, .slice I2 r.imports.length i2, .slice T3 r.face.types.length e3, .slice T4 r.face.funcs.length e4, .slice D2 r.diags.length d2])
  rw [show (w.alloc (.cells #[.string r.name, .string r.source, .slice I1 r.imports.length i1, .slice T1 r.face.types.length e1, .slice T2 r.face.funcs.length e2, .slice D1 r.diags.length d1] 33)).heap.size = w.heap.size + 1 by simp only [World.size_alloc]] at hBb2
  have hbb : Below w.heap.size w ((w.alloc (.cells #[.string r.name, .string r.source, .slice I1 r.imports.length i1, .slice T1 r.face.types.length e1, .slice T2 r.face.funcs.length e2, .slice D1 r.diags.length d1] 33)).alloc (.cells #[.string r.name, .string r.source, .slice I2 r.imports.length i2, .slice T3 r.face.types.length e3, .slice T4 r.face.funcs.length e4, .slice D2 r.diags.length d2] 33)) := by go_grown
  have hzb : ((w.alloc (.cells #[.string r.name, .string r.source, .slice I1 r.imports.length i1, .slice T1 r.face.types.length e1, .slice T2 r.face.funcs.length e2, .slice D1 r.diags.length d1] 33)).alloc (.cells #[.string r.name, .string r.source, .slice I2 r.imports.length i2, .slice T3 r.face.types.length e3, .slice T4 r.face.funcs.length e4, .slice D2 r.diags.length d2] 33)).heap.size = w.heap.size + 1 + 1 := by simp only [World.size_alloc]
  generalize (w.alloc (.cells #[.string r.name, .string r.source, .slice I1 r.imports.length i1, .slice T1 r.face.types.length e1, .slice T2 r.face.funcs.length e2, .slice D1 r.diags.length d1] 33)).alloc (.cells #[.string r.name, .string r.source, .slice I2 r.imports.length i2, .slice T3 r.face.types.length e3, .slice T4 r.face.funcs.length e4, .slice D2 r.diags.length d2] 33) = W1 at hBb1 hBb2 hbb hzb ⊢
  have x0 := hBb1.at_ 0 _ rfl
  have x1 := hBb1.at_ 1 _ rfl
  have x2 := hBb1.at_ 2 _ rfl
  have x3 := hBb1.at_ 3 _ rfl
  have x4 := hBb1.at_ 4 _ rfl
  have x5 := hBb1.at_ 5 _ rfl
  have y0 := hBb2.at_ 0 _ rfl
  have y1 := hBb2.at_ 1 _ rfl
  have y2 := hBb2.at_ 2 _ rfl
  have y3 := hBb2.at_ 3 _ rfl
  have y4 := hBb2.at_ 4 _ rfl
  have y5 := hBb2.at_ 5 _ rfl
  have HB1 := Lib.hid hBb1; have HB2 := Lib.hid hBb2; have HB := Lib.hid hbb; have HZ := Lib.hid hzb
  clear hBb1 hBb2 hbb hzb
  go_wp2_with fail
  refine (HCI.out _ HB.out).mono ?_
  rintro e W2 ⟨rfl, hb2⟩
  have h1 := HB1.out.later hb2 HB1.out.lt
  have h2 := HB2.out.later hb2 HB2.out.lt
  have hb3 := HB.out.trans (hb2.mono HB.out.size)
  clear x0 x1 x2 x3 x4 x5 y0 y1 y2 y3 y4 y5
  have x0 := h1.at_ 0 _ rfl
  have x1 := h1.at_ 1 _ rfl
  have x2 := h1.at_ 2 _ rfl
  have x3 := h1.at_ 3 _ rfl
  have x4 := h1.at_ 4 _ rfl
  have x5 := h1.at_ 5 _ rfl
  have y0 := h2.at_ 0 _ rfl
  have y1 := h2.at_ 1 _ rfl
  have y2 := h2.at_ 2 _ rfl
  have y3 := h2.at_ 3 _ rfl
  have y4 := h2.at_ 4 _ rfl
  have y5 := h2.at_ 5 _ rfl
  have HB1a := Lib.hid h1; have HB2a := Lib.hid h2; have HB3 := Lib.hid hb3
  clear h1 h2 hb3
  clear hb2
  go_wp2_with fail
  refine (HCF.out _ HB3.out).mono ?_
  rintro e W3 ⟨rfl, hb2⟩
  have h1 := HB1a.out.later hb2 HB1a.out.lt
  have h2 := HB2a.out.later hb2 HB2a.out.lt
  have hb3 := HB3.out.trans (hb2.mono HB3.out.size)
  clear x0 x1 x2 x3 x4 x5 y0 y1 y2 y3 y4 y5
  have x0 := h1.at_ 0 _ rfl
  have x1 := h1.at_ 1 _ rfl
  have x2 := h1.at_ 2 _ rfl
  have x3 := h1.at_ 3 _ rfl
  have x4 := h1.at_ 4 _ rfl
  have x5 := h1.at_ 5 _ rfl
  have y0 := h2.at_ 0 _ rfl
  have y1 := h2.at_ 1 _ rfl
  have y2 := h2.at_ 2 _ rfl
  have y3 := h2.at_ 3 _ rfl
  have y4 := h2.at_ 4 _ rfl
  have y5 := h2.at_ 5 _ rfl
  have HB1b := Lib.hid h1; have HB2b := Lib.hid h2; have HB4 := Lib.hid hb3
  clear h1 h2 hb3
  clear hb2
  go_wp2_with fail
  refine (HCD.out _ HB4.out).mono ?_
  rintro e W4 ⟨rfl, hb2⟩
  go_wp2_with fail
  go_ret
  exact ⟨ret_bool (by simp), HB4.out.trans (hb2.mono HB4.out.size)⟩

end Go.Proofs.Ytoejhgbndehaiaa
