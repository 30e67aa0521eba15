/- The law RecordIs: its walk. -/
import Derived.Test.YtamkgphamffdcaaRecEq
import Derived.Handy
namespace Go.Proofs.Ytamkgphamffdcaa
open Go.ChangeShapes Go.WideShapes Go.ChangeAt Go.RowKit
open Go.ChangeMaps (open_string)

theorem RecordR.form {w : World} {F : Foot} {cs : List Value} {r : Record} (h : RecordR w F cs r) : ∃ I1 i1 T1 e1 T2 e2 D1 d1, cs = [.string r.name, .string r.source, .slice I1 r.imports.length i1, .slice T1 r.face.types.length e1, .slice T2 r.face.funcs.length e2, .slice D1 r.diags.length d1] := by
  obtain ⟨iv, tv, fv, dv, rfl, _, _, hi, hf, hd⟩ := h
  obtain ⟨T1, e1, T2, e2, h2⟩ := hf.form
  injection h2 with h2 h3
  injection h3 with h3 _
  subst h2; subst h3
  obtain ⟨I1, i1, rfl, _⟩ := hi.form
  obtain ⟨D1, d1, rfl, _⟩ := hd.form
  exact ⟨_, _, _, _, _, _, _, _, rfl⟩

set_option maxRecDepth 100000 in
set_option maxHeartbeats 1000000 in
theorem recordIs_calls (cs : List Value) (r : Record) (s : ByteArray) (v : Value) (l : List Import) (W : World) (hr : RecordR W (old W.heap.size) cs r) (_hs : s.size ≤ 140737488355328) (hl : SliceOf ImportR 4 72 W (old W.heap.size) v l) :
    Calls Try.prog 14 #[.agg cs.toArray, .string s, v] W fun e w' => e = .returned (.bool true) ∧ Below W.heap.size W w' := by
  have hO : ∀ k, old W.heap.size k → k < W.heap.size := fun _ h => h
  have hc := fun U (hU : Below W.heap.size W U) => recIs_any r s l cs v (old W.heap.size) (old W.heap.size) U (lt_below hO hU) (lt_below hO hU) (RecordR.stays W U _ _ cs r hr (fun _ h => h) (Keeps.of_below hU hO)) (hl.up ImportR.stays hO hU)
  have hd := fun U (hU : Below W.heap.size W U) => isRecord_any r s l cs v (old W.heap.size) (old W.heap.size) U (lt_below hO hU) (lt_below hO hU) (RecordR.stays W U _ _ cs r hr (fun _ h => h) (Keeps.of_below hU hO)) (hl.up ImportR.stays hO hU)
  obtain ⟨I1, i1, T1, e1, T2, e2, D1, d1, rfl⟩ := RecordR.form hr
  obtain ⟨L1, l1, rfl, _⟩ := hl.form
  generalize recIs r s l = z at hc hd
  have HC := Lib.hid hc
  have HD := Lib.hid hd
  clear hc hd hr hl
  go_enter Try.func14, Try.ntmps14
  go_wp2_with fail
  have hB := Box.made W 40 #[.string r.name, .string r.source, .slice I1 r.imports.length i1, .slice T1 r.face.types.length e1, .slice T2 r.face.funcs.length e2, .slice D1 r.diags.length d1]
  have hb0 : Below W.heap.size W (W.alloc (.cells #[.string r.name, .string r.source, .slice I1 r.imports.length i1, .slice T1 r.face.types.length e1, .slice T2 r.face.funcs.length e2, .slice D1 r.diags.length d1] 40)) := by go_grown
  generalize W.alloc (.cells #[.string r.name, .string r.source, .slice I1 r.imports.length i1, .slice T1 r.face.types.length e1, .slice T2 r.face.funcs.length e2, .slice D1 r.diags.length d1] 40) = W1 at hB hb0 ⊢
  refine (HC.out _ hb0).mono ?_
  rintro e w' ⟨rfl, hb⟩
  have hB1 := hB.later hb hB.lt
  have hb1 := hb0.trans (hb.mono hb0.size)
  have a0 := hB1.at_ 0 _ rfl
  have a1 := hB1.at_ 1 _ rfl
  have a2 := hB1.at_ 2 _ rfl
  have a3 := hB1.at_ 3 _ rfl
  have a4 := hB1.at_ 4 _ rfl
  have a5 := hB1.at_ 5 _ rfl
  have HB := Lib.hid hb1
  clear hB hB1 hb hb1 hb0
  go_wp2_with fail
  refine (HD.out _ HB.out).mono ?_
  rintro e w2 ⟨rfl, hb2⟩
  go_wp2
  go_ret
  exact ⟨ret_bool (by simp), HB.out.trans (hb2.mono HB.out.size)⟩

end Go.Proofs.Ytamkgphamffdcaa
