/- The law TreeReads: its walk. -/
import Derived.Test.YtafhepilcmimlaaGreatDoorSameTree
import Derived.Test.YtafhepilcmimlaaGreatDoorRefModule
namespace Go.Proofs.YtafhepilcmimlaaGreatDoor
open Go.RowKit Go.Shelf

set_option maxRecDepth 100000 in
set_option maxHeartbeats 2000000 in
theorem treeReads_calls (s : ByteArray) (mx : Int) (W : World) (hs : s.size ≤ 140737488355328) (hT : Tabs W mx) :
    Calls Tryz.prog 3 #[.string s] W fun e w' => e = .returned (.bool true) ∧ Below W.heap.size W w' := by
  have h1 := treeRead_any s W mx hT
  have h2 := fun U => moduleOf_any s U
  obtain ⟨⟨m, k⟩, hE⟩ : ∃ E, readR s = E := ⟨_, rfl⟩
  rw [hE] at h1
  simp only [hE] at h2
  have H1 := Lib.hid h1; have H2 := Lib.hid h2
  clear h1 h2
  clear hT hE
  go_enter Tryz.func3, Tryz.ntmps3
  go_wp2_with fail
  refine H1.out.mono ?_
  rintro e W1 ⟨v1, v2, v3, rfl, hb1, hm1⟩
  dsimp only at hm1 ⊢
  obtain ⟨U1, u1, T1, t1, X1, x1, hcs, _⟩ := ModuleR.form hm1
  simp only [List.cons.injEq, and_true] at hcs
  obtain ⟨rfl, rfl, rfl⟩ := hcs
  have HB1 := Lib.hid hb1; have HM1 := Lib.hid hm1
  clear hb1 hm1
  go_upto_region 2 with fail
  have hBa := Box.made W1 26 #[.slice U1 m.uses.length u1, .slice T1 m.types.length t1, .slice X1 m.funcs.length x1]
  have hba : Below W1.heap.size W1 (W1.alloc (.cells #[.slice U1 m.uses.length u1, .slice T1 m.types.length t1, .slice X1 m.funcs.length x1] 26)) := by go_grown
  have hza : (W1.alloc (.cells #[.slice U1 m.uses.length u1, .slice T1 m.types.length t1, .slice X1 m.funcs.length x1] 26)).heap.size = W1.heap.size + 1 := by simp
  generalize W1.alloc (.cells #[.slice U1 m.uses.length u1, .slice T1 m.types.length t1, .slice X1 m.funcs.length x1] 26) = W2 at hBa hba hza ⊢
  have hb2 := HB1.out.trans (hba.mono HB1.out.size)
  have hm2 := ModuleR.stays.later HM1.out hba fresh_lt
  have hs2 := hba.size
  have HB2 := Lib.hid hb2; have HM2 := Lib.hid hm2; have HA2 := Lib.hid hBa
  clear hb2 hm2 hBa
  clear hba hza HB1 HM1
  go_wp2_with fail
  refine (H2.out W2).mono ?_
  rintro e W3 ⟨v1, v2, v3, rfl, hb3, hm3⟩
  dsimp only at hm3 ⊢
  obtain ⟨U2, u2, T2, t2, X2, x2, hcs, _⟩ := ModuleR.form hm3
  simp only [List.cons.injEq, and_true] at hcs
  obtain ⟨rfl, rfl, rfl⟩ := hcs
  have hb3' := HB2.out.trans (hb3.mono HB2.out.size)
  have hA3 := HA2.out.later hb3 HA2.out.lt
  have hm2 := ModuleR.stays.later HM2.out hb3 (fun k hk => by have := hk.2; omega)
  have hs3 := hb3.size
  have HB3 := Lib.hid hb3'; have HM3 := Lib.hid hm2; have HM4 := Lib.hid hm3; have HA3 := Lib.hid hA3
  clear hb3' hm2 hm3 hA3
  clear hb3 HB2 HM2 HA2
  go_upto_region 3 with fail
  have hBb := Box.made W3 26 #[.slice U2 m.uses.length u2, .slice T2 m.types.length t2, .slice X2 m.funcs.length x2]
  have hbb : Below W3.heap.size W3 (W3.alloc (.cells #[.slice U2 m.uses.length u2, .slice T2 m.types.length t2, .slice X2 m.funcs.length x2] 26)) := by go_grown
  have hzb : (W3.alloc (.cells #[.slice U2 m.uses.length u2, .slice T2 m.types.length t2, .slice X2 m.funcs.length x2] 26)).heap.size = W3.heap.size + 1 := by simp
  generalize W3.alloc (.cells #[.slice U2 m.uses.length u2, .slice T2 m.types.length t2, .slice X2 m.funcs.length x2] 26) = W4 at hBb hbb hzb ⊢
  have hb4 := HB3.out.trans (hbb.mono HB3.out.size)
  have hA4 := HA3.out.later hbb HA3.out.lt
  have hm1 := ModuleR.stays.later HM3.out hbb (fun k hk => by have := hk.2; omega)
  have hm2 := ModuleR.stays.later HM4.out hbb fresh_lt
  have hs4 := hbb.size
  have hc := same_module m _ _ _ _ W4 (fun k hk => by have := hk.2; omega) (fun k hk => by have := hk.2; omega) hm1 hm2
  have a0 := hA4.at_ 0 _ rfl
  have a1 := hA4.at_ 1 _ rfl
  have a2 := hA4.at_ 2 _ rfl
  have b0 := hBb.at_ 0 _ rfl
  have b1 := hBb.at_ 1 _ rfl
  have b2 := hBb.at_ 2 _ rfl
  have HB4 := Lib.hid hb4; have HC := Lib.hid hc
  clear hb4 hc
  clear hbb hzb hm1 hm2 HB3 HM3 HM4 HA3 hA4 hBb
  go_wp2_with fail
  refine HC.out.mono ?_
  rintro e W5 ⟨rfl, hb5⟩
  have hb5' := HB4.out.trans (hb5.mono HB4.out.size)
  have HB5 := Lib.hid hb5'
  clear hb5'
  clear hb5
  go_wp2_with fail
  go_ret
  exact ⟨ret_bool (by simp), HB5.out⟩

end Go.Proofs.YtafhepilcmimlaaGreatDoor
