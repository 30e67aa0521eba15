/- The law SignOnes: its walk. -/
import Derived.Test.YtejiaimcgmpliaaSigOf
import Derived.Test.YtejiaimcgmpliaaRefl
import Derived.Handy
namespace Go.Proofs.Ytejiaimcgmpliaa
open Go.ChangeShapes Go.WideShapes Go.ChangeAt Go.RowKit
open Go.ChangeMaps (open_string)

set_option maxRecDepth 100000 in
set_option maxHeartbeats 8000000 in
theorem signOnes_calls (cs : List Value) (m : Module) (v : Value) (l : List Import) (at_ : Int) (W : World) (hm : ModuleR W (old W.heap.size) cs m) (hl : SliceOf ImportR 4 72 W (old W.heap.size) v l) (_hat : I64 at_) :
    Calls Try.prog 5 #[.agg cs.toArray, v, .int .i64 at_] W fun e w' => e = .returned (.bool true) ∧ Below W.heap.size W w' := by
  have hmy := fun U (hU : Below W.heap.size W U) => may_any m l cs v (old U.heap.size) (old U.heap.size) U old_lt old_lt (now_up ModuleR.stays hm hU) (now_lup ImportR.stays hl hU)
  obtain ⟨U1, u1, T1, e1, T2, e2, rfl, _⟩ := ModuleR.form hm
  obtain ⟨L1, l1, rfl, _⟩ := hl.form
  obtain ⟨z, hz⟩ : ∃ z, mayB m l = z := ⟨_, rfl⟩
  rw [hz] at hmy
  have HMY := Lib.hid hmy; have HZ := Lib.hid hz; have HM := Lib.hid hm; have HL := Lib.hid hl
  clear hmy hz hm hl
  go_enter Try.func5, Try.ntmps5
  go_upto_region 1 with fail
  have hBm := Box.made W 32 #[.slice U1 m.uses.length u1, .slice T1 m.types.length e1, .slice T2 m.funcs.length e2]
  have hbm : Below W.heap.size W (W.alloc (.cells #[.slice U1 m.uses.length u1, .slice T1 m.types.length e1, .slice T2 m.funcs.length e2] 32)) := by go_grown
  have hzm : (W.alloc (.cells #[.slice U1 m.uses.length u1, .slice T1 m.types.length e1, .slice T2 m.funcs.length e2] 32)).heap.size = W.heap.size + 1 := by simp
  generalize W.alloc (.cells #[.slice U1 m.uses.length u1, .slice T1 m.types.length e1, .slice T2 m.funcs.length e2] 32) = W1 at hBm hbm hzm ⊢
  have m0 := hBm.at_ 0 _ rfl
  have m1 := hBm.at_ 1 _ rfl
  have m2 := hBm.at_ 2 _ rfl
  have hq1 := hBm.lt
  have HB := Lib.hid hbm; have HBm := Lib.hid hBm
  clear hbm hBm
  clear hzm
  go_wp2_with fail
  refine (HMY.out _ HB.out).mono ?_
  rintro e W2 ⟨rfl, hb2⟩
  have hB2 := HBm.out.later hb2 hq1
  have hbw := HB.out.trans (hb2.mono HB.out.size)
  clear m0 m1 m2 hq1
  have hq1 := hB2.lt
  have m0 := hB2.at_ 0 _ rfl
  have m1 := hB2.at_ 1 _ rfl
  have m2 := hB2.at_ 2 _ rfl
  have HBW := Lib.hid hbw; have HB2 := Lib.hid hB2
  clear hbw hB2
  clear hb2
  cases z with
  | false =>
    go_wp2_with fail
    go_ret
    exact ⟨rfl, HBW.out⟩
  | true =>
  by_cases ha : at_ < 0
  · have ha' : decide (at_ < 0) = true := decide_eq_true ha
    go_wp2_with fail
    go_ret
    exact ⟨rfl, HBW.out⟩
  by_cases hb : (m.funcs.length : Int) ≤ at_
  · go_wp2_with fail
    go_ret
    exact ⟨rfl, HBW.out⟩
  obtain ⟨k, rfl⟩ : ∃ k : Nat, at_ = k := ⟨at_.toNat, by omega⟩
  have hk : k < m.funcs.length := by omega
  have hkz : (k : Int) < (m.funcs.length : Int) := by omega
  obtain ⟨hm0, hl0⟩ := may_both HZ.out
  have hca := fun U (hU : Below W2.heap.size W2 U) => signOne_any m l hm0 hl0 k _ _ U hk (now_up ModuleR.stays HM.out (HBW.out.trans (hU.mono HBW.out.size))) (now_lup ImportR.stays HL.out (HBW.out.trans (hU.mono HBW.out.size)))
  have hda := fun U (hU : Below W2.heap.size W2 U) => sigOf_any m l hm0 hl0 k _ _ U hk (now_up ModuleR.stays HM.out (HBW.out.trans (hU.mono HBW.out.size))) (now_lup ImportR.stays HL.out (HBW.out.trans (hU.mono HBW.out.size)))
  generalize sigOne m l k = r at hca hda
  obtain ⟨S, C⟩ := r
  dsimp only at hca hda
  have HCA := Lib.hid hca; have HDA := Lib.hid hda
  clear hca hda
  clear hm0 hl0
  go_wp2_with fail
  refine (HCA.out _ (Below.refl _ _)).mono ?_
  rintro e W3 ⟨ds, rfl, hb3, hs3⟩
  obtain ⟨pv, rfl, hs3⟩ : ∃ pv, ds = [.string S.name, pv, .string S.result] ∧ SigR W3 (fresh W2.heap.size W3.heap.size) [.string S.name, pv, .string S.result] S := by
    obtain ⟨pv, rfl, h1, h2, h3⟩ := hs3
    exact ⟨pv, rfl, pv, rfl, h1, h2, h3⟩
  obtain ⟨A5, c5, rfl⟩ : ∃ A c, pv = .slice A S.params.length c := by
    obtain ⟨_, he, _, _, h3⟩ := hs3
    simp only [List.cons.injEq, and_true, true_and] at he
    subst he
    obtain ⟨A, c, rfl, _⟩ := h3.form
    exact ⟨_, _, rfl⟩
  have hB3 := HB2.out.later hb3 hq1
  clear m0 m1 m2
  go_upto_region 4 with fail
  have hBs := Box.made W3 45 #[.string S.name, .slice A5 S.params.length c5, .string S.result]
  have hbs : Below W3.heap.size W3 (W3.alloc (.cells #[.string S.name, .slice A5 S.params.length c5, .string S.result] 45)) := by go_grown
  have hzs : (W3.alloc (.cells #[.string S.name, .slice A5 S.params.length c5, .string S.result] 45)).heap.size = W3.heap.size + 1 := by simp
  generalize W3.alloc (.cells #[.string S.name, .slice A5 S.params.length c5, .string S.result] 45) = W4 at hBs hbs hzs ⊢
  have hB4 := hB3.later hbs hB3.lt
  have hs4 := SigR.stays.later hs3 hbs (fun k hk => hk.2)
  have hb4 := hb3.trans (hbs.mono hb3.size)
  have m0 := hB4.at_ 0 _ rfl
  have m1 := hB4.at_ 1 _ rfl
  have m2 := hB4.at_ 2 _ rfl
  have HB4 := Lib.hid hb4; have HS4 := Lib.hid hs4; have HBs := Lib.hid hBs; have HBm4 := Lib.hid hB4; have HZS := Lib.hid hzs
  clear hb4 hs4 hBs hB4 hzs
  clear hB3 hb3 hs3 hbs
  go_wp2_with fail
  refine (HDA.out _ HB4.out).mono ?_
  rintro e W5 ⟨ds, rfl, hb5, hs5⟩
  obtain ⟨pv, rfl, hs5⟩ : ∃ pv, ds = [.string S.name, pv, .string S.result] ∧ SigR W5 (fresh W4.heap.size W5.heap.size) [.string S.name, pv, .string S.result] S := by
    obtain ⟨pv, rfl, h1, h2, h3⟩ := hs5
    exact ⟨pv, rfl, pv, rfl, h1, h2, h3⟩
  obtain ⟨A6, c6, rfl⟩ : ∃ A c, pv = .slice A S.params.length c := by
    obtain ⟨_, he, _, _, h3⟩ := hs5
    simp only [List.cons.injEq, and_true, true_and] at he
    subst he
    obtain ⟨A, c, rfl, _⟩ := h3.form
    exact ⟨_, _, rfl⟩
  clear m0 m1 m2
  go_upto_region 5 with fail
  have hBt := Box.made W5 45 #[.string S.name, .slice A6 S.params.length c6, .string S.result]
  have hbt : Below W5.heap.size W5 (W5.alloc (.cells #[.string S.name, .slice A6 S.params.length c6, .string S.result] 45)) := by go_grown
  have hzt : (W5.alloc (.cells #[.string S.name, .slice A6 S.params.length c6, .string S.result] 45)).heap.size = W5.heap.size + 1 := by simp
  generalize W5.alloc (.cells #[.string S.name, .slice A6 S.params.length c6, .string S.result] 45) = W6 at hBt hbt hzt ⊢
  have hs6 := SigR.stays.later hs5 hbt (fun k hk => hk.2)
  have hBs6 := (HBs.out.later hb5 HBs.out.lt).later hbt (Nat.lt_of_lt_of_le HBs.out.lt hb5.size)
  have hs46 := SigR.stays.later (SigR.stays.later HS4.out hb5 (fun k hk => by have := HZS.out; have := hk.2; omega)) hbt (fun k hk => by have := HZS.out; have := hk.2; have := hb5.size; omega)
  have hb6 := (HB4.out.trans (hb5.mono HB4.out.size)).trans (hbt.mono (HB4.out.trans (hb5.mono HB4.out.size)).size)
  have hss := same_sig S S _ _ (fresh W2.heap.size W3.heap.size) (fresh W4.heap.size W5.heap.size) W6 (fun k hk => by have := HZS.out; have := hk.2; have := hb5.size; have := hbt.size; omega) (fun k hk => by have := hk.2; have := hbt.size; omega) hs46 hs6
  have s0 := hBs6.at_ 0 _ rfl
  have s1 := hBs6.at_ 1 _ rfl
  have s2 := hBs6.at_ 2 _ rfl
  have t0 := hBt.at_ 0 _ rfl
  have t1 := hBt.at_ 1 _ rfl
  have t2 := hBt.at_ 2 _ rfl
  have hbw := HBW.out.trans (hb6.mono HBW.out.size)
  have HSS := Lib.hid hss; have HBE := Lib.hid hbw
  clear hss hbw
  clear hb6 hs46 hs6 hBs6 hBt hbt hb5 hs5
  go_wp2_with fail
  refine HSS.out.mono ?_
  rintro e W7 ⟨rfl, hb7⟩
  go_wp2_with fail
  go_ret
  exact ⟨ret_bool (sigEq_self S), HBE.out.trans (hb7.mono HBE.out.size)⟩

end Go.Proofs.Ytejiaimcgmpliaa
