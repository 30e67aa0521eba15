/- The law TreesBad: its walk. -/
import Derived.Test.YtafhepilcmimlaaGreatDoorBadPlain
import Derived.Test.YtafhepilcmimlaaGreatDoorPicked
import Derived.Test.YtafhepilcmimlaaGreatDoorTreeRead
namespace Go.Proofs.YtafhepilcmimlaaGreatDoor
open Go.RowKit Go.Shelf

theorem repeat1_any (c : UInt8) (k : Nat) (w : World) (hk : k ≤ 140737488355328) : Calls Tryz.prog 12 #[.string ⟨#[c]⟩, .int .i64 k] w fun e w' => e = .returned (.string (lit (List.replicate k c))) ∧ Below w.heap.size w w' :=
  (Tryz.strings_Repeat ⟨#[c]⟩ k w (by omega) (by show 1 * k ≤ _; omega)).mono fun e w' ⟨he, hw⟩ => ⟨by rw [he, show (⟨#[c]⟩ : ByteArray).data.toList = [c] from rfl, repeat_one]; rfl, hw⟩
/-- A call that reads a module, and what is told of its result's rows. -/
def ReadTells (u t x : Nat) (k : Int) (w : World) (e : Ending) (w' : World) : Prop := ∃ U cu T ct X cx, e = .returned (.tuple #[.agg #[.slice U u cu, .slice T t ct, .slice X x cx], .int .i64 k]) ∧ Below w.heap.size w w'
theorem tells_of {E : Module × Int} {w w' : World} {e : Ending} (h : ReadGave E w e w') : ReadTells E.1.uses.length E.1.types.length E.1.funcs.length E.2 w e w' := by
  obtain ⟨v1, v2, v3, rfl, hb, hm⟩ := h
  obtain ⟨U, u, T, t, X, x, hcs, _⟩ := ModuleR.form hm
  simp only [List.cons.injEq, and_true] at hcs
  obtain ⟨rfl, rfl, rfl⟩ := hcs
  exact ⟨_, _, _, _, _, _, rfl, hb⟩

set_option maxRecDepth 100000 in
set_option maxHeartbeats 4000000 in
theorem treesBad_calls (n1 : Int) (mx : Int) (w : World) (h1 : I64 n1) (hT : Tabs w mx) :
    Calls Tryz.prog 5 #[.int .i64 n1] w fun e w' => e = .returned (.bool true) ∧ Below w.heap.size w w' := by
  have hp : ∀ U, Calls Tryz.prog 11 #[.int .i64 n1, .int .i64 24] U fun e w' => e = .returned (.int .i64 (pickN n1 24)) ∧ U = w' := fun U => picked_any n1 24 (by decide) h1 U
  have hp1 := pickN_lt n1 (many := 24) (by decide)
  generalize pickN n1 24 = p at hp hp1
  have hr0 : ∀ U, Calls Tryz.prog 12 #[.string ⟨#[40]⟩, .int .i64 40] U fun e w' => e = .returned (.string (lit (List.replicate 40 40))) ∧ Below U.heap.size U w' := fun U => repeat1_any 40 40 U (by decide)
  have hr1 : ∀ U, Calls Tryz.prog 12 #[.string ⟨#[41]⟩, .int .i64 40] U fun e w' => e = .returned (.string (lit (List.replicate 40 41))) ∧ Below U.heap.size U w' := fun U => repeat1_any 41 40 U (by decide)
  have hc0 := fun U (hU : Below w.heap.size w U) => (treeRead_any (oddTS p ++ ⟨#[10]⟩) U mx (hT.later hU)).mono fun _ _ h => tells_of h
  rw [oddT_bad hp1] at hc0
  have hc1 := fun U (hU : Below w.heap.size w U) => (treeRead_any (headT ++ deepT 40) U mx (hT.later hU)).mono fun _ _ h => tells_of h
  have hc2 := fun U (hU : Below w.heap.size w U) => (treeRead_any (headT ++ (deepT 40).extract 1 80) U mx (hT.later hU)).mono fun _ _ h => tells_of h
  rw [deep_bad] at hc1
  rw [deep_ok] at hc2
  generalize (readR (headT ++ deepT 40)).1.uses.length = a1 at hc1
  generalize (readR (headT ++ deepT 40)).1.types.length = a2 at hc1
  generalize (readR (headT ++ deepT 40)).1.funcs.length = a3 at hc1
  generalize (readR (headT ++ (deepT 40).extract 1 80)).1.uses.length = b1 at hc2
  generalize (readR (headT ++ (deepT 40).extract 1 80)).1.types.length = b2 at hc2
  generalize (readR (headT ++ (deepT 40).extract 1 80)).1.funcs.length = b3 at hc2
  have hoc := oddT_cell hp1
  have hosz := oddT_size p hp1
  obtain ⟨S0, hS0⟩ : ∃ z, oddTS p = z := ⟨_, rfl⟩
  rw [hS0] at hc0 hoc hosz
  have hdz := deep_size
  unfold deepT at hc1 hc2 hdz
  obtain ⟨X, hX⟩ : ∃ z, lit (List.replicate 40 40) = z := ⟨_, rfl⟩
  obtain ⟨Y, hY⟩ : ∃ z, lit (List.replicate 40 41) = z := ⟨_, rfl⟩
  have hxs : X.size = 40 := by rw [← hX, lit_size]; rfl
  have hys : Y.size = 40 := by rw [← hY, lit_size]; rfl
  rw [hX] at hr0 hc1 hc2 hdz
  rw [hY] at hr1 hc1 hc2 hdz
  unfold headT at hc1 hc2
  obtain ⟨D, hD⟩ : ∃ z, X ++ ⟨#[49]⟩ ++ Y = z := ⟨_, rfl⟩
  rw [hD] at hc1 hc2 hdz
  simp only [noMod, List.length_nil] at hc0
  have HP := Lib.hid hp; have HR0 := Lib.hid hr0; have HR1 := Lib.hid hr1; have HC0 := Lib.hid hc0; have HC1 := Lib.hid hc1; have HC2 := Lib.hid hc2; have HOC := Lib.hid hoc; have HD := Lib.hid hD
  clear hp hr0 hr1 hc0 hc1 hc2 hoc hD
  clear hT hS0 hX hY
  have s1 : ¬ 9223372036854775807 < X.size + 1 := by omega
  have s2 : ¬ 9223372036854775807 < X.size + 1 + Y.size := by omega
  have s3 : ¬ 9223372036854775807 < 16 + D.size := by omega
  have s4 : ¬ 9223372036854775807 < S0.size + 1 := by omega
  clear hxs hys
  go_enter Tryz.func5, Tryz.ntmps5
  go_upto_region 2 with fail
  have hBo := Box.made w 9 #[.string ⟨#[117, 115, 101]⟩, .string ⟨#[117, 115, 101, 32, 105, 110, 116]⟩, .string ⟨#[117, 115, 101, 32, 97, 32, 98]⟩, .string ⟨#[116, 121, 112, 101, 32, 97]⟩, .string ⟨#[116, 121, 112, 101, 32, 97, 32, 61]⟩, .string ⟨#[116, 121, 112, 101, 32, 97, 32, 61, 32, 91, 105, 110, 116]⟩, .string ⟨#[116, 121, 112, 101, 32, 97, 32, 61, 32, 105, 110, 116, 93]⟩, .string ⟨#[116, 121, 112, 101, 32, 102, 117, 110, 99, 32, 61, 32, 105, 110, 116]⟩, .string ⟨#[102, 117, 110, 99, 32, 97]⟩, .string ⟨#[102, 117, 110, 99, 32, 97, 40, 41, 58, 32, 105, 110, 116]⟩, .string ⟨#[102, 117, 110, 99, 32, 97, 40, 58, 32, 105, 110, 116, 32, 61, 32, 49]⟩, .string ⟨#[102, 117, 110, 99, 32, 97, 40, 112, 32, 105, 110, 116, 41, 58, 32, 105, 110, 116, 32, 61, 32, 49]⟩, .string ⟨#[102, 117, 110, 99, 32, 97, 40, 112, 58, 32, 105, 110, 116, 44, 41, 58, 32, 105, 110, 116, 32, 61, 32, 49]⟩, .string ⟨#[102, 117, 110, 99, 32, 97, 60, 62, 40, 41, 58, 32, 105, 110, 116, 32, 61, 32, 49]⟩, .string ⟨#[102, 117, 110, 99, 32, 97, 40, 41, 58, 32, 105, 110, 116, 32, 61, 32, 49, 32, 43]⟩, .string ⟨#[102, 117, 110, 99, 32, 97, 40, 41, 58, 32, 105, 110, 116, 32, 61, 32, 43, 32, 49]⟩, .string ⟨#[102, 117, 110, 99, 32, 97, 40, 41, 58, 32, 105, 110, 116, 32, 61, 32, 91]⟩, .string ⟨#[102, 117, 110, 99, 32, 97, 40, 41, 58, 32, 105, 110, 116, 32, 61, 32, 91, 93]⟩, .string ⟨#[102, 117, 110, 99, 32, 97, 40, 41, 58, 32, 105, 110, 116, 32, 61, 32, 98, 46, 99]⟩, .string ⟨#[102, 117, 110, 99, 32, 97, 40, 41, 58, 32, 105, 110, 116, 32, 61, 32, 40, 49]⟩, .string ⟨#[102, 117, 110, 99, 32, 97, 40, 41, 58, 32, 105, 110, 116, 32, 61, 32, 112, 91]⟩, .string ⟨#[108, 101, 116, 32, 97, 32, 61, 32, 49]⟩, .string ⟨#[49]⟩, .string ⟨#[97]⟩]
  have hbo : Below w.heap.size w (w.alloc (.cells #[.string ⟨#[117, 115, 101]⟩, .string ⟨#[117, 115, 101, 32, 105, 110, 116]⟩, .string ⟨#[117, 115, 101, 32, 97, 32, 98]⟩, .string ⟨#[116, 121, 112, 101, 32, 97]⟩, .string ⟨#[116, 121, 112, 101, 32, 97, 32, 61]⟩, .string ⟨#[116, 121, 112, 101, 32, 97, 32, 61, 32, 91, 105, 110, 116]⟩, .string ⟨#[116, 121, 112, 101, 32, 97, 32, 61, 32, 105, 110, 116, 93]⟩, .string ⟨#[116, 121, 112, 101, 32, 102, 117, 110, 99, 32, 61, 32, 105, 110, 116]⟩, .string ⟨#[102, 117, 110, 99, 32, 97]⟩, .string ⟨#[102, 117, 110, 99, 32, 97, 40, 41, 58, 32, 105, 110, 116]⟩, .string ⟨#[102, 117, 110, 99, 32, 97, 40, 58, 32, 105, 110, 116, 32, 61, 32, 49]⟩, .string ⟨#[102, 117, 110, 99, 32, 97, 40, 112, 32, 105, 110, 116, 41, 58, 32, 105, 110, 116, 32, 61, 32, 49]⟩, .string ⟨#[102, 117, 110, 99, 32, 97, 40, 112, 58, 32, 105, 110, 116, 44, 41, 58, 32, 105, 110, 116, 32, 61, 32, 49]⟩, .string ⟨#[102, 117, 110, 99, 32, 97, 60, 62, 40, 41, 58, 32, 105, 110, 116, 32, 61, 32, 49]⟩, .string ⟨#[102, 117, 110, 99, 32, 97, 40, 41, 58, 32, 105, 110, 116, 32, 61, 32, 49, 32, 43]⟩, .string ⟨#[102, 117, 110, 99, 32, 97, 40, 41, 58, 32, 105, 110, 116, 32, 61, 32, 43, 32, 49]⟩, .string ⟨#[102, 117, 110, 99, 32, 97, 40, 41, 58, 32, 105, 110, 116, 32, 61, 32, 91]⟩, .string ⟨#[102, 117, 110, 99, 32, 97, 40, 41, 58, 32, 105, 110, 116, 32, 61, 32, 91, 93]⟩, .string ⟨#[102, 117, 110, 99, 32, 97, 40, 41, 58, 32, 105, 110, 116, 32, 61, 32, 98, 46, 99]⟩, .string ⟨#[102, 117, 110, 99, 32, 97, 40, 41, 58, 32, 105, 110, 116, 32, 61, 32, 40, 49]⟩, .string ⟨#[102, 117, 110, 99, 32, 97, 40, 41, 58, 32, 105, 110, 116, 32, 61, 32, 112, 91]⟩, .string ⟨#[108, 101, 116, 32, 97, 32, 61, 32, 49]⟩, .string ⟨#[49]⟩, .string ⟨#[97]⟩] 9)) := by go_grown
  have hzo : (w.alloc (.cells #[.string ⟨#[117, 115, 101]⟩, .string ⟨#[117, 115, 101, 32, 105, 110, 116]⟩, .string ⟨#[117, 115, 101, 32, 97, 32, 98]⟩, .string ⟨#[116, 121, 112, 101, 32, 97]⟩, .string ⟨#[116, 121, 112, 101, 32, 97, 32, 61]⟩, .string ⟨#[116, 121, 112, 101, 32, 97, 32, 61, 32, 91, 105, 110, 116]⟩, .string ⟨#[116, 121, 112, 101, 32, 97, 32, 61, 32, 105, 110, 116, 93]⟩, .string ⟨#[116, 121, 112, 101, 32, 102, 117, 110, 99, 32, 61, 32, 105, 110, 116]⟩, .string ⟨#[102, 117, 110, 99, 32, 97]⟩, .string ⟨#[102, 117, 110, 99, 32, 97, 40, 41, 58, 32, 105, 110, 116]⟩, .string ⟨#[102, 117, 110, 99, 32, 97, 40, 58, 32, 105, 110, 116, 32, 61, 32, 49]⟩, .string ⟨#[102, 117, 110, 99, 32, 97, 40, 112, 32, 105, 110, 116, 41, 58, 32, 105, 110, 116, 32, 61, 32, 49]⟩, .string ⟨#[102, 117, 110, 99, 32, 97, 40, 112, 58, 32, 105, 110, 116, 44, 41, 58, 32, 105, 110, 116, 32, 61, 32, 49]⟩, .string ⟨#[102, 117, 110, 99, 32, 97, 60, 62, 40, 41, 58, 32, 105, 110, 116, 32, 61, 32, 49]⟩, .string ⟨#[102, 117, 110, 99, 32, 97, 40, 41, 58, 32, 105, 110, 116, 32, 61, 32, 49, 32, 43]⟩, .string ⟨#[102, 117, 110, 99, 32, 97, 40, 41, 58, 32, 105, 110, 116, 32, 61, 32, 43, 32, 49]⟩, .string ⟨#[102, 117, 110, 99, 32, 97, 40, 41, 58, 32, 105, 110, 116, 32, 61, 32, 91]⟩, .string ⟨#[102, 117, 110, 99, 32, 97, 40, 41, 58, 32, 105, 110, 116, 32, 61, 32, 91, 93]⟩, .string ⟨#[102, 117, 110, 99, 32, 97, 40, 41, 58, 32, 105, 110, 116, 32, 61, 32, 98, 46, 99]⟩, .string ⟨#[102, 117, 110, 99, 32, 97, 40, 41, 58, 32, 105, 110, 116, 32, 61, 32, 40, 49]⟩, .string ⟨#[102, 117, 110, 99, 32, 97, 40, 41, 58, 32, 105, 110, 116, 32, 61, 32, 112, 91]⟩, .string ⟨#[108, 101, 116, 32, 97, 32, 61, 32, 49]⟩, .string ⟨#[49]⟩, .string ⟨#[97]⟩] 9)).heap.size = w.heap.size + 1 := by simp
  generalize w.alloc (.cells #[.string ⟨#[117, 115, 101]⟩, .string ⟨#[117, 115, 101, 32, 105, 110, 116]⟩, .string ⟨#[117, 115, 101, 32, 97, 32, 98]⟩, .string ⟨#[116, 121, 112, 101, 32, 97]⟩, .string ⟨#[116, 121, 112, 101, 32, 97, 32, 61]⟩, .string ⟨#[116, 121, 112, 101, 32, 97, 32, 61, 32, 91, 105, 110, 116]⟩, .string ⟨#[116, 121, 112, 101, 32, 97, 32, 61, 32, 105, 110, 116, 93]⟩, .string ⟨#[116, 121, 112, 101, 32, 102, 117, 110, 99, 32, 61, 32, 105, 110, 116]⟩, .string ⟨#[102, 117, 110, 99, 32, 97]⟩, .string ⟨#[102, 117, 110, 99, 32, 97, 40, 41, 58, 32, 105, 110, 116]⟩, .string ⟨#[102, 117, 110, 99, 32, 97, 40, 58, 32, 105, 110, 116, 32, 61, 32, 49]⟩, .string ⟨#[102, 117, 110, 99, 32, 97, 40, 112, 32, 105, 110, 116, 41, 58, 32, 105, 110, 116, 32, 61, 32, 49]⟩, .string ⟨#[102, 117, 110, 99, 32, 97, 40, 112, 58, 32, 105, 110, 116, 44, 41, 58, 32, 105, 110, 116, 32, 61, 32, 49]⟩, .string ⟨#[102, 117, 110, 99, 32, 97, 60, 62, 40, 41, 58, 32, 105, 110, 116, 32, 61, 32, 49]⟩, .string ⟨#[102, 117, 110, 99, 32, 97, 40, 41, 58, 32, 105, 110, 116, 32, 61, 32, 49, 32, 43]⟩, .string ⟨#[102, 117, 110, 99, 32, 97, 40, 41, 58, 32, 105, 110, 116, 32, 61, 32, 43, 32, 49]⟩, .string ⟨#[102, 117, 110, 99, 32, 97, 40, 41, 58, 32, 105, 110, 116, 32, 61, 32, 91]⟩, .string ⟨#[102, 117, 110, 99, 32, 97, 40, 41, 58, 32, 105, 110, 116, 32, 61, 32, 91, 93]⟩, .string ⟨#[102, 117, 110, 99, 32, 97, 40, 41, 58, 32, 105, 110, 116, 32, 61, 32, 98, 46, 99]⟩, .string ⟨#[102, 117, 110, 99, 32, 97, 40, 41, 58, 32, 105, 110, 116, 32, 61, 32, 40, 49]⟩, .string ⟨#[102, 117, 110, 99, 32, 97, 40, 41, 58, 32, 105, 110, 116, 32, 61, 32, 112, 91]⟩, .string ⟨#[108, 101, 116, 32, 97, 32, 61, 32, 49]⟩, .string ⟨#[49]⟩, .string ⟨#[97]⟩] 9) = W1 at hBo hbo hzo ⊢
  have hcl := hBo.at_ p (.string S0) HOC.out
  have hpz : (p : Int) < 24 := by omega
  have HB1 := Lib.hid hbo
  clear hbo
  clear hBo hzo
  go_wp2_with (go_at_call 11; (with_reducible refine (HP.out _).mono ?_); rintro e w' ⟨rfl, rfl⟩)
  refine (HC0.out _ HB1.out).mono ?_
  rintro e W2 ⟨U, cu, T, ct, X', cx, rfl, hb2⟩
  have hb2 := below_step HB1.out hb2
  have HB2 := Lib.hid hb2
  clear hb2
  clear hcl
  go_upto_region 3 with fail
  have hBm := Box.made W2 26 #[.slice U 0 cu, .slice T 0 ct, .slice X' 0 cx]
  have hbm : Below W2.heap.size W2 (W2.alloc (.cells #[.slice U 0 cu, .slice T 0 ct, .slice X' 0 cx] 26)) := by go_grown
  have hzm : (W2.alloc (.cells #[.slice U 0 cu, .slice T 0 ct, .slice X' 0 cx] 26)).heap.size = W2.heap.size + 1 := by simp
  generalize W2.alloc (.cells #[.slice U 0 cu, .slice T 0 ct, .slice X' 0 cx] 26) = W3 at hBm hbm hzm ⊢
  have hb3 := below_step HB2.out hbm
  have HM := Lib.hid hBm; have HB3 := Lib.hid hb3
  clear hBm hb3
  clear hbm hzm
  go_wp2_with fail
  refine (HR0.out _).mono ?_
  rintro e W4 ⟨rfl, hb4⟩
  have hm4 := HM.out.later hb4 HM.out.lt
  have hb4 := below_step HB3.out hb4
  have HM4 := Lib.hid hm4; have HB4 := Lib.hid hb4
  clear hm4 hb4
  go_wp2_with fail
  refine (HR1.out _).mono ?_
  rintro e W5 ⟨rfl, hb5⟩
  have hm5 := HM4.out.later hb5 HM4.out.lt
  have hb5 := below_step HB4.out hb5
  have HM5 := Lib.hid hm5; have HB5 := Lib.hid hb5
  clear hm5 hb5
  clear HM HM4 HB3 HB4
  go_upto_region 4 with fail
  rw [HD.out]
  go_wp2_with fail
  refine (HC1.out _ HB5.out).mono ?_
  rintro e W6 ⟨U6, cu6, T6, ct6, X6, cx6, rfl, hb6⟩
  have hm6 := HM5.out.later hb6 HM5.out.lt
  have hb6 := below_step HB5.out hb6
  have HM6 := Lib.hid hm6; have HB6 := Lib.hid hb6
  clear hm6 hb6
  clear HM5 HB5
  have hdi : (D.size : Int) = 81 := by omega
  go_wp2_with fail
  refine (HC2.out _ (by exact HB6.out.alloc HB6.out.size _)).mono ?_
  rintro e W7 ⟨U7, cu7, T7, ct7, X7, cx7, rfl, hb7⟩
  have hm7 := (HM6.out.alloc _).later hb7 (HM6.out.alloc _).lt
  have hb7 := below_stepA HB6.out hb7
  have HM7 := Lib.hid hm7; have HB7 := Lib.hid hb7
  clear hm7 hb7
  clear HM6 HB6
  go_upto_region 6 with fail
  have hBg := Box.made W7 26 #[.slice U7 b1 cu7, .slice T7 b2 ct7, .slice X7 b3 cx7]
  have hbg : Below W7.heap.size W7 (W7.alloc (.cells #[.slice U7 b1 cu7, .slice T7 b2 ct7, .slice X7 b3 cx7] 26)) := by go_grown
  have hzg : (W7.alloc (.cells #[.slice U7 b1 cu7, .slice T7 b2 ct7, .slice X7 b3 cx7] 26)).heap.size = W7.heap.size + 1 := by simp
  generalize W7.alloc (.cells #[.slice U7 b1 cu7, .slice T7 b2 ct7, .slice X7 b3 cx7] 26) = W8 at hBg hbg hzg ⊢
  have hm8 := HM7.out.later hbg HM7.out.lt
  have hb8 := below_step HB7.out hbg
  have x0 := hm8.at_ 0 _ rfl
  have x1 := hm8.at_ 1 _ rfl
  have x2 := hm8.at_ 2 _ rfl
  have HB8 := Lib.hid hb8
  clear hb8
  clear hBg hbg hzg hm8
  go_wp2_with fail
  go_ret
  exact ⟨rfl, HB8.out⟩

end Go.Proofs.YtafhepilcmimlaaGreatDoor
