/- The law TokensBad: its walk. -/
import Derived.Test.YthedfpcdibhfpaaDoorBackPlain
import Derived.Test.YthedfpcdibhfpaaDoorPicked
import Derived.Test.YthedfpcdibhfpaaDoorTokShow
namespace Go.Proofs.YthedfpcdibhfpaaDoor
open Go.ChangeShapes Go.WideShapes Go.ChangeAt Go.RowKit

theorem repeat_any (c : UInt8) (k : Nat) (w : World) (hk : k ≤ 140737488355328) : Calls Tryd.prog 31 #[.string ⟨#[c]⟩, .int .i64 k] w fun e w' => e = .returned (.string (lit (List.replicate k c))) ∧ Below w.heap.size w w' :=
  (Tryd.strings_Repeat ⟨#[c]⟩ k w (by omega) (by show 1 * k ≤ _; omega)).mono fun e w' ⟨he, hw⟩ => ⟨by rw [he, show (⟨#[c]⟩ : ByteArray).data.toList = [c] from rfl, repeat_one]; rfl, hw⟩

/-- A new block as a slice of one. -/
theorem single_slice {α : Type} {R : CR α} {by_ : Nat} {w : World} {n : Nat} {t : TypeId} {cs : List Value} {x : α} {F : Foot} (hB : Box w n t cs.toArray) (hr : R w F cs x) (hF : F n) (hb : by_ ≤ 140737488355328) : SliceOf R cs.length by_ w F (.slice (some ⟨n, 0, none⟩) 1 1) [x] := by
  refine ⟨some ⟨n, 0, none⟩, 1, rfl, Nat.le_refl _, by unfold maxLen; decide, by simpa using hb, by simp, fun _ => ⟨n, 0, rfl, hF, fun i y hi => ?_⟩⟩
  cases i with
  | succ i => simp at hi
  | zero =>
    simp only [List.getElem?_cons_zero, Option.some.injEq] at hi
    subst hi
    refine ⟨cs, rfl, hr, fun j u hj => ?_⟩
    rw [Nat.zero_mul, Nat.add_zero, Nat.zero_add]
    exact hB.at_ j u (by simpa using hj)
/-- Texts that hold no tokens. -/
def oddL : List ByteArray := [⟨#[65]⟩, ⟨#[34, 110, 111, 32, 101, 110, 100]⟩, ⟨#[49, 97]⟩, ⟨#[48, 49]⟩, ⟨#[49, 48, 48, 48, 48, 48, 48]⟩, ⟨#[110, 105, 110, 101, 99, 104, 97, 114, 115]⟩, ⟨#[97, 45, 98]⟩, ⟨#[92]⟩, ⟨#[9]⟩, ⟨#[34]⟩ ++ lit (List.replicate 21 120) ++ ⟨#[34]⟩]
def oddS (p : Nat) : ByteArray := oddL.getD p ⟨#[]⟩
theorem odd_code : ∀ p, p < 10 → (cutR (oddS p)).2 = 4 := by decide +kernel
theorem odd_bad {p : Nat} (h : p < 10) : cutR (oddS p) = ([], 4) := by
  have h1 := odd_code p h
  have h2 := cutR_bad (s := oddS p) (by rw [h1]; decide)
  exact Prod.ext h2 h1
theorem odd_cell {p : Nat} (h : p < 10) : (#[Value.string ⟨#[65]⟩, .string ⟨#[34, 110, 111, 32, 101, 110, 100]⟩, .string ⟨#[49, 97]⟩, .string ⟨#[48, 49]⟩, .string ⟨#[49, 48, 48, 48, 48, 48, 48]⟩, .string ⟨#[110, 105, 110, 101, 99, 104, 97, 114, 115]⟩, .string ⟨#[97, 45, 98]⟩, .string ⟨#[92]⟩, .string ⟨#[9]⟩, .string (⟨#[34]⟩ ++ lit (List.replicate 21 120) ++ ⟨#[34]⟩)])[p]? = some (.string (oddS p)) := by
  match p, h with
  | 0, _ => rfl
  | 1, _ => rfl
  | 2, _ => rfl
  | 3, _ => rfl
  | 4, _ => rfl
  | 5, _ => rfl
  | 6, _ => rfl
  | 7, _ => rfl
  | 8, _ => rfl
  | 9, _ => rfl
theorem long_bad (k : Nat) : cutR (lit (List.replicate (1501 + k) 120)) = ([], 1) := cutR_size (by rw [lit_size, List.length_replicate]; omega)
theorem many_bad {k : Nat} (hk : k ≤ 9) : cutR (lit (List.replicate (201 + k) 44)) = ([], 1) := by
  refine cutR_many (L := List.replicate (201 + k) ⟨4, lit [44]⟩) (by rw [lit_size, List.length_replicate]; omega) ?_ (by rw [List.length_replicate]; omega)
  rw [lit_list, show 201 + k = (200 + k) + 1 by omega, List.replicate_succ, trim_other (by decide), ← List.replicate_succ, commas]
theorem kind_bad {n : Int} (h : 4 < n) (s : ByteArray) : toksR [⟨n, s⟩] = (⟨#[]⟩, 3) := toksR_bad (toks_each (by simp) (eachErr_hit (k := 0) rfl (tokErr_kind (.inr h)) (by decide) fun j hj => absurd hj (Nat.not_lt_zero _))) (by decide)

set_option maxRecDepth 100000 in
set_option maxHeartbeats 4000000 in
theorem tokensBad_calls (n1 n2 : Int) (mx : Int) (w : World) (h1 : I64 n1) (h2 : I64 n2) (hT : Tabs w mx) :
    Calls Tryd.prog 8 #[.int .i64 n1, .int .i64 n2] w fun e w' => e = .returned (.bool true) ∧ Below w.heap.size w w' := by
  have hp : ∀ U, Calls Tryd.prog 32 #[.int .i64 n1, .int .i64 10] U fun e w' => e = .returned (.int .i64 (pickN n1 10)) ∧ U = w' := fun U => picked_any n1 10 (by decide) h1 U
  have hq : ∀ U, Calls Tryd.prog 32 #[.int .i64 n2, .int .i64 9] U fun e w' => e = .returned (.int .i64 (pickN n2 9)) ∧ U = w' := fun U => picked_any n2 9 (by decide) h2 U
  have hp1 := pickN_lt n1 (many := 10) (by decide)
  have hq1 := pickN_lt n2 (many := 9) (by decide)
  generalize pickN n1 10 = p at hp hp1
  generalize pickN n2 9 = q at hq hq1
  have hr0 : ∀ U, Calls Tryd.prog 31 #[.string ⟨#[120]⟩, .int .i64 21] U fun e w' => e = .returned (.string (lit (List.replicate 21 120))) ∧ Below U.heap.size U w' := fun U => repeat_any 120 21 U (by decide)
  have hr1 := fun U => repeat_any 120 (1501 + q) U (by omega)
  have hr2 := fun U => repeat_any 44 (201 + q) U (by omega)
  rw [show ((1501 + q : Nat) : Int) = 1501 + (q : Int) by omega] at hr1
  rw [show ((201 + q : Nat) : Int) = 201 + (q : Int) by omega] at hr2
  have hc0 := fun U (hU : Below w.heap.size w U) => tokCut_any (oddS p) U mx (hT.later hU)
  have hc1 := fun U (hU : Below w.heap.size w U) => tokCut_any (lit (List.replicate (1501 + q) 120)) U mx (hT.later hU)
  have hc2 := fun U (hU : Below w.heap.size w U) => tokCut_any (lit (List.replicate (201 + q) 44)) U mx (hT.later hU)
  rw [odd_bad hp1] at hc0
  rw [long_bad] at hc1
  rw [many_bad (by omega)] at hc2
  have hsh := fun (n : Nat) (U : World) (hU : Below w.heap.size w U) (hB : Box U n 68 #[.int .i64 (5 + (q : Int)), .string ⟨#[]⟩]) => tokShow_any [⟨5 + (q : Int), ⟨#[]⟩⟩] (.slice (some ⟨n, 0, none⟩) 1 1) (fun k => k = n) U mx (fun k hk => by rw [hk]; exact hB.lt)
    (single_slice (cs := [.int .i64 (5 + (q : Int)), .string ⟨#[]⟩]) hB ⟨rfl, (show I64 (5 + (q : Int)) from ⟨by omega, by omega⟩), Nat.zero_le _⟩ rfl (by decide)) (hT.later hU)
  rw [kind_bad (by omega)] at hsh
  have hoc := odd_cell hp1
  generalize lit (List.replicate (1501 + q) 120) = S1 at hr1 hc1
  generalize lit (List.replicate (201 + q) 44) = S2 at hr2 hc2
  obtain ⟨S0, hS0⟩ : ∃ z, oddS p = z := ⟨_, rfl⟩
  rw [hS0] at hc0 hoc
  obtain ⟨X, hX⟩ : ∃ z, lit (List.replicate 21 120) = z := ⟨_, rfl⟩
  have hxs : X.size = 21 := by rw [← hX, lit_size]; rfl
  rw [hX] at hr0 hoc
  have HP := Lib.hid hp; have HQ := Lib.hid hq; have HR0 := Lib.hid hr0; have HR1 := Lib.hid hr1; have HR2 := Lib.hid hr2; have HC0 := Lib.hid hc0; have HC1 := Lib.hid hc1; have HC2 := Lib.hid hc2; have HSH := Lib.hid hsh; have HOC := Lib.hid hoc
  clear hp hq hr0 hr1 hr2 hc0 hc1 hc2 hsh hoc
  clear hT hS0 hX
  have hxl : X.size ≤ 21 := by omega
  clear hxs
  have s1 : ¬ 9223372036854775807 < 1 + X.size := by omega
  have s2 : ¬ 9223372036854775807 < 1 + X.size + 1 := by omega
  go_enter Tryd.func8, Tryd.ntmps8
  go_wp2_with fail
  refine (HR0.out _).mono ?_
  rintro e W1 ⟨rfl, hb1⟩
  have HB1 := Lib.hid hb1
  clear hb1
  go_upto_region 2 with fail
  have hBo := Box.made W1 9 #[.string ⟨#[65]⟩, .string ⟨#[34, 110, 111, 32, 101, 110, 100]⟩, .string ⟨#[49, 97]⟩, .string ⟨#[48, 49]⟩, .string ⟨#[49, 48, 48, 48, 48, 48, 48]⟩, .string ⟨#[110, 105, 110, 101, 99, 104, 97, 114, 115]⟩, .string ⟨#[97, 45, 98]⟩, .string ⟨#[92]⟩, .string ⟨#[9]⟩, .string (⟨#[34]⟩ ++ X ++ ⟨#[34]⟩)]
  have hbo : Below W1.heap.size W1 (W1.alloc (.cells #[.string ⟨#[65]⟩, .string ⟨#[34, 110, 111, 32, 101, 110, 100]⟩, .string ⟨#[49, 97]⟩, .string ⟨#[48, 49]⟩, .string ⟨#[49, 48, 48, 48, 48, 48, 48]⟩, .string ⟨#[110, 105, 110, 101, 99, 104, 97, 114, 115]⟩, .string ⟨#[97, 45, 98]⟩, .string ⟨#[92]⟩, .string ⟨#[9]⟩, .string (⟨#[34]⟩ ++ X ++ ⟨#[34]⟩)] 9)) := by go_grown
  have hzo : (W1.alloc (.cells #[.string ⟨#[65]⟩, .string ⟨#[34, 110, 111, 32, 101, 110, 100]⟩, .string ⟨#[49, 97]⟩, .string ⟨#[48, 49]⟩, .string ⟨#[49, 48, 48, 48, 48, 48, 48]⟩, .string ⟨#[110, 105, 110, 101, 99, 104, 97, 114, 115]⟩, .string ⟨#[97, 45, 98]⟩, .string ⟨#[92]⟩, .string ⟨#[9]⟩, .string (⟨#[34]⟩ ++ X ++ ⟨#[34]⟩)] 9)).heap.size = W1.heap.size + 1 := by simp
  generalize W1.alloc (.cells #[.string ⟨#[65]⟩, .string ⟨#[34, 110, 111, 32, 101, 110, 100]⟩, .string ⟨#[49, 97]⟩, .string ⟨#[48, 49]⟩, .string ⟨#[49, 48, 48, 48, 48, 48, 48]⟩, .string ⟨#[110, 105, 110, 101, 99, 104, 97, 114, 115]⟩, .string ⟨#[97, 45, 98]⟩, .string ⟨#[92]⟩, .string ⟨#[9]⟩, .string (⟨#[34]⟩ ++ X ++ ⟨#[34]⟩)] 9) = W2 at hBo hbo hzo ⊢
  have hcl := hBo.at_ p (.string S0) HOC.out
  have hb2 := below_step HB1.out hbo
  have hpz : (p : Int) < 10 := by omega
  have HB2 := Lib.hid hb2
  clear hb2
  clear hBo hbo hzo
  go_wp2_with (go_at_call 32; (with_reducible refine (HP.out _).mono ?_); rintro e w' ⟨rfl, rfl⟩)
  refine (HC0.out _ HB2.out).mono ?_
  rintro e W3 ⟨v3, rfl, hb3, _⟩
  have hb3 := below_step HB2.out hb3
  have HB3 := Lib.hid hb3
  clear hb3
  clear hcl
  go_wp2_with (first
    | (go_at_call 32; (with_reducible refine (HQ.out _).mono ?_); rintro e w' ⟨rfl, rfl⟩)
    | (go_at_call 31; (with_reducible refine (HR1.out _).mono ?_); rintro e W4 ⟨rfl, hb4⟩; have hb4 := below_step HB3.out hb4; have HB4 := Lib.hid hb4; clear hb4))
  refine (HC1.out _ HB4.out).mono ?_
  rintro e W5 ⟨v5, rfl, hb5, _⟩
  have hb5 := below_step HB4.out hb5
  have HB5 := Lib.hid hb5
  clear hb5
  go_wp2_with (first
    | (go_at_call 32; (with_reducible refine (HQ.out _).mono ?_); rintro e w' ⟨rfl, rfl⟩)
    | (go_at_call 31; (with_reducible refine (HR2.out _).mono ?_); rintro e W6 ⟨rfl, hb6⟩; have hb6 := below_step HB5.out hb6; have HB6 := Lib.hid hb6; clear hb6))
  refine (HC2.out _ HB6.out).mono ?_
  rintro e W7 ⟨v7, rfl, hb7, _⟩
  have hb7 := below_step HB6.out hb7
  have HB7 := Lib.hid hb7
  clear hb7
  go_wp2_with (first
    | (go_at_call 32; (with_reducible refine (HQ.out _).mono ?_); rintro e w' ⟨rfl, rfl⟩))
  refine (HSH.out W7.heap.size _ (HB7.out.alloc HB7.out.size (.cells #[.int .i64 (5 + (q : Int)), .string ⟨#[]⟩] 68)) (Box.made W7 68 #[.int .i64 (5 + (q : Int)), .string ⟨#[]⟩])).mono ?_
  rintro e W8 ⟨rfl, hb8⟩
  have hb8 := below_stepA HB7.out hb8
  have HB8 := Lib.hid hb8
  clear hb8
  go_wp2_with fail
  go_ret
  exact ⟨rfl, HB8.out⟩

end Go.Proofs.YthedfpcdibhfpaaDoor
