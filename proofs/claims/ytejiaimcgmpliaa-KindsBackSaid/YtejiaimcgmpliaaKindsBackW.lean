/- The law KindsBack: its walk. -/
import Derived.Test.YtejiaimcgmpliaaRaw
namespace Go.Proofs.Ytejiaimcgmpliaa
open Go.ChangeShapes Go.WideShapes Go.ChangeAt Go.RowKit
open Go.ChangeMaps (open_string)

set_option maxRecDepth 100000 in
set_option maxHeartbeats 4000000 in
theorem kindsBack_calls (cs : List Value) (r : Raw) (W : World) (hr : RawR W (old W.heap.size) cs r) :
    Calls Try.prog 6 #[.agg cs.toArray] W fun e w' => e = .returned (.bool true) ∧ Below W.heap.size W w' := by
  obtain ⟨rfl, _, ha, hb, _⟩ := hr
  have hkd := fun U => kindOf_any r ha hb U
  have hn := pickN_lt r.a (many := 4) (by decide)
  generalize pickN r.a 4 = n at *
  generalize pickN r.b 3 = k at *
  have hok := kindK_ok (n := n) (k := k) (by omega)
  have hop := kindK_open (n := n) (k := k) (by omega)
  obtain ⟨hsz, hpos⟩ := kindK_size n k
  generalize kindK n k = K at *
  have hKs : K.size ≤ 12 := by omega
  have hli := fun U => listOf_any K U (by omega)
  obtain ⟨hl1, hl2⟩ := kind_list hok (by omega)
  rw [hl1, hl2] at hli
  have hlz : (listOf K).size ≤ 140737488355328 := by rw [ba_size, listOf_data]; simp; omega
  have hel := fun U => elem_any (listOf K) U hlz
  rw [elem_listOf hpos] at hel
  have ho1 := fun U => kindOpen_any (listOf K) U
  have ho2 := fun U => kindOpen_any K U
  rw [open_listOf] at ho1
  have hc1 := fun U => kindCheck_any K U (by omega)
  rw [hok] at hc1
  have hc2 := fun U => kindCheck_any (⟨#[91]⟩ ++ K) U (by rw [ba_app_size]; show 1 + K.size ≤ _; omega)
  rw [hop] at hc2
  have hc3 := fun U => kindCheck_any (K ++ ⟨#[120]⟩) U (by rw [ba_app_size]; show K.size + 1 ≤ _; omega)
  rw [kind_more hKs hpos] at hc3
  have hrp : ∀ U, Calls Try.prog 27 #[.string ⟨#[91]⟩, .int .i64 600] U fun e w' => e = .returned (.string ⟨(Lib.repeatL (⟨#[91]⟩ : ByteArray).data.toList 600).toArray⟩) ∧ Below U.heap.size U w' := fun U => Try.strings_Repeat ⟨#[91]⟩ 600 U (by omega) (by show 1 * 600 ≤ _; omega)
  have hrs : (⟨(Lib.repeatL (⟨#[91]⟩ : ByteArray).data.toList 600).toArray⟩ : ByteArray).size = 600 := by rw [ba_size, ba_of, Lib.repeatL_length]; rfl
  generalize (⟨(Lib.repeatL (⟨#[91]⟩ : ByteArray).data.toList 600).toArray⟩ : ByteArray) = L at *
  have hc4 := fun U => kindCheck_any (L ++ K) U (by rw [ba_app_size]; omega)
  rw [kind_long (s := L ++ K) (by rw [ba_app_size]; omega)] at hc4
  have q1 : ¬ 9223372036854775807 < 1 + K.size := by omega
  have q2 : ¬ 9223372036854775807 < K.size + 1 := by omega
  have q3 : ¬ 9223372036854775807 < L.size + K.size := by omega
  generalize listOf K = T at *
  generalize openB K = z at *
  have HKD := Lib.hid hkd; have HLI := Lib.hid hli; have HEL := Lib.hid hel; have HO1 := Lib.hid ho1; have HO2 := Lib.hid ho2; have HC1 := Lib.hid hc1; have HC2 := Lib.hid hc2; have HC3 := Lib.hid hc3; have HC4 := Lib.hid hc4; have HRP := Lib.hid hrp; have HRS := Lib.hid hrs
  clear hkd hli hel ho1 ho2 hc1 hc2 hc3 hc4 hrp hrs
  clear hok hop hl1 hl2 hlz hsz hpos hn
  go_enter Try.func6, Try.ntmps6
  go_upto_region 1 with fail
  have hBb := Box.made W 51 #[.int .i64 r.kind, .int .i64 r.a, .int .i64 r.b, .int .i64 r.c]
  have hbb : Below W.heap.size W (W.alloc (.cells #[.int .i64 r.kind, .int .i64 r.a, .int .i64 r.b, .int .i64 r.c] 51)) := by go_grown
  have hzb : (W.alloc (.cells #[.int .i64 r.kind, .int .i64 r.a, .int .i64 r.b, .int .i64 r.c] 51)).heap.size = W.heap.size + 1 := by simp
  generalize W.alloc (.cells #[.int .i64 r.kind, .int .i64 r.a, .int .i64 r.b, .int .i64 r.c] 51) = W1 at hBb hbb hzb ⊢
  have x0 := hBb.at_ 0 _ rfl
  have x1 := hBb.at_ 1 _ rfl
  have x2 := hBb.at_ 2 _ rfl
  have x3 := hBb.at_ 3 _ rfl
  have HBW := Lib.hid hbb
  clear hBb hzb hbb
  go_wp2_with fail
  refine (HKD.out _).mono ?_
  rintro e W2 ⟨rfl, hb2⟩
  have hbw := HBW.out.trans (hb2.mono HBW.out.size)
  have HBW2 := Lib.hid hbw
  clear hb2 hbw x0 x1 x2 x3
  go_wp2_with (first
    | (go_at_call 23; with_reducible refine (HLI.out _).mono ?_; rintro e w' ⟨rfl, rfl⟩)
    | (go_at_call 24; with_reducible refine (HEL.out _).mono ?_; rintro e w' ⟨rfl, rfl⟩)
    | (go_at_call 25; with_reducible refine (HC1.out _).mono ?_; rintro e w' ⟨rfl, rfl⟩)
    | (go_at_call 25; with_reducible refine (HC2.out _).mono ?_; rintro e w' ⟨rfl, rfl⟩)
    | (go_at_call 25; with_reducible refine (HC3.out _).mono ?_; rintro e w' ⟨rfl, rfl⟩)
    | (go_at_call 25; with_reducible refine (HC4.out _).mono ?_; rintro e w' ⟨rfl, rfl⟩)
    | (go_at_call 26; with_reducible refine (HO1.out _).mono ?_; rintro e w' ⟨rfl, rfl⟩)
    | (go_at_call 26; with_reducible refine (HO2.out _).mono ?_; rintro e w' ⟨rfl, rfl⟩)
    | (go_at_call 27; with_reducible refine (HRP.out _).mono ?_; rintro e W3 ⟨rfl, hb3⟩; have hbw := HBW2.out.trans (hb3.mono HBW2.out.size); have HBW3 := Lib.hid hbw; clear hb3 hbw))
  go_ret
  exact ⟨by simp, HBW3.out⟩

end Go.Proofs.Ytejiaimcgmpliaa
