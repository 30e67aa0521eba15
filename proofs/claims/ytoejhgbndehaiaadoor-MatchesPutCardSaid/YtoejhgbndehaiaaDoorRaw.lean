/- Raw numbers, and the kinds that are made of them. -/
import Derived.Test.YtoejhgbndehaiaaDoorKindForm
import Derived.Test.YtoejhgbndehaiaaDoorBase
import Derived.Test.YtoejhgbndehaiaaDoorOpenB
import Derived.Test.YtoejhgbndehaiaaDoorOpen
import Derived.Deep.RegionWith
import Derived.Deep.DeepCutAuto
import Derived.Deep.Light
import Derived.Handy
namespace Go.Proofs.YtoejhgbndehaiaaDoor
open Go.ChangeShapes Go.WideShapes Go.ChangeAt Go.RowKit Go.Shelf
open Go.ChangeMaps (open_string)

structure Raw where
  kind : Int
  a : Int
  b : Int
  c : Int
def RawR : CR Raw := fun _ _ cs x => cs = [.int .i64 x.kind, .int .i64 x.a, .int .i64 x.b, .int .i64 x.c] ∧ I64 x.kind ∧ I64 x.a ∧ I64 x.b ∧ I64 x.c
theorem RawR.stays : Stays RawR := fun _ _ _ _ _ _ h _ _ => h

theorem Tryd.cells_Raw : Tryd.prog.cellsOf 30 = 4 := by kernel_rfl
theorem opens_raw {N : Nat} : Opens N Tryd.prog RawR 30 := by
  intro H enc w fuel cs d ps hN h hb hw
  obtain ⟨xs, n, _, _, hl, _, _⟩ := DataW.trod_struct Tryd.underlying30 h
  rw [Tryd.cells_Raw] at hl
  obtain ⟨c0, c1, c2, c3, rfl⟩ := four_cells hl
  obtain ⟨x0, e0, z0⟩ := open_field Tryd.underlying30 h hb hw hN 0 _ rfl 3 0 1 rfl rfl Tryd.cells_int opens_n
  obtain ⟨x1, e1, z1⟩ := open_field Tryd.underlying30 h hb hw hN 1 _ rfl 3 1 1 rfl rfl Tryd.cells_int opens_n
  obtain ⟨x2, e2, z2⟩ := open_field Tryd.underlying30 h hb hw hN 2 _ rfl 3 2 1 rfl rfl Tryd.cells_int opens_n
  obtain ⟨x3, e3, z3⟩ := open_field Tryd.underlying30 h hb hw hN 3 _ rfl 3 3 1 rfl rfl Tryd.cells_int opens_n
  obtain rfl : c0 = .int .i64 x0 := by injection e0
  obtain rfl : c1 = .int .i64 x1 := by injection e1
  obtain rfl : c2 = .int .i64 x2 := by injection e2
  obtain rfl : c3 = .int .i64 x3 := by injection e3
  exact ⟨⟨x0, x1, x2, x3⟩, rfl, z0, z1, z2, z3⟩

/-- A number from 0 to many - 1. -/
def pickN (n : Int) (many : Nat) : Nat := (if n < 0 then -(n + 1) else n).toNat % many
theorem pickN_lt (n : Int) {many : Nat} (h : 0 < many) : pickN n many < many := Nat.mod_lt _ h
set_option maxHeartbeats 400000 in
theorem picked_any (n : Int) (many : Nat) (hm : 0 < many) (hn : I64 n) (w : World) : Calls Tryd.prog 26 #[.int .i64 n, .int .i64 many] w fun e w' => e = .returned (.int .i64 (pickN n many)) ∧ w = w' := by
  obtain ⟨h1, h2⟩ := hn
  have hmz : ((many : Int) == 0) = false := by simp; omega
  by_cases h : n < 0
  · have hr : (-(n + 1)).tmod (many : Int) = (pickN n many : Int) := by
      rw [Int.tmod_eq_emod_of_nonneg (by omega)]
      unfold pickN
      rw [if_pos h, Int.natCast_emod, Int.toNat_of_nonneg (by omega)]
    have e1 : wrap64 (n + 1) = n + 1 := IntWalk.wrap64_in _ (by omega)
    have e2 : wrap64 (-(n + 1)) = -(n + 1) := IntWalk.wrap64_in _ (by omega)
    rw [Int.neg_tmod] at hr
    have HR := Lib.hid hr
    clear hr
    go_enter Tryd.func26, Tryd.ntmps26
    go_wp2_with fail
    go_ret
    exact ⟨ret_int HR.out, rfl⟩
  · have hr : n.tmod (many : Int) = (pickN n many : Int) := by
      rw [Int.tmod_eq_emod_of_nonneg (by omega)]
      unfold pickN
      rw [if_neg h, Int.natCast_emod, Int.toNat_of_nonneg (by omega)]
    have HR := Lib.hid hr
    clear hr
    go_enter Tryd.func26, Tryd.ntmps26
    go_wp2_with fail
    go_ret
    exact ⟨by first | exact ret_int HR.out | exact ret_int (by rw [← HR.out, Int.tmod_eq_emod_of_nonneg (by omega)]), rfl⟩


set_option maxRecDepth 100000 in
set_option maxHeartbeats 8000000 in
theorem kindOf_any (x : Raw) (h1 : I64 x.a) (h2 : I64 x.b) (w : World) : Calls Tryd.prog 12 #[.agg #[.int .i64 x.kind, .int .i64 x.a, .int .i64 x.b, .int .i64 x.c]] w fun e w' => e = .returned (.string (kindK (pickN x.a 4) (pickN x.b 3))) ∧ Below w.heap.size w w' := by
  have hp1 : ∀ W, Calls Tryd.prog 26 #[.int .i64 x.a, .int .i64 4] W fun e w' => e = .returned (.int .i64 (pickN x.a 4)) ∧ W = w' := fun W => picked_any x.a 4 (by decide) h1 W
  have hp2 : ∀ W, Calls Tryd.prog 26 #[.int .i64 x.b, .int .i64 3] W fun e w' => e = .returned (.int .i64 (pickN x.b 3)) ∧ W = w' := fun W => picked_any x.b 3 (by decide) h2 W
  have hn := pickN_lt x.a (many := 4) (by decide)
  have hk := pickN_lt x.b (many := 3) (by decide)
  rw [← kindK_made]
  generalize pickN x.a 4 = n at *
  generalize pickN x.b 3 = k at *
  have hr1 := fun W => Tryd.strings_Repeat ⟨#[91]⟩ n W (by omega) (by show 1 * n ≤ _; omega)
  have hr2 := fun W => Tryd.strings_Repeat ⟨#[93]⟩ n W (by omega) (by show 1 * n ≤ _; omega)
  rw [show (⟨#[91]⟩ : ByteArray).data.toList = [91] from rfl] at hr1
  rw [show (⟨#[93]⟩ : ByteArray).data.toList = [93] from rfl] at hr2
  have hs1 : (⟨(Lib.repeatL [91] n).toArray⟩ : ByteArray).size ≤ 4 := by rw [ba_size, ba_of, Lib.repeatL_length]; simp; omega
  have hs2 : (⟨(Lib.repeatL [93] n).toArray⟩ : ByteArray).size ≤ 4 := by rw [ba_size, ba_of, Lib.repeatL_length]; simp; omega
  generalize (⟨(Lib.repeatL [91] n).toArray⟩ : ByteArray) = n1 at *
  generalize (⟨(Lib.repeatL [93] n).toArray⟩ : ByteArray) = n2 at *
  have q1 : ∀ j, ¬ 9223372036854775807 < n1.size + (baseK j).size := fun j => by obtain ⟨_, _, _, _, _, h, _⟩ := baseK_last j; omega
  have q2 : ∀ j, ¬ 9223372036854775807 < n1.size + (baseK j).size + n2.size := fun j => by obtain ⟨_, _, _, _, _, h, _⟩ := baseK_last j; omega
  have HP1 := Lib.hid hp1; have HP2 := Lib.hid hp2; have HR1 := Lib.hid hr1; have HR2 := Lib.hid hr2; have Q1 := Lib.hid q1; have Q2 := Lib.hid q2
  clear hp1 hp2 hr1 hr2 q1 q2
  have hk3 : k = 0 ∨ k = 1 ∨ k = 2 := by omega
  clear hk hn hs1 hs2
  rcases hk3 with rfl | rfl | rfl
  · have s1 := Q1.out 0; have s2 := Q2.out 0
    rw [show (baseK 0).size = 3 from rfl] at s1 s2
    rw [show baseK 0 = ⟨#[105, 110, 116]⟩ from rfl]
    go_enter Tryd.func12, Tryd.ntmps12
    go_upto_region 1 with fail
    have hBb := Box.made w 30 #[.int .i64 x.kind, .int .i64 x.a, .int .i64 x.b, .int .i64 x.c]
    have hbb : Below w.heap.size w (w.alloc (.cells #[.int .i64 x.kind, .int .i64 x.a, .int .i64 x.b, .int .i64 x.c] 30)) := by go_grown
    have hzb : (w.alloc (.cells #[.int .i64 x.kind, .int .i64 x.a, .int .i64 x.b, .int .i64 x.c] 30)).heap.size = w.heap.size + 1 := by simp
    generalize w.alloc (.cells #[.int .i64 x.kind, .int .i64 x.a, .int .i64 x.b, .int .i64 x.c] 30) = W1 at hBb hbb hzb ⊢
    have x1 := hBb.at_ 1 _ rfl
    have x2 := hBb.at_ 2 _ rfl
    have hx7 : Box W1.drew w.heap.size 30 #[.int .i64 x.kind, .int .i64 x.a, .int .i64 x.b, .int .i64 x.c] := hBb.drew
    have hy7 : Below w.heap.size w W1.drew := hbb.trans (by go_grown)
    have x2 := hx7.at_ 2 _ rfl
    have hl7 := hx7.lt
    have hbq := hbb
    have hlw := hBb.lt
    clear hzb hBb hbb
    go_wp2_with fail
    refine (HP1.out _).mono ?_
    rintro e W2 ⟨rfl, rfl⟩
    go_upto_region 2 with fail
    go_region_with (first
      | (go_at_call 27; with_reducible refine (HR1.out _).mono ?_; rintro e w7 ⟨rfl, hb7⟩; (first | (have hz7 := Box.later hz7 hb7 hz7.lt) | (have hz7 := after_alloc hb7) | (have hz7 := after_allocD hb7) | skip); (first | (have hx7 := Box.later hx7 hb7 hx7.lt) | (have hx7 := Box.later (hx7.alloc _) hb7 (hx7.alloc _).lt) | (have hx7 := Box.later (hx7.alloc _).drew hb7 (hx7.alloc _).drew.lt)); (try have z0 := hz7.at_ 0 _ rfl); (try have z1 := hz7.at_ 1 _ rfl); (try have z2 := hz7.at_ 2 _ rfl); have x2 := hx7.at_ 2 _ rfl; have hl7 := hx7.lt; (first | (have hy7 := hy7.trans (hb7.mono hy7.size)) | (have hy7 := (hy7.alloc hy7.size _).trans (hb7.mono (hy7.alloc hy7.size _).size)) | (have hy7 := hbq.trans ((below_stepD hb7).mono hbq.size))); clear hb7)
      | (go_at_call 27; with_reducible refine (HR2.out _).mono ?_; rintro e w7 ⟨rfl, hb7⟩; (first | (have hz7 := Box.later hz7 hb7 hz7.lt) | (have hz7 := after_alloc hb7) | (have hz7 := after_allocD hb7) | skip); (first | (have hx7 := Box.later hx7 hb7 hx7.lt) | (have hx7 := Box.later (hx7.alloc _) hb7 (hx7.alloc _).lt) | (have hx7 := Box.later (hx7.alloc _).drew hb7 (hx7.alloc _).drew.lt)); (try have z0 := hz7.at_ 0 _ rfl); (try have z1 := hz7.at_ 1 _ rfl); (try have z2 := hz7.at_ 2 _ rfl); have x2 := hx7.at_ 2 _ rfl; have hl7 := hx7.lt; (first | (have hy7 := hy7.trans (hb7.mono hy7.size)) | (have hy7 := (hy7.alloc hy7.size _).trans (hb7.mono (hy7.alloc hy7.size _).size)) | (have hy7 := hbq.trans ((below_stepD hb7).mono hbq.size))); clear hb7)
      | (go_at_call 26; with_reducible refine (HP2.out _).mono ?_; rintro e w7 ⟨rfl, rfl⟩))
    all_goals
      go_wp2_with fail
      go_ret
      refine ⟨rfl, ?_⟩
      first | exact hy7 | exact hy7.alloc hy7.size _
  · have s1 := Q1.out 1; have s2 := Q2.out 1
    rw [show (baseK 1).size = 4 from rfl] at s1 s2
    rw [show baseK 1 = ⟨#[116, 101, 120, 116]⟩ from rfl]
    go_enter Tryd.func12, Tryd.ntmps12
    go_upto_region 1 with fail
    have hBb := Box.made w 30 #[.int .i64 x.kind, .int .i64 x.a, .int .i64 x.b, .int .i64 x.c]
    have hbb : Below w.heap.size w (w.alloc (.cells #[.int .i64 x.kind, .int .i64 x.a, .int .i64 x.b, .int .i64 x.c] 30)) := by go_grown
    have hzb : (w.alloc (.cells #[.int .i64 x.kind, .int .i64 x.a, .int .i64 x.b, .int .i64 x.c] 30)).heap.size = w.heap.size + 1 := by simp
    generalize w.alloc (.cells #[.int .i64 x.kind, .int .i64 x.a, .int .i64 x.b, .int .i64 x.c] 30) = W1 at hBb hbb hzb ⊢
    have x1 := hBb.at_ 1 _ rfl
    have x2 := hBb.at_ 2 _ rfl
    have hx7 : Box W1.drew w.heap.size 30 #[.int .i64 x.kind, .int .i64 x.a, .int .i64 x.b, .int .i64 x.c] := hBb.drew
    have hy7 : Below w.heap.size w W1.drew := hbb.trans (by go_grown)
    have x2 := hx7.at_ 2 _ rfl
    have hl7 := hx7.lt
    have hbq := hbb
    have hlw := hBb.lt
    clear hzb hBb hbb
    go_wp2_with fail
    refine (HP1.out _).mono ?_
    rintro e W2 ⟨rfl, rfl⟩
    go_upto_region 2 with fail
    go_region_with (first
      | (go_at_call 27; with_reducible refine (HR1.out _).mono ?_; rintro e w7 ⟨rfl, hb7⟩; (first | (have hz7 := Box.later hz7 hb7 hz7.lt) | (have hz7 := after_alloc hb7) | (have hz7 := after_allocD hb7) | skip); (first | (have hx7 := Box.later hx7 hb7 hx7.lt) | (have hx7 := Box.later (hx7.alloc _) hb7 (hx7.alloc _).lt) | (have hx7 := Box.later (hx7.alloc _).drew hb7 (hx7.alloc _).drew.lt)); (try have z0 := hz7.at_ 0 _ rfl); (try have z1 := hz7.at_ 1 _ rfl); (try have z2 := hz7.at_ 2 _ rfl); have x2 := hx7.at_ 2 _ rfl; have hl7 := hx7.lt; (first | (have hy7 := hy7.trans (hb7.mono hy7.size)) | (have hy7 := (hy7.alloc hy7.size _).trans (hb7.mono (hy7.alloc hy7.size _).size)) | (have hy7 := hbq.trans ((below_stepD hb7).mono hbq.size))); clear hb7)
      | (go_at_call 27; with_reducible refine (HR2.out _).mono ?_; rintro e w7 ⟨rfl, hb7⟩; (first | (have hz7 := Box.later hz7 hb7 hz7.lt) | (have hz7 := after_alloc hb7) | (have hz7 := after_allocD hb7) | skip); (first | (have hx7 := Box.later hx7 hb7 hx7.lt) | (have hx7 := Box.later (hx7.alloc _) hb7 (hx7.alloc _).lt) | (have hx7 := Box.later (hx7.alloc _).drew hb7 (hx7.alloc _).drew.lt)); (try have z0 := hz7.at_ 0 _ rfl); (try have z1 := hz7.at_ 1 _ rfl); (try have z2 := hz7.at_ 2 _ rfl); have x2 := hx7.at_ 2 _ rfl; have hl7 := hx7.lt; (first | (have hy7 := hy7.trans (hb7.mono hy7.size)) | (have hy7 := (hy7.alloc hy7.size _).trans (hb7.mono (hy7.alloc hy7.size _).size)) | (have hy7 := hbq.trans ((below_stepD hb7).mono hbq.size))); clear hb7)
      | (go_at_call 26; with_reducible refine (HP2.out _).mono ?_; rintro e w7 ⟨rfl, rfl⟩))
    all_goals
      go_wp2_with fail
      go_ret
      refine ⟨rfl, ?_⟩
      first | exact hy7 | exact hy7.alloc hy7.size _
  · have s1 := Q1.out 2; have s2 := Q2.out 2
    rw [show (baseK 2).size = 1 from rfl] at s1 s2
    rw [show baseK 2 = ⟨#[42]⟩ from rfl]
    go_enter Tryd.func12, Tryd.ntmps12
    go_upto_region 1 with fail
    have hBb := Box.made w 30 #[.int .i64 x.kind, .int .i64 x.a, .int .i64 x.b, .int .i64 x.c]
    have hbb : Below w.heap.size w (w.alloc (.cells #[.int .i64 x.kind, .int .i64 x.a, .int .i64 x.b, .int .i64 x.c] 30)) := by go_grown
    have hzb : (w.alloc (.cells #[.int .i64 x.kind, .int .i64 x.a, .int .i64 x.b, .int .i64 x.c] 30)).heap.size = w.heap.size + 1 := by simp
    generalize w.alloc (.cells #[.int .i64 x.kind, .int .i64 x.a, .int .i64 x.b, .int .i64 x.c] 30) = W1 at hBb hbb hzb ⊢
    have x1 := hBb.at_ 1 _ rfl
    have x2 := hBb.at_ 2 _ rfl
    have hx7 : Box W1.drew w.heap.size 30 #[.int .i64 x.kind, .int .i64 x.a, .int .i64 x.b, .int .i64 x.c] := hBb.drew
    have hy7 : Below w.heap.size w W1.drew := hbb.trans (by go_grown)
    have x2 := hx7.at_ 2 _ rfl
    have hl7 := hx7.lt
    have hbq := hbb
    have hlw := hBb.lt
    clear hzb hBb hbb
    go_wp2_with fail
    refine (HP1.out _).mono ?_
    rintro e W2 ⟨rfl, rfl⟩
    go_upto_region 2 with fail
    go_region_with (first
      | (go_at_call 27; with_reducible refine (HR1.out _).mono ?_; rintro e w7 ⟨rfl, hb7⟩; (first | (have hz7 := Box.later hz7 hb7 hz7.lt) | (have hz7 := after_alloc hb7) | (have hz7 := after_allocD hb7) | skip); (first | (have hx7 := Box.later hx7 hb7 hx7.lt) | (have hx7 := Box.later (hx7.alloc _) hb7 (hx7.alloc _).lt) | (have hx7 := Box.later (hx7.alloc _).drew hb7 (hx7.alloc _).drew.lt)); (try have z0 := hz7.at_ 0 _ rfl); (try have z1 := hz7.at_ 1 _ rfl); (try have z2 := hz7.at_ 2 _ rfl); have x2 := hx7.at_ 2 _ rfl; have hl7 := hx7.lt; (first | (have hy7 := hy7.trans (hb7.mono hy7.size)) | (have hy7 := (hy7.alloc hy7.size _).trans (hb7.mono (hy7.alloc hy7.size _).size)) | (have hy7 := hbq.trans ((below_stepD hb7).mono hbq.size))); clear hb7)
      | (go_at_call 27; with_reducible refine (HR2.out _).mono ?_; rintro e w7 ⟨rfl, hb7⟩; (first | (have hz7 := Box.later hz7 hb7 hz7.lt) | (have hz7 := after_alloc hb7) | (have hz7 := after_allocD hb7) | skip); (first | (have hx7 := Box.later hx7 hb7 hx7.lt) | (have hx7 := Box.later (hx7.alloc _) hb7 (hx7.alloc _).lt) | (have hx7 := Box.later (hx7.alloc _).drew hb7 (hx7.alloc _).drew.lt)); (try have z0 := hz7.at_ 0 _ rfl); (try have z1 := hz7.at_ 1 _ rfl); (try have z2 := hz7.at_ 2 _ rfl); have x2 := hx7.at_ 2 _ rfl; have hl7 := hx7.lt; (first | (have hy7 := hy7.trans (hb7.mono hy7.size)) | (have hy7 := (hy7.alloc hy7.size _).trans (hb7.mono (hy7.alloc hy7.size _).size)) | (have hy7 := hbq.trans ((below_stepD hb7).mono hbq.size))); clear hb7)
      | (go_at_call 26; with_reducible refine (HP2.out _).mono ?_; rintro e w7 ⟨rfl, rfl⟩))
    all_goals
      go_wp2_with fail
      go_ret
      refine ⟨rfl, ?_⟩
      first | exact hy7 | exact hy7.alloc hy7.size _

end Go.Proofs.YtoejhgbndehaiaaDoor
