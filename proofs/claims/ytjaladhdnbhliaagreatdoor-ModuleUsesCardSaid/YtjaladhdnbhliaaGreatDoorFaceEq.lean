/- Are two faces the same? -/
import Derived.Test.YtjaladhdnbhliaaGreatDoorOpen
import Derived.Test.YtjaladhdnbhliaaGreatDoorStrs
import Derived.Laws.StructEq
import Derived.Deep.QuietTactic
import Derived.BigQuiet
import Derived.WalkSmall
namespace Go.Proofs.YtjaladhdnbhliaaGreatDoor
open Go.RowKit Go.Shelf

def eqB (a b : ByteArray) : Bool := a.toList == b.toList
theorem eqB_iff (a b : ByteArray) : eqB a b = decide (a = b) := str_eq a b
def knownEq (a b : Known) : Bool := eqB a.name b.name && eqB a.is_ b.is_

theorem neq_known (a b : Known) (w : World) :
    (binOp .neq 100 (.agg #[.string a.name, .string a.is_]) (.agg #[.string b.name, .string b.is_])).run Tryz.prog w = .ok (.bool (!(knownEq a b))) w := by
  have u3 := Tryz.underlying9
  have a3 := Tryz.isAgg9
  have z3 := Tryz.sizeOf9
  have hS : Tryz.prog.underlying 100 = some (.struct (Tryz.prog.fieldsOf 100)) := by kernel_rfl
  have hp : Tryz.prog.stoodInHeld 100 = false := by kernel_rfl
  rw [run_neq_struct, show (10000 : Nat) = 9999 + 1 from rfl, run_equalIn_agg w 9999 100 _ _ hS hp]
  simp only [Program.fieldsOf, Tryz.underlying100]
  go_simp
  by_cases h1 : a.name.toList = b.name.toList <;> by_cases h2 : a.is_.toList = b.is_.toList <;> simp [knownEq, eqB, h1, h2]

set_option maxRecDepth 100000 in
set_option maxHeartbeats 1000000 in
theorem equal_strs (v u : Value) (l m : List ByteArray) (F G : Foot) (w : World) (hF : ∀ k, F k → k < w.heap.size) (hG : ∀ k, G k → k < w.heap.size) (hv : SliceOf StrR 1 16 w F v l) (hu : SliceOf StrR 1 16 w G u m) :
    Calls Tryz.prog 27 #[v, u] w fun e w' => e = .returned (.bool (listEq eqB l m)) ∧ Below w.heap.size w w' := by
  obtain ⟨A, cap, rfl, hlc, hcm, hl2, hl3⟩ := hv.form
  obtain ⟨A', cap', rfl, hlc', hcm', hl2', hl3'⟩ := hu.form
  by_cases hlen : l.length = m.length
  · have hz : ((l.length : Int) != (m.length : Int)) = false := by simp [hlen]
    have HL := Lib.hid hlen
    have hle : m.length ≤ l.length := by omega
    clear hlen
    go_enter Tryz.func27, Tryz.ntmps27
    go_wp2
    go_loopg [5, 13] l.length (fun gg _ s13 wr => ∃ kk : Nat, kk ≤ l.length ∧ l.length - kk ≤ gg ∧ s13 = .int .i64 kk ∧ Aside (Below w.heap.size w wr) ∧ Aside (∀ j, j < kk → ∀ x y, l[j]? = some x → m[j]? = some y → eqB x y = true))
    case atStart => exact ⟨0, Nat.zero_le _, by omega, rfl, Below.refl _ w, (show Aside _ from fun j hj => absurd hj (Nat.not_lt_zero _))⟩
    case round =>
      obtain ⟨kk, hkk, hg, rfl, BW, A1⟩ := hrel
      by_cases hlt : kk < l.length
      · have hltz : (kk : Int) < (l.length : Int) := by omega
        have hlt' : kk < m.length := by have := HL.out; omega
        have hltz' : (kk : Int) < (m.length : Int) := by omega
        obtain ⟨b, off, cs, rfl, hb, hcs, ⟨rfl, _⟩, hcell⟩ := (hv.stays StrR.stays (fun _ h => h) (Keeps.of_below BW.out hF)).at_ hlt
        obtain ⟨b', off', cs', rfl, hb', hcs', ⟨rfl, _⟩, hcell'⟩ := (hu.stays StrR.stays (fun _ h => h) (Keeps.of_below BW.out hG)).at_ hlt'
        have hc0 := hcell 0 _ rfl
        have hd0 := hcell' 0 _ rfl
        simp only [Nat.mul_one, Nat.add_zero] at hc0 hd0
        clear hcell hcell' hv hu
        have hx := List.getElem?_eq_getElem hlt
        have hy := List.getElem?_eq_getElem hlt'
        generalize l[kk] = x at *
        generalize m[kk] = y at *
        have HX := Lib.hid hx; have HY := Lib.hid hy; clear hx hy
        cases hq : eqB x y with
        | true =>
          have HQ := Lib.hid hq
          have hE : (x.toList == y.toList) = true := hq
          clear hq
          go_wp2
          go_quiet (fail)
          go_wp2
          go_roundg (l.length - (kk + 1))
          case measure => omega
          case rel => exact ⟨kk + 1, by omega, by omega, by go_num, below_drewN BW.out _, (show Aside _ from alike_succ HX.out HY.out HQ.out A1.out)⟩
        | false =>
          have HQ := Lib.hid hq
          have hE : (x.toList == y.toList) = false := hq
          clear hq
          go_wp2
          go_quiet (fail)
          go_wp2
          go_ret
          exact ⟨ret_bool (listEq_miss HX.out HY.out HQ.out).symm, below_drewN BW.out _⟩
      · have hltz : ¬ (kk : Int) < (l.length : Int) := by omega
        obtain rfl : kk = l.length := by omega
        go_wp2
        go_ret
        exact ⟨ret_bool (alike_end HL.out A1.out).symm, BW.out⟩
  · have hz : ((l.length : Int) != (m.length : Int)) = true := by simp; omega
    have HL := Lib.hid hlen
    clear hlen
    go_enter Tryz.func27, Tryz.ntmps27
    go_wp2
    go_ret
    exact ⟨ret_bool (listEq_len HL.out).symm, Below.refl _ _⟩

set_option maxRecDepth 100000 in
set_option maxHeartbeats 1000000 in
theorem equal_knowns (v u : Value) (l m : List Known) (F G : Foot) (w : World) (hF : ∀ k, F k → k < w.heap.size) (hG : ∀ k, G k → k < w.heap.size) (hv : SliceOf KnownR 2 32 w F v l) (hu : SliceOf KnownR 2 32 w G u m) :
    Calls Tryz.prog 66 #[v, u] w fun e w' => e = .returned (.bool (listEq knownEq l m)) ∧ Below w.heap.size w w' := by
  obtain ⟨A, cap, rfl, hlc, hcm, hl2, hl3⟩ := hv.form
  obtain ⟨A', cap', rfl, hlc', hcm', hl2', hl3'⟩ := hu.form
  by_cases hlen : l.length = m.length
  · have hz : ((l.length : Int) != (m.length : Int)) = false := by simp [hlen]
    have HL := Lib.hid hlen
    have hle : m.length ≤ l.length := by omega
    clear hlen
    go_enter Tryz.func66, Tryz.ntmps66
    go_wp2
    go_loopg [5, 13] l.length (fun gg _ s13 wr => ∃ kk : Nat, kk ≤ l.length ∧ l.length - kk ≤ gg ∧ s13 = .int .i64 kk ∧ Aside (Below w.heap.size w wr) ∧ Aside (∀ j, j < kk → ∀ x y, l[j]? = some x → m[j]? = some y → knownEq x y = true))
    case atStart => exact ⟨0, Nat.zero_le _, by omega, rfl, Below.refl _ w, (show Aside _ from fun j hj => absurd hj (Nat.not_lt_zero _))⟩
    case round =>
      obtain ⟨kk, hkk, hg, rfl, BW, A1⟩ := hrel
      by_cases hlt : kk < l.length
      · have hltz : (kk : Int) < (l.length : Int) := by omega
        have hlt' : kk < m.length := by have := HL.out; omega
        have hltz' : (kk : Int) < (m.length : Int) := by omega
        obtain ⟨b, off, cs, rfl, hb, hcs, ⟨rfl, _⟩, hcell⟩ := (hv.stays KnownR.stays (fun _ h => h) (Keeps.of_below BW.out hF)).at_ hlt
        obtain ⟨b', off', cs', rfl, hb', hcs', ⟨rfl, _⟩, hcell'⟩ := (hu.stays KnownR.stays (fun _ h => h) (Keeps.of_below BW.out hG)).at_ hlt'
        have hc0 := hcell 0 _ rfl
        have hd0 := hcell' 0 _ rfl
        have hc1 := hcell 1 _ rfl
        have hd1 := hcell' 1 _ rfl
        simp only [Nat.add_zero] at hc0 hd0
        clear hcell hcell' hv hu
        have hx := List.getElem?_eq_getElem hlt
        have hy := List.getElem?_eq_getElem hlt'
        generalize l[kk] = x at *
        generalize m[kk] = y at *
        have HX := Lib.hid hx; have HY := Lib.hid hy; clear hx hy
        cases hq : knownEq x y with
        | true =>
          have HQ := Lib.hid hq
          have hE := neq_known x y
          rw [hq] at hE
          clear hq
          go_wp2
          go_quiet (fail)
          go_wp2
          go_roundg (l.length - (kk + 1))
          case measure => omega
          case rel => exact ⟨kk + 1, by omega, by omega, by go_num, below_drewN BW.out _, (show Aside _ from alike_succ HX.out HY.out HQ.out A1.out)⟩
        | false =>
          have HQ := Lib.hid hq
          have hE := neq_known x y
          rw [hq] at hE
          clear hq
          go_wp2
          go_quiet (fail)
          go_wp2
          go_ret
          exact ⟨ret_bool (listEq_miss HX.out HY.out HQ.out).symm, below_drewN BW.out _⟩
      · have hltz : ¬ (kk : Int) < (l.length : Int) := by omega
        obtain rfl : kk = l.length := by omega
        go_wp2
        go_ret
        exact ⟨ret_bool (alike_end HL.out A1.out).symm, BW.out⟩
  · have hz : ((l.length : Int) != (m.length : Int)) = true := by simp; omega
    have HL := Lib.hid hlen
    clear hlen
    go_enter Tryz.func66, Tryz.ntmps66
    go_wp2
    go_ret
    exact ⟨ret_bool (listEq_len HL.out).symm, Below.refl _ _⟩

end Go.Proofs.YtjaladhdnbhliaaGreatDoor
