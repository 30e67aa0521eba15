/- Are lists of texts, of findings, are signatures the same: the laws' own sameTexts, sameDiags, sameSig. -/
import Derived.Test.YtjaladhdnbhliaaGreatDoorFaceEq2
import Derived.Test.YtjaladhdnbhliaaGreatDoorBase
import Derived.Deep.QuietTactic
import Derived.BigQuiet
namespace Go.Proofs.YtjaladhdnbhliaaGreatDoor
open Go.RowKit Go.Shelf

def diagEq (a b : Diag) : Bool := eqB a.where_ b.where_ && (a.code == b.code)
theorem neq_diag (a b : Diag) (w : World) :
    (binOp .neq 53 (.agg #[.string a.where_, .int .i64 a.code]) (.agg #[.string b.where_, .int .i64 b.code])).run Tryz.prog w = .ok (.bool (!(diagEq a b))) w := by
  have u3 := Tryz.underlying9
  have a3 := Tryz.isAgg9
  have z3 := Tryz.sizeOf9
  have u4 := Tryz.underlying3
  have a4 := Tryz.isAgg3
  have z4 := Tryz.sizeOf3
  have hS : Tryz.prog.underlying 53 = some (.struct (Tryz.prog.fieldsOf 53)) := by kernel_rfl
  have hp : Tryz.prog.stoodInHeld 53 = false := by kernel_rfl
  rw [run_neq_struct, show (10000 : Nat) = 9999 + 1 from rfl, run_equalIn_agg w 9999 53 _ _ hS hp]
  simp only [Program.fieldsOf, Tryz.underlying53]
  go_simp
  by_cases h1 : a.where_.toList = b.where_.toList <;> by_cases h2 : a.code = b.code <;> simp [diagEq, eqB, h1, h2]


set_option maxRecDepth 100000 in
set_option maxHeartbeats 1000000 in
theorem same_texts (v u : Value) (l m : List ByteArray) (F G : Foot) (w : World) (hF : ∀ k, F k → k < w.heap.size) (hG : ∀ k, G k → k < w.heap.size) (hv : SliceOf StrR 1 16 w F v l) (hu : SliceOf StrR 1 16 w G u m) :
    Calls Tryz.prog 15 #[v, u] w fun e w' => e = .returned (.bool (listEq eqB l m)) ∧ Below w.heap.size w w' := by
  obtain ⟨A, cap, rfl, hlc, hcm, hl2, hl3⟩ := hv.form
  obtain ⟨A', cap', rfl, hlc', hcm', hl2', hl3'⟩ := hu.form
  by_cases hlen : l.length = m.length
  · have hz : ((l.length : Int) != (m.length : Int)) = false := by simp [hlen]
    have HL := Lib.hid hlen
    have hle : m.length ≤ l.length := by omega
    clear hlen
    go_enter Tryz.func15, Tryz.ntmps15
    go_wp2_with fail
    go_loopg [5] l.length (fun gg s5 wr => ∃ kk : Nat, kk ≤ l.length ∧ l.length - kk ≤ gg ∧ s5 = .int .i64 kk ∧ Aside (Below w.heap.size w wr) ∧ Aside (∀ j, j < kk → ∀ x y, l[j]? = some x → m[j]? = some y → eqB x y = true))
    case atStart => exact ⟨0, Nat.zero_le _, by omega, rfl, Below.refl _ w, aside (fun j hj => absurd hj (Nat.not_lt_zero _))⟩
    case round =>
      obtain ⟨kk, hkk, hg, rfl, BW, A1⟩ := hrel
      by_cases hlt : kk < l.length
      · have hltz : (kk : Int) < (l.length : Int) := by omega
        have hlt' : kk < m.length := by have := HL.out; omega
        have hltz' : (kk : Int) < (m.length : Int) := by omega
        obtain ⟨b, off, cs, rfl, hb, hcs, ⟨rfl, _⟩, hcell⟩ := (hv.up StrR.stays hF BW.out).at_ hlt
        obtain ⟨b', off', cs', rfl, hb', hcs', ⟨rfl, _⟩, hcell'⟩ := (hu.up StrR.stays hG BW.out).at_ hlt'
        have hc0 := hcell 0 _ rfl
        have hd0 := hcell' 0 _ rfl
        simp only [Nat.mul_one, Nat.add_zero] at hc0 hd0
        clear hcell hcell' hv hu
        have hx := List.getElem?_eq_getElem hlt
        have hy := List.getElem?_eq_getElem hlt'
        generalize l[kk] = x at *
        generalize m[kk] = y at *
        have HX := Lib.hid hx; have HY := Lib.hid hy; clear hx hy
        cases hq : eqB x y with
        | true =>
          have HQ := Lib.hid hq
          have hE : (x.toList == y.toList) = true := hq
          clear hq
          go_wp2_with fail
          go_quiet (fail)
          go_wp2_with fail
          go_roundg (l.length - (kk + 1))
          case measure => omega
          case rel => exact ⟨kk + 1, by omega, by omega, by go_num, below_drewN BW.out _, aside (alike_succ HX.out HY.out HQ.out A1.out)⟩
        | false =>
          have HQ := Lib.hid hq
          have hE : (x.toList == y.toList) = false := hq
          clear hq
          go_wp2_with fail
          go_quiet (fail)
          go_wp2_with fail
          go_ret
          exact ⟨ret_bool (listEq_miss HX.out HY.out HQ.out).symm, below_drewN BW.out _⟩
      · have hltz : ¬ (kk : Int) < (l.length : Int) := by omega
        obtain rfl : kk = l.length := by omega
        go_wp2_with fail
        go_ret
        exact ⟨ret_bool (alike_end HL.out A1.out).symm, BW.out⟩
  · have hz : ((l.length : Int) != (m.length : Int)) = true := by simp; omega
    have HL := Lib.hid hlen
    clear hlen
    go_enter Tryz.func15, Tryz.ntmps15
    go_wp2_with fail
    go_ret
    exact ⟨ret_bool (listEq_len HL.out).symm, Below.refl _ _⟩


set_option maxRecDepth 100000 in
set_option maxHeartbeats 1000000 in
theorem same_diags (v u : Value) (l m : List Diag) (F G : Foot) (w : World) (hF : ∀ k, F k → k < w.heap.size) (hG : ∀ k, G k → k < w.heap.size) (hv : SliceOf DiagR 2 24 w F v l) (hu : SliceOf DiagR 2 24 w G u m) :
    Calls Tryz.prog 19 #[v, u] w fun e w' => e = .returned (.bool (listEq diagEq l m)) ∧ Below w.heap.size w w' := by
  obtain ⟨A, cap, rfl, hlc, hcm, hl2, hl3⟩ := hv.form
  obtain ⟨A', cap', rfl, hlc', hcm', hl2', hl3'⟩ := hu.form
  by_cases hlen : l.length = m.length
  · have hz : ((l.length : Int) != (m.length : Int)) = false := by simp [hlen]
    have HL := Lib.hid hlen
    have hle : m.length ≤ l.length := by omega
    clear hlen
    go_enter Tryz.func19, Tryz.ntmps19
    go_wp2_with fail
    go_loopg [5] l.length (fun gg s5 wr => ∃ kk : Nat, kk ≤ l.length ∧ l.length - kk ≤ gg ∧ s5 = .int .i64 kk ∧ Aside (Below w.heap.size w wr) ∧ Aside (∀ j, j < kk → ∀ x y, l[j]? = some x → m[j]? = some y → diagEq x y = true))
    case atStart => exact ⟨0, Nat.zero_le _, by omega, rfl, Below.refl _ w, aside (fun j hj => absurd hj (Nat.not_lt_zero _))⟩
    case round =>
      obtain ⟨kk, hkk, hg, rfl, BW, A1⟩ := hrel
      by_cases hlt : kk < l.length
      · have hltz : (kk : Int) < (l.length : Int) := by omega
        have hlt' : kk < m.length := by have := HL.out; omega
        have hltz' : (kk : Int) < (m.length : Int) := by omega
        obtain ⟨b, off, cs, rfl, hb, hcs, ⟨rfl, _, _⟩, hcell⟩ := (hv.up DiagR.stays hF BW.out).at_ hlt
        obtain ⟨b', off', cs', rfl, hb', hcs', ⟨rfl, _, _⟩, hcell'⟩ := (hu.up DiagR.stays hG BW.out).at_ hlt'
        have hc0 := hcell 0 _ rfl
        have hd0 := hcell' 0 _ rfl
        have hc1 := hcell 1 _ rfl
        have hd1 := hcell' 1 _ rfl
        simp only [Nat.add_zero] at hc0 hd0
        clear hcell hcell' hv hu
        have hx := List.getElem?_eq_getElem hlt
        have hy := List.getElem?_eq_getElem hlt'
        generalize l[kk] = x at *
        generalize m[kk] = y at *
        have HX := Lib.hid hx; have HY := Lib.hid hy; clear hx hy
        cases hq : diagEq x y with
        | true =>
          have HQ := Lib.hid hq
          have hE := neq_diag x y
          rw [hq] at hE
          clear hq
          go_wp2_with fail
          go_quiet (fail)
          go_wp2_with fail
          go_roundg (l.length - (kk + 1))
          case measure => omega
          case rel => exact ⟨kk + 1, by omega, by omega, by go_num, below_drewN BW.out _, aside (alike_succ HX.out HY.out HQ.out A1.out)⟩
        | false =>
          have HQ := Lib.hid hq
          have hE := neq_diag x y
          rw [hq] at hE
          clear hq
          go_wp2_with fail
          go_quiet (fail)
          go_wp2_with fail
          go_ret
          exact ⟨ret_bool (listEq_miss HX.out HY.out HQ.out).symm, below_drewN BW.out _⟩
      · have hltz : ¬ (kk : Int) < (l.length : Int) := by omega
        obtain rfl : kk = l.length := by omega
        go_wp2_with fail
        go_ret
        exact ⟨ret_bool (alike_end HL.out A1.out).symm, BW.out⟩
  · have hz : ((l.length : Int) != (m.length : Int)) = true := by simp; omega
    have HL := Lib.hid hlen
    clear hlen
    go_enter Tryz.func19, Tryz.ntmps19
    go_wp2_with fail
    go_ret
    exact ⟨ret_bool (listEq_len HL.out).symm, Below.refl _ _⟩




end Go.Proofs.YtjaladhdnbhliaaGreatDoor
