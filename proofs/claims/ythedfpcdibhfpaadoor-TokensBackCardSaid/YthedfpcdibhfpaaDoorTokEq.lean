/- Are tokens, are lists of tokens the same. -/
import Derived.Test.YthedfpcdibhfpaaDoorTokPlain
import Derived.Test.YthedfpcdibhfpaaDoorFaceEq2
import Derived.Test.YthedfpcdibhfpaaDoorBase
import Derived.Deep.QuietTactic
import Derived.BigQuiet
import Derived.WalkSmall
namespace Go.Proofs.YthedfpcdibhfpaaDoor
open Go.RowKit Go.Shelf

def tokEq (a b : Token) : Bool := (a.kind == b.kind) && eqB a.text b.text
theorem tokEq_refl (a : Token) : tokEq a a = true := by unfold tokEq eqB; simp
theorem neq_tok (a b : Token) (w : World) :
    (binOp .neq 68 (.agg #[.int .i64 a.kind, .string a.text]) (.agg #[.int .i64 b.kind, .string b.text])).run Tryd.prog w = .ok (.bool (!(tokEq a b))) w := by
  have u3 := Tryd.underlying9
  have a3 := Tryd.isAgg9
  have z3 := Tryd.sizeOf9
  have u4 := Tryd.underlying3
  have a4 := Tryd.isAgg3
  have z4 := Tryd.sizeOf3
  have hS : Tryd.prog.underlying 68 = some (.struct (Tryd.prog.fieldsOf 68)) := by kernel_rfl
  have hp : Tryd.prog.stoodInHeld 68 = false := by kernel_rfl
  rw [run_neq_struct, show (10000 : Nat) = 9999 + 1 from rfl, run_equalIn_agg w 9999 68 _ _ hS hp]
  simp only [Program.fieldsOf, Tryd.underlying68]
  go_simp
  by_cases h1 : a.text.toList = b.text.toList <;> by_cases h2 : a.kind = b.kind <;> simp [tokEq, eqB, h1, h2]


set_option maxRecDepth 100000 in
set_option maxHeartbeats 1000000 in
theorem equal_tokens (v u : Value) (l m : List Token) (F G : Foot) (w : World) (hF : ∀ k, F k → k < w.heap.size) (hG : ∀ k, G k → k < w.heap.size) (hv : SliceOf TokenR 2 24 w F v l) (hu : SliceOf TokenR 2 24 w G u m) :
    Calls Tryd.prog 33 #[v, u] w fun e w' => e = .returned (.bool (listEq tokEq l m)) ∧ Below w.heap.size w w' := by
  obtain ⟨A, cap, rfl, hlc, hcm, hl2, hl3⟩ := hv.form
  obtain ⟨A', cap', rfl, hlc', hcm', hl2', hl3'⟩ := hu.form
  by_cases hlen : l.length = m.length
  · have hz : ((l.length : Int) != (m.length : Int)) = false := by simp [hlen]
    have HL := Lib.hid hlen
    have hle : m.length ≤ l.length := by omega
    clear hlen
    go_enter Tryd.func33, Tryd.ntmps33
    go_wp2_with fail
    go_loopg [5, 13] l.length (fun gg _ s13 wr => ∃ kk : Nat, kk ≤ l.length ∧ l.length - kk ≤ gg ∧ s13 = .int .i64 kk ∧ Aside (Below w.heap.size w wr) ∧ Aside (∀ j, j < kk → ∀ x y, l[j]? = some x → m[j]? = some y → tokEq x y = true))
    case atStart => exact ⟨0, Nat.zero_le _, by omega, rfl, Below.refl _ w, aside (fun j hj => absurd hj (Nat.not_lt_zero _))⟩
    case round =>
      obtain ⟨kk, hkk, hg, rfl, BW, A1⟩ := hrel
      by_cases hlt : kk < l.length
      · have hltz : (kk : Int) < (l.length : Int) := by omega
        have hlt' : kk < m.length := by have := HL.out; omega
        have hltz' : (kk : Int) < (m.length : Int) := by omega
        obtain ⟨b, off, cs, rfl, hb, hcs, ⟨rfl, _, _⟩, hcell⟩ := (hv.up TokenR.stays hF BW.out).at_ hlt
        obtain ⟨b', off', cs', rfl, hb', hcs', ⟨rfl, _, _⟩, hcell'⟩ := (hu.up TokenR.stays hG BW.out).at_ hlt'
        have hc0 := hcell 0 _ rfl
        have hd0 := hcell' 0 _ rfl
        have hc1 := hcell 1 _ rfl
        have hd1 := hcell' 1 _ rfl
        simp only [Nat.mul_one, Nat.add_zero] at hc0 hd0
        clear hcell hcell' hv hu
        have hx := List.getElem?_eq_getElem hlt
        have hy := List.getElem?_eq_getElem hlt'
        generalize l[kk] = x at *
        generalize m[kk] = y at *
        have HX := Lib.hid hx; have HY := Lib.hid hy; clear hx hy
        cases hq : tokEq x y with
        | true =>
          have HQ := Lib.hid hq
          have hE := neq_tok x y
          rw [hq] at hE
          clear hq
          go_wp2_with fail
          go_quiet (fail)
          go_wp2_with fail
          go_roundg (l.length - (kk + 1))
          case measure => omega
          case rel => exact ⟨kk + 1, by omega, by omega, by go_num, below_drewN BW.out _, aside (alike_succ HX.out HY.out HQ.out A1.out)⟩
        | false =>
          have HQ := Lib.hid hq
          have hE := neq_tok x y
          rw [hq] at hE
          clear hq
          go_wp2_with fail
          go_quiet (fail)
          go_wp2_with fail
          go_ret
          exact ⟨ret_bool (listEq_miss HX.out HY.out HQ.out).symm, below_drewN BW.out _⟩
      · have hltz : ¬ (kk : Int) < (l.length : Int) := by omega
        obtain rfl : kk = l.length := by omega
        go_wp2_with fail
        go_ret
        exact ⟨ret_bool (alike_end HL.out A1.out).symm, BW.out⟩
  · have hz : ((l.length : Int) != (m.length : Int)) = true := by simp; omega
    have HL := Lib.hid hlen
    clear hlen
    go_enter Tryd.func33, Tryd.ntmps33
    go_wp2_with fail
    go_ret
    exact ⟨ret_bool (listEq_len HL.out).symm, Below.refl _ _⟩

end Go.Proofs.YthedfpcdibhfpaaDoor
