/- The library's slices.IndexFunc and ContainsFunc at this program's element types, whatever the predicate. -/
import Derived.Test.YtafhepilcmimlaaGreatDoorBase
import Derived.Test.YtafhepilcmimlaaGreatDoorRows
namespace Go.Proofs.YtafhepilcmimlaaGreatDoor
open Go.RowKit

/-- An element's value: one cell as it is, several as an aggregate. -/
def elv : List Value → Value
  | [c] => c
  | cs => .agg cs.toArray

theorem two_cells {cs : List Value} (h : cs.length = 2) : ∃ a b, cs = [a, b] := by
  match cs, h with | [a, b], _ => exact ⟨a, b, rfl⟩
theorem three_cells {cs : List Value} (h : cs.length = 3) : ∃ a b c, cs = [a, b, c] := by
  match cs, h with | [a, b, c], _ => exact ⟨a, b, c, rfl⟩
theorem four_cells {cs : List Value} (h : cs.length = 4) : ∃ a b c d, cs = [a, b, c, d] := by
  match cs, h with | [a, b, c, d], _ => exact ⟨a, b, c, d, rfl⟩
theorem five_cells {cs : List Value} (h : cs.length = 5) : ∃ a b c d e, cs = [a, b, c, d, e] := by
  match cs, h with | [a, b, c, d, e], _ => exact ⟨a, b, c, d, e, rfl⟩
theorem twelve_cells {cs : List Value} (h : cs.length = 12) : ∃ a b c d e f g i j k l m, cs = [a, b, c, d, e, f, g, i, j, k, l, m] := by
  match cs, h with | [a, b, c, d, e, f, g, i, j, k, l, m], _ => exact ⟨a, b, c, d, e, f, g, i, j, k, l, m, rfl⟩

set_option maxHeartbeats 1000000 in
theorem indexFunc_bytes (v : Value) (l : List UInt8) (F : Foot) (g : Nat) (lb : Array Value) (p : UInt8 → Bool) (w : World) (eg : ∀ args w, (callFunc g args).run Tryz.prog w = .ok (.enter g args) w)
    (hF : ∀ k, F k → k < w.heap.size) (hv : SliceOf U8R 1 1 w F v l)
    (hp : ∀ W x cs, x ∈ l → Below w.heap.size w W → U8R W F cs x → Calls Tryz.prog g (#[elv cs] ++ lb) W fun e w' => e = .returned (.bool (p x)) ∧ Below W.heap.size W w') :
    Calls Tryz.prog 112 #[v, .func (.func g) #[] lb] w fun e w' => e = .returned (.int .i64 (fidx p l)) ∧ Below w.heap.size w w' := by
  obtain ⟨A, cap, rfl, hlc, hcm, hl2, hl3⟩ := hv.form
  go_enter Tryz.func112, Tryz.ntmps112
  go_wp2
  go_loopg [5, 8] l.length (fun gg _ s8 wr => ∃ kk : Nat, kk ≤ l.length ∧ l.length - kk ≤ gg ∧ s8 = .int .i64 kk ∧ Aside (Below w.heap.size w wr) ∧ Aside (∀ j, j < kk → ∀ x, l[j]? = some x → p x = false))
  case atStart => exact ⟨0, Nat.zero_le _, by omega, rfl, Below.refl _ w, (show Aside _ from fun j hj => absurd hj (Nat.not_lt_zero _))⟩
  case round =>
    obtain ⟨kk, hkk, hg, rfl, BW, A1⟩ := hrel
    by_cases hlt : kk < l.length
    · have hltz : (kk : Int) < (l.length : Int) := by omega
      obtain ⟨b, off, cs, rfl, hb, hcs, hr, hcell⟩ := (hv.stays U8R.stays (fun _ h => h) (Keeps.of_below BW.out hF)).at_ hlt
      obtain ⟨c0, rfl⟩ := List.length_eq_one_iff.1 hcs
      have hc0 := hcell 0 c0 rfl
      simp only [Nat.mul_one, Nat.add_zero] at hc0
      have hcall := hp wr l[kk] [c0] (List.getElem_mem hlt) BW.out hr
      simp only [elv] at hcall
      clear hr hcell hp hv
      cases hq : p l[kk] with
      | true =>
        rw [hq] at hcall
        have HC := Lib.hid hcall; clear hcall
        have HQ := Lib.hid hq; clear hq
        go_wp2_with fail
        refine HC.out.mono ?_
        rintro e w' ⟨rfl, hb'⟩
        go_wp2
        go_ret
        exact ⟨by rw [fidx_hit hlt HQ.out A1.out]; rfl, BW.out.trans (hb'.mono BW.out.size)⟩
      | false =>
        rw [hq] at hcall
        have HC := Lib.hid hcall; clear hcall
        have HQ := Lib.hid hq; clear hq
        go_wp2_with fail
        refine HC.out.mono ?_
        rintro e w' ⟨rfl, hb'⟩
        go_wp2
        go_roundg (l.length - (kk + 1))
        case measure => omega
        case rel => exact ⟨kk + 1, by omega, by omega, by go_num, BW.out.trans (hb'.mono BW.out.size), (show Aside _ from seen_succ hlt HQ.out A1.out)⟩
    · have hltz : ¬ (kk : Int) < (l.length : Int) := by omega
      obtain rfl : kk = l.length := by omega
      go_wp2
      go_ret
      exact ⟨by rw [fidx_miss A1.out]; rfl, BW.out⟩


set_option maxHeartbeats 400000 in
theorem containsFunc_bytes (v : Value) (l : List UInt8) (F : Foot) (g : Nat) (lb : Array Value) (p : UInt8 → Bool) (w : World) (eg : ∀ args w, (callFunc g args).run Tryz.prog w = .ok (.enter g args) w)
    (hF : ∀ k, F k → k < w.heap.size) (hv : SliceOf U8R 1 1 w F v l)
    (hp : ∀ W x cs, x ∈ l → Below w.heap.size w W → U8R W F cs x → Calls Tryz.prog g (#[elv cs] ++ lb) W fun e w' => e = .returned (.bool (p x)) ∧ Below W.heap.size W w') :
    Calls Tryz.prog 98 #[v, .func (.func g) #[] lb] w fun e w' => e = .returned (.bool (l.any p)) ∧ Below w.heap.size w w' := by
  have hcall := indexFunc_bytes v l F g lb p w eg hF hv hp
  have hn := Lib.hid (fidx_nonneg p l)
  generalize fidx p l = z at hcall hn
  clear hp hv
  have HC := Lib.hid hcall; clear hcall
  go_enter Tryz.func98, Tryz.ntmps98
  go_wp2_with fail
  refine HC.out.mono ?_
  rintro e w' ⟨rfl, hb'⟩
  go_wp2
  go_ret
  exact ⟨by rw [← hn.out]; rfl, hb'⟩






















end Go.Proofs.YtafhepilcmimlaaGreatDoor
