/- The library's slices.IndexFunc and ContainsFunc at this program's element types, whatever the predicate. -/
import Derived.Test.YtjaladhdnbhliaaGreatDoorBase
import Derived.Test.YtjaladhdnbhliaaGreatDoorRows
namespace Go.Proofs.YtjaladhdnbhliaaGreatDoor
open Go.RowKit

/-- An element's value: one cell as it is, several as an aggregate. -/
def elv : List Value → Value
  | [c] => c
  | cs => .agg cs.toArray

theorem two_cells {cs : List Value} (h : cs.length = 2) : ∃ a b, cs = [a, b] := by
  match cs, h with | [a, b], _ => exact ⟨a, b, rfl⟩
theorem three_cells {cs : List Value} (h : cs.length = 3) : ∃ a b c, cs = [a, b, c] := by
  match cs, h with | [a, b, c], _ => exact ⟨a, b, c, rfl⟩
theorem four_cells {cs : List Value} (h : cs.length = 4) : ∃ a b c d, cs = [a, b, c, d] := by
  match cs, h with | [a, b, c, d], _ => exact ⟨a, b, c, d, rfl⟩
theorem five_cells {cs : List Value} (h : cs.length = 5) : ∃ a b c d e, cs = [a, b, c, d, e] := by
  match cs, h with | [a, b, c, d, e], _ => exact ⟨a, b, c, d, e, rfl⟩
theorem twelve_cells {cs : List Value} (h : cs.length = 12) : ∃ a b c d e f g i j k l m, cs = [a, b, c, d, e, f, g, i, j, k, l, m] := by
  match cs, h with | [a, b, c, d, e, f, g, i, j, k, l, m], _ => exact ⟨a, b, c, d, e, f, g, i, j, k, l, m, rfl⟩

set_option maxHeartbeats 1000000 in
theorem indexFunc_bytes (v : Value) (l : List UInt8) (F : Foot) (g : Nat) (lb : Array Value) (p : UInt8 → Bool) (w : World) (eg : ∀ args w, (callFunc g args).run Tryz.prog w = .ok (.enter g args) w)
    (hF : ∀ k, F k → k < w.heap.size) (hv : SliceOf U8R 1 1 w F v l)
    (hp : ∀ W x cs, x ∈ l → Below w.heap.size w W → U8R W F cs x → Calls Tryz.prog g (#[elv cs] ++ lb) W fun e w' => e = .returned (.bool (p x)) ∧ Below W.heap.size W w') :
    Calls Tryz.prog 237 #[v, .func (.func g) #[] lb] w fun e w' => e = .returned (.int .i64 (fidx p l)) ∧ Below w.heap.size w w' := by
  obtain ⟨A, cap, rfl, hlc, hcm, hl2, hl3⟩ := hv.form
  go_enter Tryz.func237, Tryz.ntmps237
  go_wp2
  go_loopg [5, 8] l.length (fun gg _ s8 wr => ∃ kk : Nat, kk ≤ l.length ∧ l.length - kk ≤ gg ∧ s8 = .int .i64 kk ∧ Aside (Below w.heap.size w wr) ∧ Aside (∀ j, j < kk → ∀ x, l[j]? = some x → p x = false))
  case atStart => exact ⟨0, Nat.zero_le _, by omega, rfl, Below.refl _ w, (show Aside _ from fun j hj => absurd hj (Nat.not_lt_zero _))⟩
  case round =>
    obtain ⟨kk, hkk, hg, rfl, BW, A1⟩ := hrel
    by_cases hlt : kk < l.length
    · have hltz : (kk : Int) < (l.length : Int) := by omega
      obtain ⟨b, off, cs, rfl, hb, hcs, hr, hcell⟩ := (hv.stays U8R.stays (fun _ h => h) (Keeps.of_below BW.out hF)).at_ hlt
      obtain ⟨c0, rfl⟩ := List.length_eq_one_iff.1 hcs
      have hc0 := hcell 0 c0 rfl
      simp only [Nat.mul_one, Nat.add_zero] at hc0
      have hcall := hp wr l[kk] [c0] (List.getElem_mem hlt) BW.out hr
      simp only [elv] at hcall
      clear hr hcell hp hv
      cases hq : p l[kk] with
      | true =>
        rw [hq] at hcall
        have HC := Lib.hid hcall; clear hcall
        have HQ := Lib.hid hq; clear hq
        go_wp2_with fail
        refine HC.out.mono ?_
        rintro e w' ⟨rfl, hb'⟩
        go_wp2
        go_ret
        exact ⟨by rw [fidx_hit hlt HQ.out A1.out]; rfl, BW.out.trans (hb'.mono BW.out.size)⟩
      | false =>
        rw [hq] at hcall
        have HC := Lib.hid hcall; clear hcall
        have HQ := Lib.hid hq; clear hq
        go_wp2_with fail
        refine HC.out.mono ?_
        rintro e w' ⟨rfl, hb'⟩
        go_wp2
        go_roundg (l.length - (kk + 1))
        case measure => omega
        case rel => exact ⟨kk + 1, by omega, by omega, by go_num, BW.out.trans (hb'.mono BW.out.size), (show Aside _ from seen_succ hlt HQ.out A1.out)⟩
    · have hltz : ¬ (kk : Int) < (l.length : Int) := by omega
      obtain rfl : kk = l.length := by omega
      go_wp2
      go_ret
      exact ⟨by rw [fidx_miss A1.out]; rfl, BW.out⟩


set_option maxHeartbeats 400000 in
theorem containsFunc_bytes (v : Value) (l : List UInt8) (F : Foot) (g : Nat) (lb : Array Value) (p : UInt8 → Bool) (w : World) (eg : ∀ args w, (callFunc g args).run Tryz.prog w = .ok (.enter g args) w)
    (hF : ∀ k, F k → k < w.heap.size) (hv : SliceOf U8R 1 1 w F v l)
    (hp : ∀ W x cs, x ∈ l → Below w.heap.size w W → U8R W F cs x → Calls Tryz.prog g (#[elv cs] ++ lb) W fun e w' => e = .returned (.bool (p x)) ∧ Below W.heap.size W w') :
    Calls Tryz.prog 181 #[v, .func (.func g) #[] lb] w fun e w' => e = .returned (.bool (l.any p)) ∧ Below w.heap.size w w' := by
  have hcall := indexFunc_bytes v l F g lb p w eg hF hv hp
  have hn := Lib.hid (fidx_nonneg p l)
  generalize fidx p l = z at hcall hn
  clear hp hv
  have HC := Lib.hid hcall; clear hcall
  go_enter Tryz.func181, Tryz.ntmps181
  go_wp2_with fail
  refine HC.out.mono ?_
  rintro e w' ⟨rfl, hb'⟩
  go_wp2
  go_ret
  exact ⟨by rw [← hn.out]; rfl, hb'⟩


set_option maxHeartbeats 1000000 in
theorem indexFunc_strs (v : Value) (l : List ByteArray) (F : Foot) (g : Nat) (lb : Array Value) (p : ByteArray → Bool) (w : World) (eg : ∀ args w, (callFunc g args).run Tryz.prog w = .ok (.enter g args) w)
    (hF : ∀ k, F k → k < w.heap.size) (hv : SliceOf StrR 1 16 w F v l)
    (hp : ∀ W x cs, x ∈ l → Below w.heap.size w W → StrR W F cs x → Calls Tryz.prog g (#[elv cs] ++ lb) W fun e w' => e = .returned (.bool (p x)) ∧ Below W.heap.size W w') :
    Calls Tryz.prog 115 #[v, .func (.func g) #[] lb] w fun e w' => e = .returned (.int .i64 (fidx p l)) ∧ Below w.heap.size w w' := by
  obtain ⟨A, cap, rfl, hlc, hcm, hl2, hl3⟩ := hv.form
  go_enter Tryz.func115, Tryz.ntmps115
  go_wp2
  go_loopg [5, 8] l.length (fun gg _ s8 wr => ∃ kk : Nat, kk ≤ l.length ∧ l.length - kk ≤ gg ∧ s8 = .int .i64 kk ∧ Aside (Below w.heap.size w wr) ∧ Aside (∀ j, j < kk → ∀ x, l[j]? = some x → p x = false))
  case atStart => exact ⟨0, Nat.zero_le _, by omega, rfl, Below.refl _ w, (show Aside _ from fun j hj => absurd hj (Nat.not_lt_zero _))⟩
  case round =>
    obtain ⟨kk, hkk, hg, rfl, BW, A1⟩ := hrel
    by_cases hlt : kk < l.length
    · have hltz : (kk : Int) < (l.length : Int) := by omega
      obtain ⟨b, off, cs, rfl, hb, hcs, hr, hcell⟩ := (hv.stays StrR.stays (fun _ h => h) (Keeps.of_below BW.out hF)).at_ hlt
      obtain ⟨c0, rfl⟩ := List.length_eq_one_iff.1 hcs
      have hc0 := hcell 0 c0 rfl
      simp only [Nat.mul_one, Nat.add_zero] at hc0
      have hcall := hp wr l[kk] [c0] (List.getElem_mem hlt) BW.out hr
      simp only [elv] at hcall
      clear hr hcell hp hv
      cases hq : p l[kk] with
      | true =>
        rw [hq] at hcall
        have HC := Lib.hid hcall; clear hcall
        have HQ := Lib.hid hq; clear hq
        go_wp2_with fail
        refine HC.out.mono ?_
        rintro e w' ⟨rfl, hb'⟩
        go_wp2
        go_ret
        exact ⟨by rw [fidx_hit hlt HQ.out A1.out]; rfl, BW.out.trans (hb'.mono BW.out.size)⟩
      | false =>
        rw [hq] at hcall
        have HC := Lib.hid hcall; clear hcall
        have HQ := Lib.hid hq; clear hq
        go_wp2_with fail
        refine HC.out.mono ?_
        rintro e w' ⟨rfl, hb'⟩
        go_wp2
        go_roundg (l.length - (kk + 1))
        case measure => omega
        case rel => exact ⟨kk + 1, by omega, by omega, by go_num, BW.out.trans (hb'.mono BW.out.size), (show Aside _ from seen_succ hlt HQ.out A1.out)⟩
    · have hltz : ¬ (kk : Int) < (l.length : Int) := by omega
      obtain rfl : kk = l.length := by omega
      go_wp2
      go_ret
      exact ⟨by rw [fidx_miss A1.out]; rfl, BW.out⟩


set_option maxHeartbeats 400000 in
theorem containsFunc_strs (v : Value) (l : List ByteArray) (F : Foot) (g : Nat) (lb : Array Value) (p : ByteArray → Bool) (w : World) (eg : ∀ args w, (callFunc g args).run Tryz.prog w = .ok (.enter g args) w)
    (hF : ∀ k, F k → k < w.heap.size) (hv : SliceOf StrR 1 16 w F v l)
    (hp : ∀ W x cs, x ∈ l → Below w.heap.size w W → StrR W F cs x → Calls Tryz.prog g (#[elv cs] ++ lb) W fun e w' => e = .returned (.bool (p x)) ∧ Below W.heap.size W w') :
    Calls Tryz.prog 64 #[v, .func (.func g) #[] lb] w fun e w' => e = .returned (.bool (l.any p)) ∧ Below w.heap.size w w' := by
  have hcall := indexFunc_strs v l F g lb p w eg hF hv hp
  have hn := Lib.hid (fidx_nonneg p l)
  generalize fidx p l = z at hcall hn
  clear hp hv
  have HC := Lib.hid hcall; clear hcall
  go_enter Tryz.func64, Tryz.ntmps64
  go_wp2_with fail
  refine HC.out.mono ?_
  rintro e w' ⟨rfl, hb'⟩
  go_wp2
  go_ret
  exact ⟨by rw [← hn.out]; rfl, hb'⟩


set_option maxHeartbeats 1000000 in
theorem indexFunc_imports (v : Value) (l : List Import) (F : Foot) (g : Nat) (lb : Array Value) (p : Import → Bool) (w : World) (eg : ∀ args w, (callFunc g args).run Tryz.prog w = .ok (.enter g args) w)
    (hF : ∀ k, F k → k < w.heap.size) (hv : SliceOf ImportR 4 72 w F v l)
    (hp : ∀ W x cs, x ∈ l → Below w.heap.size w W → ImportR W F cs x → Calls Tryz.prog g (#[elv cs] ++ lb) W fun e w' => e = .returned (.bool (p x)) ∧ Below W.heap.size W w') :
    Calls Tryz.prog 156 #[v, .func (.func g) #[] lb] w fun e w' => e = .returned (.int .i64 (fidx p l)) ∧ Below w.heap.size w w' := by
  obtain ⟨A, cap, rfl, hlc, hcm, hl2, hl3⟩ := hv.form
  go_enter Tryz.func156, Tryz.ntmps156
  go_wp2
  go_loopg [5, 8] l.length (fun gg _ s8 wr => ∃ kk : Nat, kk ≤ l.length ∧ l.length - kk ≤ gg ∧ s8 = .int .i64 kk ∧ Aside (Below w.heap.size w wr) ∧ Aside (∀ j, j < kk → ∀ x, l[j]? = some x → p x = false))
  case atStart => exact ⟨0, Nat.zero_le _, by omega, rfl, Below.refl _ w, (show Aside _ from fun j hj => absurd hj (Nat.not_lt_zero _))⟩
  case round =>
    obtain ⟨kk, hkk, hg, rfl, BW, A1⟩ := hrel
    by_cases hlt : kk < l.length
    · have hltz : (kk : Int) < (l.length : Int) := by omega
      obtain ⟨b, off, cs, rfl, hb, hcs, hr, hcell⟩ := (hv.stays ImportR.stays (fun _ h => h) (Keeps.of_below BW.out hF)).at_ hlt
      obtain ⟨c0, c1, c2, c3, rfl⟩ := four_cells hcs
      have hc0 := hcell 0 c0 rfl
      have hc1 := hcell 1 c1 rfl
      have hc2 := hcell 2 c2 rfl
      have hc3 := hcell 3 c3 rfl
      simp only [Nat.add_zero] at hc0
      have hcall := hp wr l[kk] [c0, c1, c2, c3] (List.getElem_mem hlt) BW.out hr
      simp only [elv] at hcall
      clear hr hcell hp hv
      cases hq : p l[kk] with
      | true =>
        rw [hq] at hcall
        have HC := Lib.hid hcall; clear hcall
        have HQ := Lib.hid hq; clear hq
        go_wp2_with fail
        refine HC.out.mono ?_
        rintro e w' ⟨rfl, hb'⟩
        go_wp2
        go_ret
        exact ⟨by rw [fidx_hit hlt HQ.out A1.out]; rfl, BW.out.trans (hb'.mono BW.out.size)⟩
      | false =>
        rw [hq] at hcall
        have HC := Lib.hid hcall; clear hcall
        have HQ := Lib.hid hq; clear hq
        go_wp2_with fail
        refine HC.out.mono ?_
        rintro e w' ⟨rfl, hb'⟩
        go_wp2
        go_roundg (l.length - (kk + 1))
        case measure => omega
        case rel => exact ⟨kk + 1, by omega, by omega, by go_num, BW.out.trans (hb'.mono BW.out.size), (show Aside _ from seen_succ hlt HQ.out A1.out)⟩
    · have hltz : ¬ (kk : Int) < (l.length : Int) := by omega
      obtain rfl : kk = l.length := by omega
      go_wp2
      go_ret
      exact ⟨by rw [fidx_miss A1.out]; rfl, BW.out⟩


set_option maxHeartbeats 1000000 in
theorem indexFunc_fields (v : Value) (l : List Field) (F : Foot) (g : Nat) (lb : Array Value) (p : Field → Bool) (w : World) (eg : ∀ args w, (callFunc g args).run Tryz.prog w = .ok (.enter g args) w)
    (hF : ∀ k, F k → k < w.heap.size) (hv : SliceOf FieldR 5 80 w F v l)
    (hp : ∀ W x cs, x ∈ l → Below w.heap.size w W → FieldR W F cs x → Calls Tryz.prog g (#[elv cs] ++ lb) W fun e w' => e = .returned (.bool (p x)) ∧ Below W.heap.size W w') :
    Calls Tryz.prog 153 #[v, .func (.func g) #[] lb] w fun e w' => e = .returned (.int .i64 (fidx p l)) ∧ Below w.heap.size w w' := by
  obtain ⟨A, cap, rfl, hlc, hcm, hl2, hl3⟩ := hv.form
  go_enter Tryz.func153, Tryz.ntmps153
  go_wp2
  go_loopg [5, 8] l.length (fun gg _ s8 wr => ∃ kk : Nat, kk ≤ l.length ∧ l.length - kk ≤ gg ∧ s8 = .int .i64 kk ∧ Aside (Below w.heap.size w wr) ∧ Aside (∀ j, j < kk → ∀ x, l[j]? = some x → p x = false))
  case atStart => exact ⟨0, Nat.zero_le _, by omega, rfl, Below.refl _ w, (show Aside _ from fun j hj => absurd hj (Nat.not_lt_zero _))⟩
  case round =>
    obtain ⟨kk, hkk, hg, rfl, BW, A1⟩ := hrel
    by_cases hlt : kk < l.length
    · have hltz : (kk : Int) < (l.length : Int) := by omega
      obtain ⟨b, off, cs, rfl, hb, hcs, hr, hcell⟩ := (hv.stays FieldR.stays (fun _ h => h) (Keeps.of_below BW.out hF)).at_ hlt
      obtain ⟨c0, c1, c2, c3, c4, rfl⟩ := five_cells hcs
      have hc0 := hcell 0 c0 rfl
      have hc1 := hcell 1 c1 rfl
      have hc2 := hcell 2 c2 rfl
      have hc3 := hcell 3 c3 rfl
      have hc4 := hcell 4 c4 rfl
      simp only [Nat.add_zero] at hc0
      have hcall := hp wr l[kk] [c0, c1, c2, c3, c4] (List.getElem_mem hlt) BW.out hr
      simp only [elv] at hcall
      clear hr hcell hp hv
      cases hq : p l[kk] with
      | true =>
        rw [hq] at hcall
        have HC := Lib.hid hcall; clear hcall
        have HQ := Lib.hid hq; clear hq
        go_wp2_with fail
        refine HC.out.mono ?_
        rintro e w' ⟨rfl, hb'⟩
        go_wp2
        go_ret
        exact ⟨by rw [fidx_hit hlt HQ.out A1.out]; rfl, BW.out.trans (hb'.mono BW.out.size)⟩
      | false =>
        rw [hq] at hcall
        have HC := Lib.hid hcall; clear hcall
        have HQ := Lib.hid hq; clear hq
        go_wp2_with fail
        refine HC.out.mono ?_
        rintro e w' ⟨rfl, hb'⟩
        go_wp2
        go_roundg (l.length - (kk + 1))
        case measure => omega
        case rel => exact ⟨kk + 1, by omega, by omega, by go_num, BW.out.trans (hb'.mono BW.out.size), (show Aside _ from seen_succ hlt HQ.out A1.out)⟩
    · have hltz : ¬ (kk : Int) < (l.length : Int) := by omega
      obtain rfl : kk = l.length := by omega
      go_wp2
      go_ret
      exact ⟨by rw [fidx_miss A1.out]; rfl, BW.out⟩


set_option maxHeartbeats 400000 in
theorem containsFunc_fields (v : Value) (l : List Field) (F : Foot) (g : Nat) (lb : Array Value) (p : Field → Bool) (w : World) (eg : ∀ args w, (callFunc g args).run Tryz.prog w = .ok (.enter g args) w)
    (hF : ∀ k, F k → k < w.heap.size) (hv : SliceOf FieldR 5 80 w F v l)
    (hp : ∀ W x cs, x ∈ l → Below w.heap.size w W → FieldR W F cs x → Calls Tryz.prog g (#[elv cs] ++ lb) W fun e w' => e = .returned (.bool (p x)) ∧ Below W.heap.size W w') :
    Calls Tryz.prog 90 #[v, .func (.func g) #[] lb] w fun e w' => e = .returned (.bool (l.any p)) ∧ Below w.heap.size w w' := by
  have hcall := indexFunc_fields v l F g lb p w eg hF hv hp
  have hn := Lib.hid (fidx_nonneg p l)
  generalize fidx p l = z at hcall hn
  clear hp hv
  have HC := Lib.hid hcall; clear hcall
  go_enter Tryz.func90, Tryz.ntmps90
  go_wp2_with fail
  refine HC.out.mono ?_
  rintro e w' ⟨rfl, hb'⟩
  go_wp2
  go_ret
  exact ⟨by rw [← hn.out]; rfl, hb'⟩


set_option maxHeartbeats 1000000 in
theorem indexFunc_funcs (v : Value) (l : List Func) (F : Foot) (g : Nat) (lb : Array Value) (p : Func → Bool) (w : World) (eg : ∀ args w, (callFunc g args).run Tryz.prog w = .ok (.enter g args) w)
    (hF : ∀ k, F k → k < w.heap.size) (hv : SliceOf FuncR 12 192 w F v l)
    (hp : ∀ W x cs, x ∈ l → Below w.heap.size w W → FuncR W F cs x → Calls Tryz.prog g (#[elv cs] ++ lb) W fun e w' => e = .returned (.bool (p x)) ∧ Below W.heap.size W w') :
    Calls Tryz.prog 211 #[v, .func (.func g) #[] lb] w fun e w' => e = .returned (.int .i64 (fidx p l)) ∧ Below w.heap.size w w' := by
  obtain ⟨A, cap, rfl, hlc, hcm, hl2, hl3⟩ := hv.form
  go_enter Tryz.func211, Tryz.ntmps211
  go_wp2
  go_loopg [5, 8] l.length (fun gg _ s8 wr => ∃ kk : Nat, kk ≤ l.length ∧ l.length - kk ≤ gg ∧ s8 = .int .i64 kk ∧ Aside (Below w.heap.size w wr) ∧ Aside (∀ j, j < kk → ∀ x, l[j]? = some x → p x = false))
  case atStart => exact ⟨0, Nat.zero_le _, by omega, rfl, Below.refl _ w, (show Aside _ from fun j hj => absurd hj (Nat.not_lt_zero _))⟩
  case round =>
    obtain ⟨kk, hkk, hg, rfl, BW, A1⟩ := hrel
    by_cases hlt : kk < l.length
    · have hltz : (kk : Int) < (l.length : Int) := by omega
      obtain ⟨b, off, cs, rfl, hb, hcs, hr, hcell⟩ := (hv.stays FuncR.stays (fun _ h => h) (Keeps.of_below BW.out hF)).at_ hlt
      obtain ⟨c0, c1, c2, c3, c4, c5, c6, c7, c8, c9, c10, c11, rfl⟩ := twelve_cells hcs
      have hc0 := hcell 0 c0 rfl
      have hc1 := hcell 1 c1 rfl
      have hc2 := hcell 2 c2 rfl
      have hc3 := hcell 3 c3 rfl
      have hc4 := hcell 4 c4 rfl
      have hc5 := hcell 5 c5 rfl
      have hc6 := hcell 6 c6 rfl
      have hc7 := hcell 7 c7 rfl
      have hc8 := hcell 8 c8 rfl
      have hc9 := hcell 9 c9 rfl
      have hc10 := hcell 10 c10 rfl
      have hc11 := hcell 11 c11 rfl
      simp only [Nat.add_zero] at hc0
      have hcall := hp wr l[kk] [c0, c1, c2, c3, c4, c5, c6, c7, c8, c9, c10, c11] (List.getElem_mem hlt) BW.out hr
      simp only [elv] at hcall
      clear hr hcell hp hv
      cases hq : p l[kk] with
      | true =>
        rw [hq] at hcall
        have HC := Lib.hid hcall; clear hcall
        have HQ := Lib.hid hq; clear hq
        go_wp2_with fail
        refine HC.out.mono ?_
        rintro e w' ⟨rfl, hb'⟩
        go_wp2
        go_ret
        exact ⟨by rw [fidx_hit hlt HQ.out A1.out]; rfl, BW.out.trans (hb'.mono BW.out.size)⟩
      | false =>
        rw [hq] at hcall
        have HC := Lib.hid hcall; clear hcall
        have HQ := Lib.hid hq; clear hq
        go_wp2_with fail
        refine HC.out.mono ?_
        rintro e w' ⟨rfl, hb'⟩
        go_wp2
        go_roundg (l.length - (kk + 1))
        case measure => omega
        case rel => exact ⟨kk + 1, by omega, by omega, by go_num, BW.out.trans (hb'.mono BW.out.size), (show Aside _ from seen_succ hlt HQ.out A1.out)⟩
    · have hltz : ¬ (kk : Int) < (l.length : Int) := by omega
      obtain rfl : kk = l.length := by omega
      go_wp2
      go_ret
      exact ⟨by rw [fidx_miss A1.out]; rfl, BW.out⟩


set_option maxHeartbeats 400000 in
theorem containsFunc_funcs (v : Value) (l : List Func) (F : Foot) (g : Nat) (lb : Array Value) (p : Func → Bool) (w : World) (eg : ∀ args w, (callFunc g args).run Tryz.prog w = .ok (.enter g args) w)
    (hF : ∀ k, F k → k < w.heap.size) (hv : SliceOf FuncR 12 192 w F v l)
    (hp : ∀ W x cs, x ∈ l → Below w.heap.size w W → FuncR W F cs x → Calls Tryz.prog g (#[elv cs] ++ lb) W fun e w' => e = .returned (.bool (p x)) ∧ Below W.heap.size W w') :
    Calls Tryz.prog 149 #[v, .func (.func g) #[] lb] w fun e w' => e = .returned (.bool (l.any p)) ∧ Below w.heap.size w w' := by
  have hcall := indexFunc_funcs v l F g lb p w eg hF hv hp
  have hn := Lib.hid (fidx_nonneg p l)
  generalize fidx p l = z at hcall hn
  clear hp hv
  have HC := Lib.hid hcall; clear hcall
  go_enter Tryz.func149, Tryz.ntmps149
  go_wp2_with fail
  refine HC.out.mono ?_
  rintro e w' ⟨rfl, hb'⟩
  go_wp2
  go_ret
  exact ⟨by rw [← hn.out]; rfl, hb'⟩






set_option maxHeartbeats 1000000 in
theorem indexFunc_knowns (v : Value) (l : List Known) (F : Foot) (g : Nat) (lb : Array Value) (p : Known → Bool) (w : World) (eg : ∀ args w, (callFunc g args).run Tryz.prog w = .ok (.enter g args) w)
    (hF : ∀ k, F k → k < w.heap.size) (hv : SliceOf KnownR 2 32 w F v l)
    (hp : ∀ W x cs, x ∈ l → Below w.heap.size w W → KnownR W F cs x → Calls Tryz.prog g (#[elv cs] ++ lb) W fun e w' => e = .returned (.bool (p x)) ∧ Below W.heap.size W w') :
    Calls Tryz.prog 159 #[v, .func (.func g) #[] lb] w fun e w' => e = .returned (.int .i64 (fidx p l)) ∧ Below w.heap.size w w' := by
  obtain ⟨A, cap, rfl, hlc, hcm, hl2, hl3⟩ := hv.form
  go_enter Tryz.func159, Tryz.ntmps159
  go_wp2
  go_loopg [5, 8] l.length (fun gg _ s8 wr => ∃ kk : Nat, kk ≤ l.length ∧ l.length - kk ≤ gg ∧ s8 = .int .i64 kk ∧ Aside (Below w.heap.size w wr) ∧ Aside (∀ j, j < kk → ∀ x, l[j]? = some x → p x = false))
  case atStart => exact ⟨0, Nat.zero_le _, by omega, rfl, Below.refl _ w, (show Aside _ from fun j hj => absurd hj (Nat.not_lt_zero _))⟩
  case round =>
    obtain ⟨kk, hkk, hg, rfl, BW, A1⟩ := hrel
    by_cases hlt : kk < l.length
    · have hltz : (kk : Int) < (l.length : Int) := by omega
      obtain ⟨b, off, cs, rfl, hb, hcs, hr, hcell⟩ := (hv.stays KnownR.stays (fun _ h => h) (Keeps.of_below BW.out hF)).at_ hlt
      obtain ⟨c0, c1, rfl⟩ := two_cells hcs
      have hc0 := hcell 0 c0 rfl
      have hc1 := hcell 1 c1 rfl
      simp only [Nat.add_zero] at hc0
      have hcall := hp wr l[kk] [c0, c1] (List.getElem_mem hlt) BW.out hr
      simp only [elv] at hcall
      clear hr hcell hp hv
      cases hq : p l[kk] with
      | true =>
        rw [hq] at hcall
        have HC := Lib.hid hcall; clear hcall
        have HQ := Lib.hid hq; clear hq
        go_wp2_with fail
        refine HC.out.mono ?_
        rintro e w' ⟨rfl, hb'⟩
        go_wp2
        go_ret
        exact ⟨by rw [fidx_hit hlt HQ.out A1.out]; rfl, BW.out.trans (hb'.mono BW.out.size)⟩
      | false =>
        rw [hq] at hcall
        have HC := Lib.hid hcall; clear hcall
        have HQ := Lib.hid hq; clear hq
        go_wp2_with fail
        refine HC.out.mono ?_
        rintro e w' ⟨rfl, hb'⟩
        go_wp2
        go_roundg (l.length - (kk + 1))
        case measure => omega
        case rel => exact ⟨kk + 1, by omega, by omega, by go_num, BW.out.trans (hb'.mono BW.out.size), (show Aside _ from seen_succ hlt HQ.out A1.out)⟩
    · have hltz : ¬ (kk : Int) < (l.length : Int) := by omega
      obtain rfl : kk = l.length := by omega
      go_wp2
      go_ret
      exact ⟨by rw [fidx_miss A1.out]; rfl, BW.out⟩


end Go.Proofs.YtjaladhdnbhliaaGreatDoor
