/- The library's slices.BinarySearchFunc at this program's element types, by their names. -/
import Derived.Test.YtafhepilcmimlaaDoorFunc
import Derived.Test.YtafhepilcmimlaaDoorBase
namespace Go.Proofs.YtafhepilcmimlaaDoor
open Go.RowKit

/-- What a search answers: is there a thing of that name at the place? -/
def hitB {α : Type} (f : α → ByteArray) (l : List α) (t : ByteArray) (i : Nat) : Bool := match l[i]? with | some x => decide (f x = t) | none => false
theorem hitB_some {α : Type} {f : α → ByteArray} {l : List α} {t : ByteArray} {i : Nat} {x : α} (h : l[i]? = some x) : hitB f l t i = decide (f x = t) := by unfold hitB; rw [h]
theorem hitB_none {α : Type} {f : α → ByteArray} {l : List α} {t : ByteArray} {i : Nat} (h : l.length ≤ i) : hitB f l t i = false := by unfold hitB; rw [List.getElem?_eq_none h]
theorem ret_hit {i : Nat} {a b : Bool} (h : a = b) : Ending.returned (.tuple #[.int .i64 (i : Int), .bool a]) = .returned (.tuple #[.int .i64 (i : Int), .bool b]) := by rw [h]






set_option maxRecDepth 100000 in
set_option maxHeartbeats 2000000 in
theorem search_nodes (v : Value) (l : List Node) (F : Foot) (t : ByteArray) (g : Nat) (lb : Array Value) (w : World) (eg : ∀ args w, (callFunc g args).run Tryd.prog w = .ok (.enter g args) w)
    (hF : ∀ k, F k → k < w.heap.size) (hv : SliceOf NodeR 2 40 w F v l)
    (hp : ∀ W x cs, x ∈ l → Below w.heap.size w W → NodeR W F cs x → Calls Tryd.prog g (#[.agg cs.toArray, .string t] ++ lb) W fun e w' => e = .returned (.int .i64 (Lib.compareBytes x.name.data.toList t.data.toList)) ∧ Below W.heap.size W w') :
    Calls Tryd.prog 56 #[v, .string t, .func (.func g) #[] lb] w fun e w' => ∃ i : Nat, Parts Node.name l t i ∧ e = .returned (.tuple #[.int .i64 (i : Int), .bool (hitB Node.name l t i)]) ∧ Below w.heap.size w w' := by
  obtain ⟨A, cap, rfl, hlc, hcm, hl2, hl3⟩ := hv.form
  go_enter Tryd.func56, Tryd.ntmps56
  go_wp2_with fail
  go_loopg [9, 10, 11] l.length (fun gg s9 s10 _ wr => ∃ i j : Nat, i ≤ j ∧ j ≤ l.length ∧ j - i ≤ gg ∧ s9 = .int .i64 i ∧ s10 = .int .i64 j ∧ Aside (Below w.heap.size w wr) ∧ Aside (∀ x, 0 < i → l[i - 1]? = some x → ltS x.name t = true) ∧ Aside (∀ x, l[j]? = some x → ltS x.name t = false))
  case atStart => exact ⟨0, l.length, Nat.zero_le _, Nat.le_refl _, by omega, rfl, rfl, Below.refl _ w, (show Aside _ from fun x h => absurd h (Nat.lt_irrefl _)), (show Aside _ from fun x h => by simp at h)⟩
  case round =>
    obtain ⟨i, j, hij, hjl, hg, rfl, rfl, BW, L1, R1⟩ := hrel
    by_cases hlt : i < j
    · have hltz : (i : Int) < (j : Int) := by omega
      have hh : (i + j) / 2 < j := by omega
      have hh0 : i ≤ (i + j) / 2 := by omega
      have hhl : (i + j) / 2 < l.length := by omega
      obtain ⟨b, off, cs, rfl, hb, hcs, hr, hcell⟩ := (hv.up NodeR.stays hF BW.out).at_ hhl
      obtain ⟨m0, m1, rfl⟩ := two_cells hcs
      have hc0 := hcell 0 m0 rfl
      have hc1 := hcell 1 m1 rfl
      simp only [Nat.add_zero] at hc0
      have hcall := hp wr l[(i + j) / 2] [m0, m1] (List.getElem_mem hhl) BW.out hr
      have hx := List.getElem?_eq_getElem hhl
      generalize l[(i + j) / 2] = x at *
      have hcm := cmpS_neg x.name t
      generalize Lib.compareBytes x.name.data.toList t.data.toList = z at hcall hcm
      have HX := Lib.hid hx; have HC := Lib.hid hcall
      clear hr hcell hp hv hx hcall
      cases hq : ltS x.name t with
      | true =>
        rw [hq] at hcm
        have hz : z < 0 := by simpa using hcm
        have HQ := Lib.hid hq
        clear hcm hq
        go_wp2_with fail
        refine HC.out.mono ?_
        rintro e w' ⟨rfl, hb'⟩
        have HB := Lib.hid (BW.out.trans (hb'.mono BW.out.size))
        clear hb'
        go_wp2_with fail
        go_roundg (j - ((i + j) / 2 + 1))
        case measure => omega
        case rel => exact ⟨(i + j) / 2 + 1, j, by omega, hjl, by omega, by go_num, rfl, HB.out, (show Aside _ from fun y _ hy => by rw [Nat.add_sub_cancel, HX.out] at hy; injection hy with hy; rw [← hy]; exact HQ.out), R1⟩
      | false =>
        rw [hq] at hcm
        have hz : ¬ z < 0 := by simpa using hcm
        have HQ := Lib.hid hq
        clear hcm hq
        go_wp2_with fail
        refine HC.out.mono ?_
        rintro e w' ⟨rfl, hb'⟩
        have HB := Lib.hid (BW.out.trans (hb'.mono BW.out.size))
        clear hb'
        go_wp2_with fail
        go_roundg ((i + j) / 2 - i)
        case measure => omega
        case rel => exact ⟨i, (i + j) / 2, by omega, by omega, by omega, rfl, by go_num, HB.out, L1, (show Aside _ from fun y hy => by rw [HX.out] at hy; injection hy with hy; rw [← hy]; exact HQ.out)⟩
    · have hltz : ¬ (i : Int) < (j : Int) := by omega
      obtain rfl : i = j := by omega
      have HP := Lib.hid (show Parts Node.name l t i from ⟨hjl, L1.out, R1.out⟩)
      by_cases hend : i < l.length
      · have hendz : (i : Int) < (l.length : Int) := by omega
        obtain ⟨b, off, cs, rfl, hb, hcs, hr, hcell⟩ := (hv.up NodeR.stays hF BW.out).at_ hend
        obtain ⟨m0, m1, rfl⟩ := two_cells hcs
        have hc0 := hcell 0 m0 rfl
        have hc1 := hcell 1 m1 rfl
        simp only [Nat.add_zero] at hc0
        have hcall := hp wr l[i] [m0, m1] (List.getElem_mem hend) BW.out hr
        have hx := List.getElem?_eq_getElem hend
        generalize l[i] = x at *
        have hcm := cmpS_zero x.name t
        generalize Lib.compareBytes x.name.data.toList t.data.toList = z at hcall hcm
        have HX := Lib.hid hx; have HC := Lib.hid hcall; have HM := Lib.hid hcm
        clear hr hcell hp hv hx hcall hcm
        go_wp2_with fail
        refine HC.out.mono ?_
        rintro e w' ⟨rfl, hb'⟩
        have HB := Lib.hid (BW.out.trans (hb'.mono BW.out.size))
        clear hb'
        go_wp2_with fail
        go_ret2
        exact ⟨i, HP.out, ret_hit (by rw [hitB_some HX.out, ← HM.out]; rfl), HB.out⟩
      · have hendz : ¬ (i : Int) < (l.length : Int) := by omega
        have HN := Lib.hid (hitB_none (f := Node.name) (t := t) (show l.length ≤ i by omega))
        clear hp hv
        go_wp2_with fail
        go_ret2
        exact ⟨i, HP.out, ret_hit HN.out.symm, BW.out⟩


end Go.Proofs.YtafhepilcmimlaaDoor
