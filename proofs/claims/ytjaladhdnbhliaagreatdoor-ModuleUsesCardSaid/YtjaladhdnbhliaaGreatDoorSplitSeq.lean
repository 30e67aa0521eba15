/- A range over a text's lines: strings.SplitSeq at one byte. -/
import Derived.Test.YtjaladhdnbhliaaGreatDoorTokCutG
import Derived.Test.YtjaladhdnbhliaaGreatDoorGrew
import Derived.Test.YtjaladhdnbhliaaGreatDoorShelf
import Derived.RangeFuncNested
import Derived.RangeFuncBound
import Derived.RangeFuncCalls
import Derived.RangeFuncLeaves
import Derived.Shelf.Abstract
import Derived.Shelf.RegionOpen
import Derived.WalkKit
import Derived.OwnWalkIn
import Derived.TacticsInMore
import Derived.LoopNIn
import Derived.LoopIn
namespace Go.Proofs.YtjaladhdnbhliaaGreatDoor
open Go.RowKit Go.Shelf
attribute [local go_sem] Oper.semAt_some

theorem ib_none : ∀ {x : List UInt8}, x.all notNl = true → Lib.indexByte x 10 = -1
  | [], _ => rfl
  | c :: r, h => by
    rw [List.all_cons, Bool.and_eq_true] at h
    have hc : (c == 10) = false := by have := h.1; unfold notNl at this; simpa using this
    unfold Lib.indexByte
    rw [hc, ib_none h.2]; rfl
theorem ib_split : ∀ {x : List UInt8} (r : List UInt8), x.all notNl = true → Lib.indexByte (x ++ 10 :: r) 10 = x.length
  | [], _, _ => rfl
  | c :: x, r, h => by
    rw [List.all_cons, Bool.and_eq_true] at h
    have hc : (c == 10) = false := by have := h.1; unfold notNl at this; simpa using this
    show Lib.indexByte (c :: (x ++ 10 :: r)) 10 = _
    unfold Lib.indexByte
    rw [hc, ib_split r h.2, if_neg (by simp), if_neg (by rw [beq_iff_eq]; omega), List.length_cons]
    omega
theorem nl_cases : ∀ r : List UInt8, r.all notNl = true ∨ ∃ x t, x.all notNl = true ∧ r = x ++ 10 :: t
  | [] => .inl rfl
  | c :: r => by
    by_cases hc : c = 10
    · subst hc; exact .inr ⟨[], r, rfl, rfl⟩
    · have hn : notNl c = true := by unfold notNl; simpa using hc
      rcases nl_cases r with h | ⟨x, t, h, rfl⟩
      · left; rw [List.all_cons, hn, h]; rfl
      · exact .inr ⟨c :: x, t, by rw [List.all_cons, hn, h]; rfl, rfl⟩

/-- Nothing has changed but block q, and what is new. -/
structure Touch (q : Nat) (w w' : World) : Prop where
  os : w'.os = w.os
  tape : w'.tape = w.tape
  output : w'.output = w.output
  size : w.heap.size ≤ w'.heap.size
  block : ∀ k, k < w.heap.size → k ≠ q → w'.heap[k]? = w.heap[k]?
theorem Touch.set {q : Nat} {w : World} (u : Value) : Touch q w (w.setCell ⟨q, 0, none⟩ u) := ⟨rfl, rfl, rfl, by rw [size_set]; exact Nat.le_refl _, fun k _ hk => Below.heap_setCell _ _ _ _ (show k ≠ q from hk)⟩

/-- The iterator's own variables. -/
structure Trip (W : World) (q : Nat) (r : List UInt8) : Prop where
  s : Box W q 9 #[.string (lit r)]
  sep : Box W (q + 1) 9 #[.string ⟨#[10]⟩]
  save : Box W (q + 2) 3 #[.int .i64 0]

def leftIn (q : Nat) (W : World) : Nat := match W.cell? ⟨q, 0, none⟩ with
  | some (.string s) => s.size
  | _ => 0

theorem leftIn_trip {q : Nat} {W : World} {r : List UInt8} (h : Trip W q r) : leftIn q W = r.length := by
  unfold leftIn
  rw [h.s.at_ 0 (.string (lit r)) rfl]
  exact lit_size r

set_option maxRecDepth 100000 in
set_option maxHeartbeats 4000000 in
theorem splitSeq1_in {n l q : Nat} (J : List UInt8 → World → Prop) (D : World → Prop) (E : List PanicEntry → World → Prop)
    (hJ : ∀ r W W', J r W → Touch q W W' → J r W')
    (hY : ∀ x r W, x.all notNl = true → J (x ++ 10 :: r) W → Trip W q (x ++ 10 :: r) → YieldAt Fence.wide (n - 1) Tryz.prog l #[.string (lit x)] W fun e W' => (e = .returned (.bool true) ∧ J r W' ∧ Trip W' q (x ++ 10 :: r)) ∨ ∃ ch, e = .panicked ch ∧ E ch W')
    (hL : ∀ x W, x.all notNl = true → J x W → YieldAt Fence.wide (n - 1) Tryz.prog l #[.string (lit x)] W fun e W' => (e = .returned (.bool true) ∧ D W') ∨ ∃ ch, e = .panicked ch ∧ E ch W')
    (r0 : List UInt8) (W : World) (hr : r0.length ≤ 2000) (h0 : J r0 W) (hT : Trip W q r0) :
    CallsIn Fence.wide n Tryz.prog 188 #[.func (.yield l) #[] #[], .pointer (some ⟨q + 1, 0, none⟩), .pointer (some ⟨q, 0, none⟩), .pointer (some ⟨q + 2, 0, none⟩)] W fun e W' => (∃ v, e = .returned v ∧ D W') ∨ ∃ ch, e = .panicked ch ∧ E ch W' := by
  refine callsIn_of_wp Tryz.func188 rfl trivial ?_ rfl
  simp only [Tryz.ntmps188, List.size_toArray, List.length_cons, List.length_nil, Nat.reduceAdd, Nat.reduceSub, Array.replicate_succ, Array.replicate_zero, List.push_toArray, List.append_toArray, List.nil_append, List.cons_append]
  have hs1 := hT.sep
  have x0 := hs1.at_ 0 _ rfl
  gi_wp2
  clear x0 hs1
  gi_loopw [] (fun wr => ∃ r : List UInt8, r.length ≤ 2000 ∧ Aside (J r wr) ∧ Aside (Trip wr q r)) (leftIn q)
  case atStart => exact ⟨r0, hr, aside h0, aside hT⟩
  case round =>
    clear h0 hT
    obtain ⟨r, hr, hJr, hTr⟩ := hrel
    obtain ⟨W1, rfl⟩ : ∃ W, W = wr := ⟨_, rfl⟩
    rcases nl_cases r with hn | ⟨x, t, hn, rfl⟩
    · have hix := (callsIn_wide (n := n - 1)).2 (Tryz.strings_Index_one (lit r) 10 W1)
      rw [show (lit r).data.toList = r from rfl, ib_none hn] at hix
      have h1 := hTr.out.s
      have h2 := hTr.out.sep
      have x0 := h1.at_ 0 _ rfl
      have y0 := h2.at_ 0 _ rfl
      obtain ⟨fn, tmps, assign, body, hy, hR⟩ := hL r W1 hn hJr.out
      have HIX := Lib.hid hix; have HR := Lib.hid hR
      clear hix hR
      clear h1 h2 hJ hY hL
      gi_wp2
      refine ⟨trivial, fun h => (by cases h), HIX.out.mono ?_⟩
      rintro e w' ⟨rfl, rfl⟩
      gi_wp2
      refine ⟨fun h => (by cases h), HR.out.mono ?_⟩
      rintro e W2 (⟨rfl, hD⟩ | ⟨ch, rfl, hE⟩)
      · gi_wp2
        go_end0
        exact .inl ⟨_, rfl, hD⟩
      · gi_wp2
        exact ⟨rfl, .inr ⟨ch, rfl, hE⟩⟩
    · have hix := (callsIn_wide (n := n - 1)).2 (Tryz.strings_Index_one (lit (x ++ 10 :: t)) 10 W1)
      rw [show (lit (x ++ 10 :: t)).data.toList = x ++ 10 :: t from rfl, ib_split t hn] at hix
      have h1 := hTr.out.s
      have h2 := hTr.out.sep
      have h3 := hTr.out.save
      have x0 := h1.at_ 0 _ rfl
      have y0 := h2.at_ 0 _ rfl
      have z0 := h3.at_ 0 _ rfl
      obtain ⟨fn, tmps, assign, body, hy, hR⟩ := hY x t W1 hn hJr.out hTr.out
      have hxl : x.length ≤ (lit (x ++ 10 :: t)).size := by rw [lit_size, List.length_append]; omega
      have hxz : ¬ ((x.length : Int) < 0) := by omega
      have hlx : x.length + t.length + 1 ≤ 2000 := by rw [List.length_append, List.length_cons] at hr; omega
      have hw1 : wrap64 (x.length : Int) = x.length := IntWalk.wrap64_in _ (by omega)
      have hw2 : wrap64 ((x.length : Int) + 1) = (x.length : Int) + 1 := IntWalk.wrap64_in _ (by omega)
      have hszi : ((lit (x ++ 10 :: t)).size : Int) = x.length + t.length + 1 := by rw [lit_size, List.length_append, List.length_cons]; omega
      have hb1 : (x.length : Int) ≤ ((lit (x ++ 10 :: t)).size : Int) := by omega
      have hb2 : (x.length : Int) + 1 ≤ ((lit (x ++ 10 :: t)).size : Int) := by omega
      have hxe : (lit (x ++ 10 :: t)).extract 0 x.length = lit x := by rw [ext_lit]; show lit ((x ++ 10 :: t).take x.length) = _; rw [List.take_left]
      rw [← hxe] at hy
      have HIX := Lib.hid hix; have HR := Lib.hid hR; have HXE := Lib.hid hxe
      clear hix hR hxe
      clear h1 h2 h3 hL
      gi_wp2
      refine ⟨trivial, fun h => (by cases h), HIX.out.mono ?_⟩
      rintro e w' ⟨rfl, rfl⟩
      gi_wp2
      refine ⟨fun h => (by cases h), HR.out.mono ?_⟩
      rintro e W2 (⟨rfl, hJ2, hT2⟩ | ⟨ch, rfl, hE⟩)
      · clear x0 y0 z0
        have h1 := hT2.s
        have h2 := hT2.sep
        have x0 := h1.at_ 0 _ rfl
        have g0 := h1.free 0
        have y0 := h2.at_ 0 _ rfl
        have hxf : (lit (x ++ 10 :: t)).extract (x.length + 1) (lit (x ++ 10 :: t)).size = lit t := by
          rw [ext_lit]
          show lit (((x ++ 10 :: t).drop (x.length + 1)).take _) = _
          rw [show x.length + 1 = (x ++ [10]).length by simp, show x ++ 10 :: t = (x ++ [10]) ++ t by simp, List.drop_left, List.take_of_length_le]
          rw [lit_size]; simp; omega
        have HT2 := Lib.hid hT2; have HJ2 := Lib.hid hJ2; have HXF := Lib.hid hxf
        clear hT2 hJ2 hxf
        clear h1 h2
        gi_wp2
        rw [HXF.out]
        have hT3 : Trip (W2.setCell ⟨q, 0, none⟩ (.string (lit t))) q t := ⟨by simpa using HT2.out.s.put 0 (.string (lit t)), HT2.out.sep.far (show q + 1 ≠ q by omega) _, HT2.out.save.far (show q + 2 ≠ q by omega) _⟩
        exact ⟨⟨t, by omega, aside (hJ t _ _ HJ2.out (Touch.set _)), aside hT3⟩, by rw [leftIn_trip hT3, leftIn_trip hTr.out, List.length_append, List.length_cons]; omega⟩
      · gi_wp2
        exact ⟨rfl, .inr ⟨ch, rfl, hE⟩⟩

set_option maxRecDepth 100000 in
set_option maxHeartbeats 1000000 in
/-- The iterator over a text's lines is made. -/
theorem splitSeq_any (s : ByteArray) (w : World) : Calls Tryz.prog 79 #[.string s, .string ⟨#[10]⟩] w fun e w' =>
    e = .returned (.func (.func 188) #[] #[.pointer (some ⟨w.heap.size + 1, 0, none⟩), .pointer (some ⟨w.heap.size, 0, none⟩), .pointer (some ⟨w.heap.size + 2, 0, none⟩)]) ∧ Trip w' w.heap.size s.data.toList ∧ Below w.heap.size w w' ∧ w'.heap.size = w.heap.size + 3 := by
  have hmf : ∀ (fn : Fn) (first cap : Array Value) (w : World), (Instr.makeFunc fn first cap).run Tryz.prog w = .ok (.func fn first cap) w := fun _ _ _ _ => rfl
  go_enter Tryz.func79, Tryz.ntmps79
  go_wp2
  have hBr1 := (((Box.made w 9 #[.string s]).alloc (.cells #[.string ⟨#[10]⟩] 9)).alloc (.cells #[.int .i64 0] 3))
  have hBr2 := ((Box.made (w.alloc (.cells #[.string s] 9)) 9 #[.string ⟨#[10]⟩]).alloc (.cells #[.int .i64 0] 3))
  rw [show (w.alloc (.cells #[.string s] 9)).heap.size = w.heap.size + 1 by simp only [World.size_alloc]] at hBr2
  have hBr3 := (Box.made ((w.alloc (.cells #[.string s] 9)).alloc (.cells #[.string ⟨#[10]⟩] 9)) 3 #[.int .i64 0])
  rw [show ((w.alloc (.cells #[.string s] 9)).alloc (.cells #[.string ⟨#[10]⟩] 9)).heap.size = w.heap.size + 1 + 1 by simp only [World.size_alloc]] at hBr3
  have hbr : Below w.heap.size w (((w.alloc (.cells #[.string s] 9)).alloc (.cells #[.string ⟨#[10]⟩] 9)).alloc (.cells #[.int .i64 0] 3)) := by go_grown
  have hzr : (((w.alloc (.cells #[.string s] 9)).alloc (.cells #[.string ⟨#[10]⟩] 9)).alloc (.cells #[.int .i64 0] 3)).heap.size = w.heap.size + 1 + 1 + 1 := by simp only [World.size_alloc]
  generalize ((w.alloc (.cells #[.string s] 9)).alloc (.cells #[.string ⟨#[10]⟩] 9)).alloc (.cells #[.int .i64 0] 3) = W1 at hBr1 hBr2 hBr3 hbr hzr ⊢
  go_ret
  exact ⟨rfl, ⟨by rw [lit_back]; exact hBr1, hBr2, hBr3⟩, hbr, hzr⟩

end Go.Proofs.YtjaladhdnbhliaaGreatDoor
