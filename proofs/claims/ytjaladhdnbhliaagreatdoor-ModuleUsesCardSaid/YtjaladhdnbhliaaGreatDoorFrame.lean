/- Closed facts of this program that each law's last theorem wants: what its cut's head says, and that its types are laid out. -/
import Derived.Test.YtjaladhdnbhliaaGreatDoorRows
import Derived.Test.YtjaladhdnbhliaaGreatDoorLaw
namespace Go.Proofs.YtjaladhdnbhliaaGreatDoor
set_option maxRecDepth 1000000
def signs0 : List Char := [104, 97, 114, 110, 101, 115, 115].map Char.ofNat
def signs1 : List Char := [53, 57, 48, 102, 57, 98, 49, 55, 52, 102, 98, 53, 102, 100, 100, 48, 100, 49, 99, 51, 57, 101, 56, 50, 100, 56, 48, 101, 54, 98, 98, 100, 102, 50, 102, 54, 51, 51, 102, 54, 100, 49, 49, 98, 57, 98, 101, 100, 100, 55, 57, 101, 57, 52, 57, 98, 102, 53, 98, 53, 49, 57, 50, 99].map Char.ofNat
def signs2 : List Char := [99, 117, 116].map Char.ofNat
def signs3 : List Char := [97, 116, 32, 115, 99, 117, 108, 108, 101, 114, 121, 47, 115, 99, 117, 108, 108, 101, 114, 121, 107, 101, 101, 112, 46, 84, 114, 101, 101, 115, 66, 97, 99, 107, 32, 115, 99, 117, 108, 108, 101, 114, 121, 47, 115, 99, 117, 108, 108, 101, 114, 121, 108, 97, 119, 46, 77, 111, 100, 117, 108, 101, 85, 115, 101, 115, 32, 115, 99, 117, 108, 108, 101, 114, 121, 47, 115, 99, 117, 108, 108, 101, 114, 121, 108, 97, 119, 46, 77, 111, 100, 117, 108, 101, 67, 104, 101, 99, 107, 115, 32, 115, 99, 117, 108, 108, 101, 114, 121, 47, 115, 99, 117, 108, 108, 101, 114, 121, 107, 101, 101, 112, 46, 76, 105, 116, 101, 114, 97, 108, 115, 70, 105, 116, 32, 115, 99, 117, 108, 108, 101, 114, 121, 47, 115, 99, 117, 108, 108, 101, 114, 121, 107, 101, 101, 112, 46, 86, 97, 114, 115, 70, 105, 116, 32, 115, 99, 117, 108, 108, 101, 114, 121, 47, 115, 99, 117, 108, 108, 101, 114, 121, 107, 101, 101, 112, 46, 65, 108, 105, 97, 115, 101, 115, 83, 97, 109, 101, 32, 115, 99, 117, 108, 108, 101, 114, 121, 47, 115, 99, 117, 108, 108, 101, 114, 121, 107, 101, 101, 112, 46, 70, 97, 99, 101, 115, 71, 111, 111, 100].map Char.ofNat
theorem words_head : ∀ (a b : List Char), (∀ c ∈ a, c ≠ Char.ofNat 32) → wordsSigns (a ++ Char.ofNat 32 :: b) = a :: wordsSigns b
  | [], b, _ => rfl
  | c :: r, b, h => by
    have ih := words_head r b (fun x hx => h x (by simp [hx]))
    have hc : c ≠ Char.ofNat 32 := h c (by simp)
    rw [List.cons_append, wordsSigns, ih]
    exact hc
theorem make_of (P : Program) (Q : List (List Char)) (h : wordsSigns P.initOrder.toList = signs0 :: signs1 :: signs2 :: Q) : P.make = some .cut := by
  unfold Program.make
  rw [h]
  generalize P.headLifts = hl
  rfl
theorem headLifts_of (P : Program) (Q : List (List Char)) (h : wordsSigns P.initOrder.toList = signs0 :: signs1 :: signs2 :: Q) : P.headLifts = [] := by
  unfold Program.headLifts
  rw [h]
  rfl
theorem liftsFinal_of (P : Program) (Q : List (List Char)) (h : wordsSigns P.initOrder.toList = signs0 :: signs1 :: signs2 :: Q) : P.liftsFinal = false := by
  unfold Program.liftsFinal
  rw [h, headLifts_of P Q h]
  rfl
theorem mayEnter_of (P : Program) (Q : List (List Char)) (h : wordsSigns P.initOrder.toList = signs0 :: signs1 :: signs2 :: Q) (h1 : P.laysLater = false) (h2 : P.bearsReflect = false) (h3 : P.doorFits [] = true) : P.mayEnter = true := by
  unfold Program.mayEnter
  rw [h, h1, h2, show behindMainWord (signs0 :: signs1 :: signs2 :: Q) = signs2 :: Q from rfl]
  simp only [show stripLifts liftWords (signs2 :: Q) = ([], signs2 :: Q) from rfl, h3]
  rfl
theorem Tryz.own : ownKnob Tryz.prog.godebug = none := by kernel_rfl
theorem Tryz.laidOut : laidOutB Tryz.prog = true := by kernel_rfl
theorem Tryz.mapsRowed : mapsRowed Tryz.prog = true := by kernel_rfl
theorem Tryz.stopsHeard : Tryz.prog.stopsHeard = true := by kernel_rfl
theorem Tryz.plainKeys : Tryz.prog.plainKeys = true := by kernel_rfl
theorem initOrder_eq : Tryz.prog.initOrder = String.ofList (signs0 ++ Char.ofNat 32 :: (signs1 ++ Char.ofNat 32 :: (signs2 ++ Char.ofNat 32 :: signs3))) := by kernel_rfl
theorem words_eq : wordsSigns Tryz.prog.initOrder.toList = signs0 :: signs1 :: signs2 :: wordsSigns signs3 := by
  rw [initOrder_eq, String.toList_ofList, words_head _ _ (by decide), words_head _ _ (by decide), words_head _ _ (by decide)]
theorem laysLater_eq : Tryz.prog.laysLater = false := by kernel_rfl
theorem bearsReflect_eq : Tryz.prog.bearsReflect = false := by kernel_rfl
theorem doorFits_eq : Tryz.prog.doorFits [] = true := by kernel_rfl
theorem Tryz.mayEnter : Tryz.prog.mayEnter = true := mayEnter_of _ _ words_eq laysLater_eq bearsReflect_eq doorFits_eq
theorem Tryz.liftsFinal : Tryz.prog.liftsFinal = false := liftsFinal_of _ _ words_eq
theorem Tryz.make : Tryz.prog.make = some .cut := make_of _ _ words_eq
theorem beq_of {α : Type} [BEq α] [LawfulBEq α] {a b c : α} (h : b = c) (h2 : (a == c) = true) : (a == b) = true := by rw [h]; exact h2
theorem and32 {a0 a1 a2 a3 a4 a5 a6 a7 a8 a9 a10 a11 a12 a13 a14 a15 a16 a17 a18 a19 a20 a21 a22 a23 a24 a25 a26 a27 a28 a29 a30 a31 : Bool} (h0 : a0 = true) (h1 : a1 = true) (h2 : a2 = true) (h3 : a3 = true) (h4 : a4 = true) (h5 : a5 = true) (h6 : a6 = true) (h7 : a7 = true) (h8 : a8 = true) (h9 : a9 = true) (h10 : a10 = true) (h11 : a11 = true) (h12 : a12 = true) (h13 : a13 = true) (h14 : a14 = true) (h15 : a15 = true) (h16 : a16 = true) (h17 : a17 = true) (h18 : a18 = true) (h19 : a19 = true) (h20 : a20 = true) (h21 : a21 = true) (h22 : a22 = true) (h23 : a23 = true) (h24 : a24 = true) (h25 : a25 = true) (h26 : a26 = true) (h27 : a27 = true) (h28 : a28 = true) (h29 : a29 = true) (h30 : a30 = true) (h31 : a31 = true) : (a0 && a1 && a2 && a3 && a4 && a5 && a6 && a7 && a8 && a9 && a10 && a11 && a12 && a13 && a14 && a15 && a16 && a17 && a18 && a19 && a20 && a21 && a22 && a23 && a24 && a25 && a26 && a27 && a28 && a29 && a30 && a31) = true := by
  rw [h0, h1, h2, h3, h4, h5, h6, h7, h8, h9, h10, h11, h12, h13, h14, h15, h16, h17, h18, h19, h20, h21, h22, h23, h24, h25, h26, h27, h28, h29, h30, h31]
  rfl
end Go.Proofs.YtjaladhdnbhliaaGreatDoor
