/- Where the reference's reader stands, in a function that uses it. -/
import Derived.Test.YtoejhgbndehaiaaEarStr
namespace Go.Proofs.Ytoejhgbndehaiaa
open Go.RowKit Go.Shelf

/-- From world w on the reader at block b has come to place i, error e. -/
structure Hear (b : Nat) (w W : World) (s : ByteArray) (i : Nat) (e : Int) : Prop where
  eye : Ear W b s i e
  grew : Grew b w W (some b)
  le : i ≤ s.size
  i64 : I64 e
section
variable {b : Nat} {w W W' : World} {s : ByteArray} {i i' : Nat} {e e' : Int}
theorem Hear.start (h : Hear b w W s i e) : Hear b W W s i e := ⟨h.eye, Grew.refl_ _ _ _ some_le, h.le, h.i64⟩
theorem Hear.trans (h : Hear b w W s i e) (k : Hear b W W' s i' e') : Hear b w W' s i' e' := ⟨k.eye, h.grew.trans_ k.grew, k.le, k.i64⟩
theorem Hear.drew (h : Hear b w W s i e) : Hear b w W.drew s i e := ⟨h.eye, ⟨h.grew.os, h.grew.tape, h.grew.output, h.grew.size, h.grew.block, h.grew.low⟩, h.le, h.i64⟩
theorem Hear.drewN (h : Hear b w W s i e) (n : Nat) : Hear b w (W.drewN n) s i e := ⟨h.eye, h.grew.endN, h.le, h.i64⟩
theorem Hear.alloc (h : Hear b w W s i e) (o : Obj) : Hear b w (W.alloc o) s i e := ⟨h.eye.alloc o, h.grew.trans_ (Grew.of_below ((Below.refl _ _).alloc (Nat.le_refl _) o) some_le), h.le, h.i64⟩
theorem Hear.set (h : Hear b w W s i e) {p : Addr} (hp : w.heap.size ≤ p.block) (hb : b < w.heap.size) (u : Value) : Hear b w (W.setCell p u) s i e := ⟨h.eye.far (by omega) u, h.grew.set_new hp u, h.le, h.i64⟩
theorem Hear.then_ (h : Hear b w W s i e) (hb : b < w.heap.size) {row : Option Nat} {base : Nat} (hl : w.heap.size ≤ base) (k : Grew base W W' row) : Hear b w W' s i e :=
  ⟨k.box h.eye (by omega), h.grew.then_ ⟨k.os, k.tape, k.output, k.size, k.block, fun j hj => Nat.le_trans hl (k.low j hj)⟩, h.le, h.i64⟩
theorem Hear.size (h : Hear b w W s i e) : w.heap.size ≤ W.heap.size := h.grew.size
theorem Hear.box (h : Hear b w W s i e) {n : Nat} {t : TypeId} {cs : Array Value} (hB : Box w n t cs) (hn : n ≠ b) : Box W n t cs := h.grew.box_ hB hn
theorem Hear.ok (h : Hear b w W s i e) : W.cell? ⟨b, 2, none⟩ = some (.int .i64 e) := h.eye.at_ 2 _ rfl
theorem Hear.at1 (h : Hear b w W s i e) : W.cell? ⟨b, 1, none⟩ = some (.int .i64 i) := h.eye.at_ 1 _ rfl
theorem Hear.num (h : Hear b w W s i e) (hs : s.size ≤ 60000) : Calls Try.prog 38 #[.pointer (some ⟨b, 0, none⟩)] W fun en w' =>
    ∃ (n i' : Nat) (e' : Int), n ≤ 255 ∧ en = .returned (.int .i64 n) ∧ Hear b w w' s i' e' ∧ Grew b W w' (some b) ∧ Reads rdNum (s.data.toList.drop i) e n (s.data.toList.drop i') e' :=
  (numE_any b s i e W hs h.le h.i64 h.eye).mono fun _ _ ⟨n, hn, he, i', e', hB, hg, hl, hi, hR⟩ => ⟨n, i', e', hn, he, ⟨hB, h.grew.trans_ hg, hl, hi⟩, hg, hR⟩
theorem Hear.str (h : Hear b w W s i e) (hs : s.size ≤ 60000) : Calls Try.prog 37 #[.pointer (some ⟨b, 0, none⟩)] W fun en w' =>
    ∃ (x : ByteArray) (i' : Nat) (e' : Int), okS x ∧ en = .returned (.string x) ∧ Hear b w w' s i' e' ∧ Grew b W w' (some b) ∧ Reads rdStr (s.data.toList.drop i) e x (s.data.toList.drop i') e' :=
  (str_any b s i e W hs h.le h.i64 h.eye).mono fun _ _ ⟨x, hx, he, i', e', hB, hg, hl, hi, hR⟩ => ⟨x, i', e', hx, he, ⟨hB, h.grew.trans_ hg, hl, hi⟩, hg, hR⟩
end
theorem Owns.heard {α : Type} {R : CR α} {sz base b : Nat} {e : TypeId} {F : Foot} {w w' : World} {v : Value} {l : List α} (hR : Stays R) (h : Owns R sz e base w F v l) {s : ByteArray} {i : Nat} {er : Int} (hg : Hear b w w' s i er) (hb : b < base) (hF : ∀ k, F k → base ≤ k) : Owns R sz e base w' F v l := h.read hR hg.grew hb hF

end Go.Proofs.Ytoejhgbndehaiaa
