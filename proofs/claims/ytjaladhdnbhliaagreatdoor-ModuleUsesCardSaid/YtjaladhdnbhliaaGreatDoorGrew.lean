/- What a function that changes one block leaves as it was. No program is named here. -/
import Derived.Test.YtjaladhdnbhliaaGreatDoorBase
import Derived.WalkSmall
import Derived.Handy
namespace Go.Proofs.YtjaladhdnbhliaaGreatDoor
open Go.RowKit Go.Shelf

theorem Grew.refl_ (b : Nat) (w : World) (r : Option Nat) (h : ∀ k, r = some k → b ≤ k) : Grew b w w r := ⟨rfl, rfl, rfl, Nat.le_refl _, fun _ _ _ => rfl, h⟩
theorem Grew.drew_ {b : Nat} {w w' : World} {r : Option Nat} (h : Grew b w.drew w' r) : Grew b w w' r := ⟨h.os, h.tape, h.output, h.size, h.block, h.low⟩
theorem Grew.cell_ {b : Nat} (w : World) (i : Nat) (u : Value) : Grew b w (w.setCell ⟨b, i, none⟩ u) (some b) :=
  ⟨rfl, rfl, rfl, by simp [World.setCell], fun k _ hk => Below.heap_setCell _ _ _ _ (fun e => hk (by rw [show k = b from e])), fun k hk => by injection hk with hk; omega⟩
theorem Grew.trans_ {b : Nat} {w a c : World} {r : Option Nat} (h : Grew b w a r) (k : Grew b a c r) : Grew b w c r :=
  ⟨k.os.trans h.os, k.tape.trans h.tape, k.output.trans h.output, Nat.le_trans h.size k.size, fun j hj hr => (k.block j (Nat.lt_of_lt_of_le hj h.size) hr).trans (h.block j hj hr), h.low⟩

theorem Grew.of_below {b : Nat} {w w' : World} {r : Option Nat} (h : Below w.heap.size w w') (hr : ∀ k, r = some k → b ≤ k) : Grew b w w' r := ⟨h.os, h.tape, h.output, h.size, fun k hk _ => h.block k hk, hr⟩
theorem Grew.box_ {b n : Nat} {w w' : World} {t : TypeId} {cs : Array Value} (h : Grew b w w' (some b)) (hB : Box w n t cs) (hn : n ≠ b) : Box w' n t cs := Box.of_heap hB (h.block n hB.lt (fun e => hn (by injection e)))
theorem Grew.set_new {b : Nat} {w w' : World} {r : Option Nat} (h : Grew b w w' r) {p : Addr} (hp : w.heap.size ≤ p.block) (u : Value) : Grew b w (w'.setCell p u) r :=
  ⟨h.os, h.tape, h.output, by rw [size_set]; exact h.size, fun k hk hr => (Below.heap_setCell _ _ _ _ (by omega)).trans (h.block k hk hr), h.low⟩
theorem Grew.drewN_ {b n : Nat} {w w' : World} {r : Option Nat} (h : Grew b (w.drewN n) w' r) : Grew b w w' r := ⟨h.os, h.tape, h.output, h.size, h.block, h.low⟩
theorem Grew.endN {b n : Nat} {w w' : World} {r : Option Nat} (h : Grew b w w' r) : Grew b w (w'.drewN n) r := ⟨h.os, h.tape, h.output, h.size, h.block, h.low⟩
theorem Grew.then_ {b : Nat} {w a c : World} {r row : Option Nat} (h : Grew b w a r) (k : Grew w.heap.size a c row) : Grew b w c r :=
  ⟨k.os.trans h.os, k.tape.trans h.tape, k.output.trans h.output, Nat.le_trans h.size k.size, fun j hj hr => (k.block j (Nat.lt_of_lt_of_le hj h.size) (fun e => by have := k.low j e.symm; omega)).trans (h.block j hj hr), h.low⟩
theorem Grew.keeps {b n : Nat} {w w' : World} (h : Grew b w w' (some b)) (hb : b < n) {m : Nat} (hs : m ≤ w.heap.size) : Keeps (fresh n m) w w' :=
  fun p hp => World.cell?_of_block (h.block p.block (by have := hp.2; omega) (fun e => by injection e with e; have := hp.1; omega))
theorem some_le {b : Nat} : ∀ k, some b = some k → b ≤ k := fun k hk => by injection hk with hk; omega
/-- A list of its own is kept while the reader reads. -/
theorem Owns.read {α : Type} {R : CR α} {sz base b : Nat} {e : TypeId} {F : Foot} {w w' : World} {v : Value} {l : List α} (hR : Stays R) (h : Owns R sz e base w F v l) (hg : Grew b w w' (some b)) (hb : b < base) (hF : ∀ k, F k → base ≤ k) : Owns R sz e base w' F v l :=
  h.kept hR hg.size fun k hk hk2 => hg.block k hk (fun e => by
    injection e with e
    rcases hk2 with h2 | h2
    · have := hF k h2; omega
    · have := (h.row h2).1; omega)

end Go.Proofs.YtjaladhdnbhliaaGreatDoor
