/- Are two faces the same: the reference's SameFace. -/
import Derived.Test.YtafhepilcmimlaaDoorFaceEq2
namespace Go.Proofs.YtafhepilcmimlaaDoor
open Go.RowKit Go.Shelf

/-- The world behind the two parameters' boxes. -/
structure Boxed2 (w W : World) (n : Nat) (a0 a1 b0 b1 : Value) : Prop where
  below : Below n w W
  size : n + 2 ≤ W.heap.size
  n_eq : n = w.heap.size
  ca0 : W.cell? ⟨n, 0, none⟩ = some a0
  ca1 : W.cell? ⟨n, 1, none⟩ = some a1
  cb0 : W.cell? ⟨n + 1, 0, none⟩ = some b0
  cb1 : W.cell? ⟨n + 1, 1, none⟩ = some b1

theorem boxed2 (w : World) (t : TypeId) (a0 a1 b0 b1 : Value) : Boxed2 w ((w.alloc (.cells #[a0, a1] t)).alloc (.cells #[b0, b1] t)) w.heap.size a0 a1 b0 b1 :=
  ⟨((Below.refl _ _).alloc (Nat.le_refl _) _).alloc (by simp) _, by simp, rfl,
    by rw [World.cell?_alloc_past _ _ _ (by simp), World.cell?_alloc_at _ _ _ _ rfl]; rfl,
    by rw [World.cell?_alloc_past _ _ _ (by simp), World.cell?_alloc_at _ _ _ _ rfl]; rfl,
    by rw [World.cell?_alloc_at _ _ _ _ (by simp)]; rfl,
    by rw [World.cell?_alloc_at _ _ _ _ (by simp)]; rfl⟩
theorem Boxed2.later {w W W' : World} {n : Nat} {a0 a1 b0 b1 : Value} (h : Boxed2 w W n a0 a1 b0 b1) (hb : Below (n + 2) W W') : Boxed2 w W' n a0 a1 b0 b1 :=
  ⟨h.below.trans (hb.mono (by omega)), Nat.le_trans h.size hb.size, h.n_eq, (hb.cell (by simp)).trans h.ca0, (hb.cell (by simp)).trans h.ca1, (hb.cell (by simp)).trans h.cb0, (hb.cell (by simp)).trans h.cb1⟩

/-- The world behind the two boxes of a round. -/
structure Boxed3 (w W : World) (n : Nat) (p q : Value) : Prop where
  below : Below n w W
  size : n + 2 ≤ W.heap.size
  n_eq : n = w.heap.size
  cp : W.cell? ⟨n, 1, none⟩ = some p
  cq : W.cell? ⟨n + 1, 1, none⟩ = some q

theorem boxed3 (w : World) (t : TypeId) (a0 p a2 b0 q b2 : Value) : Boxed3 w ((w.alloc (.cells #[a0, p, a2] t)).alloc (.cells #[b0, q, b2] t)) w.heap.size p q :=
  ⟨((Below.refl _ _).alloc (Nat.le_refl _) _).alloc (by simp) _, by simp, rfl,
    by rw [World.cell?_alloc_past _ _ _ (by simp), World.cell?_alloc_at _ _ _ _ rfl]; rfl,
    by rw [World.cell?_alloc_at _ _ _ _ (by simp)]; rfl⟩
theorem Boxed3.later {w W W' : World} {n : Nat} {p q : Value} (h : Boxed3 w W n p q) (hb : Below (n + 2) W W') : Boxed3 w W' n p q :=
  ⟨h.below.trans (hb.mono (by omega)), Nat.le_trans h.size hb.size, h.n_eq, (hb.cell (by simp)).trans h.cp, (hb.cell (by simp)).trans h.cq⟩

end Go.Proofs.YtafhepilcmimlaaDoor
