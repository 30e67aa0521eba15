/- What stands in the memory now, wherever; and how it is handed on to later worlds. No program is named here. -/
import Derived.Test.YtejiaimcgmpliaaOwns
namespace Go.Proofs.Ytejiaimcgmpliaa
open Go.RowKit

section
variable {α : Type} {R : CR α} {sz by_ : Nat} {F : Foot} {w U : World} {cs : List Value} {v : Value} {x : α} {l : List α}
theorem now_of (hR : Stays R) (h : R w F cs x) (hF : ∀ k, F k → k < w.heap.size) : R w (old w.heap.size) cs x := hR _ _ _ _ _ _ h hF (Keeps.refl _ _)
theorem now_up (hR : Stays R) (h : R w (old w.heap.size) cs x) (hb : Below w.heap.size w U) : R U (old U.heap.size) cs x :=
  hR _ _ _ _ _ _ h (fun _ hk => Nat.lt_of_lt_of_le hk hb.size) (Keeps.of_below hb fun _ hk => hk)
theorem now_list (hR : Stays R) (h : SliceOf R sz by_ w F v l) (hF : ∀ k, F k → k < w.heap.size) : SliceOf R sz by_ w (old w.heap.size) v l := h.stays hR hF (Keeps.refl _ _)
theorem now_lup (hR : Stays R) (h : SliceOf R sz by_ w (old w.heap.size) v l) (hb : Below w.heap.size w U) : SliceOf R sz by_ U (old U.heap.size) v l :=
  h.stays hR (fun _ hk => Nat.lt_of_lt_of_le hk hb.size) (Keeps.of_below hb fun _ hk => hk)
theorem old_lt {n : Nat} : ∀ k, old n k → k < n := fun _ h => h
end

end Go.Proofs.Ytejiaimcgmpliaa
