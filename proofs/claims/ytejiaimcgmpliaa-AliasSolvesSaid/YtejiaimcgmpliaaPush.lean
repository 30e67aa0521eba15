/- 'append(s, y)' to a list of the function's own, at a step of a region that draws its order. -/
import Derived.Test.YtejiaimcgmpliaaOwns
import Derived.Deep.AppendLies
namespace Go.Proofs.Ytejiaimcgmpliaa
open Go.RowKit

theorem step_push {α : Type} {R : CR α} {size bytes base : Nat} {e : TypeId} {F G : Foot} {w : World} {v : Value} {l : List α} {P : Program}
    (hR : Stays R) (z : Value) (cs : List Value) (y : α) {ops : Array Oper} {o : Oper} {a : Act} {K : Act → World → Prop} {Q : Exit → Act → World → Prop} {E : Prop} (s x : Operand) (t : TypeId) (hgd : o.guard = none)
    (ho : o.op = .call { callee := .builtin .append, args := #[s, x], argTypes := #[t, t] })
    (ht : P.underlying t = some (.slice e)) (hi : (P.info? e).map (fun i => (i.zero, i.size, i.bytes)) = some (some z, size, bytes))
    (hown : Owns R size e base w F v l) (hs : a.eval s = v) (hzs : z.cells.size = size) (hsz : 0 < size)
    {B c : Nat} (hx : a.eval x = .slice (some ⟨B, 0, none⟩) 1 c) {te : TypeId} (hB : w.heap[B]? = some (.cells cs.toArray te (0, 0))) (hc : cs.length = size) (hy : R w G cs y) (h1 : ∀ u ∈ cs, u.oneCell' = true)
    (hG : ∀ k, G k → k < w.heap.size ∧ some k ≠ v.ownBlock) (h63 : l.length + 1 ≤ maxLen) (hbytes : (l.length + 1) * bytes ≤ 140737488355328) (hbase : base ≤ w.heap.size)
    (h : ∀ A c w', Owns R size e base w' (fun k => F k ∨ G k) (.slice A (l.length + 1) c) (l ++ [y]) → Grew base w w' v.ownBlock →
      ((Value.slice A (l.length + 1) c).ownBlock = v.ownBlock ∨ ∃ g, (Value.slice A (l.length + 1) c).ownBlock = some g ∧ w.heap.size ≤ g) → K (a.put o.dst (.slice A (l.length + 1) c)) w') :
    if Region.wanted o (yielded ops a.tmps) = true then Oper.wp P o a w K Q else E := by
  obtain ⟨i, hi0, hz, hsize, hby⟩ := info_parts hi
  obtain ⟨xs, hr, hrows, hf⟩ := hown
  refine step_append_lies w hgd s x t ho base e i z size bytes ht hi0 hz hsize hby hzs hsz v l.length xs hs hr ⟨B, 0, none⟩ 1 c cs hx (by rw [hc, Nat.one_mul]) (fun j u hj => World.news_of_block hB j u (by simpa using hj)) h1 (by omega) h63 hbytes (by omega) w.heap.size rfl ?_
  intro g cap w' hown' hgrow hat hlt
  have hlo : ∀ k, v.ownBlock = some k → base ≤ k ∧ k < w.heap.size := fun k hk => hr.lt k hk
  have hloc : (Value.slice (some ⟨g, 0, none⟩) (l.length + 1) cap).ownBlock = v.ownBlock ∨ ∃ g', (Value.slice (some ⟨g, 0, none⟩) (l.length + 1) cap).ownBlock = some g' ∧ w.heap.size ≤ g' := hat.imp (fun h => h.symm) fun h => ⟨g, rfl, by omega⟩
  exact h _ _ w' (Owns.pushed hR ⟨xs, hr, hrows, hf⟩ hgrow.block hgrow.size ⟨xs, hr, hrows, hown'⟩ hc hy hG hloc) ⟨hgrow.os, hgrow.tape, hgrow.output, hgrow.size, hgrow.block, fun k hk => (hlo k hk).1⟩ hloc

theorem after_alloc {W w7 : World} {cs : Array Value} {t : TypeId} (hb : Below (W.alloc (.cells cs t)).heap.size (W.alloc (.cells cs t)) w7) : Box w7 W.heap.size t cs := (Box.made W t cs).later hb (Box.made W t cs).lt
theorem after_allocD {W w7 : World} {cs : Array Value} {t : TypeId} (hb : Below (W.alloc (.cells cs t)).drew.heap.size (W.alloc (.cells cs t)).drew w7) : Box w7 W.heap.size t cs := (Box.made W t cs).drew.later hb (Box.made W t cs).lt
theorem below_stepD {w b : World} {o : Obj} (k : Below (w.alloc o).drew.heap.size (w.alloc o).drew b) : Below w.heap.size w b := (show Below w.heap.size w (w.alloc o).drew by go_grown).trans (k.mono (by simp))
theorem below_step {w a b : World} (h : Below w.heap.size w a) (k : Below a.heap.size a b) : Below w.heap.size w b := h.trans (k.mono h.size)
theorem below_stepA {w a b : World} {o : Obj} (h : Below w.heap.size w a) (k : Below (a.alloc o).heap.size (a.alloc o) b) : Below w.heap.size w b := (h.alloc h.size o).trans (k.mono (h.alloc h.size o).size)

end Go.Proofs.Ytejiaimcgmpliaa
