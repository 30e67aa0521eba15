/- Lists that a function builds: a row of its own, and what its elements lead to; a law for 'append' of one element. No program is named here. -/
import Derived.Test.YtejiaimcgmpliaaBox
import Derived.OwnWalk
import Derived.Deep.DeepMust
namespace Go.Proofs.Ytejiaimcgmpliaa
open Go.RowKit Go.Shelf

/-- A list that the function builds: a row of its own from block 'base' on; what its elements lead to lies in F, apart from the row. -/
def Owns {α : Type} (R : CR α) (sz : Nat) (e : TypeId) (base : Nat) (w : World) (F : Foot) (v : Value) (l : List α) : Prop :=
  ∃ xs, w.ownsRow base e sz v l.length xs ∧ RowsR R sz w F xs l ∧ ∀ k, F k → k < w.heap.size ∧ some k ≠ v.ownBlock

/-- Nothing. -/
def none_ : Foot := fun _ => False

section
variable {α : Type} {R : CR α} {sz by_ base : Nat} {e : TypeId} {F F' G : Foot} {w w' : World} {v : Value} {l : List α}

theorem owns_heap' {xs : List Value} {n : Nat} (h : w.ownsRow base e sz v n xs) (hh : ∀ g, v.ownBlock = some g → w'.heap[g]? = w.heap[g]?) : w'.ownsRow base e sz v n xs := by
  obtain ⟨h1, h2⟩ := h
  refine ⟨h1, ?_⟩
  rcases h2 with h2 | ⟨g, cap, cur, rfl, hg, hc, h3⟩
  · exact .inl h2
  · exact .inr ⟨g, cap, cur, rfl, hg, (hh g rfl).trans hc, h3⟩
theorem keeps_of_heap (h : ∀ k, F k → w'.heap[k]? = w.heap[k]?) : Keeps F w w' := fun _ hp => World.cell?_of_block (h _ hp)

theorem Owns.nil_ : Owns R sz e base w none_ (.slice none 0 0) ([] : List α) := ⟨[], World.ownsRow_nil _ _ _ _, RowsR.nil_, fun _ h => h.elim⟩
theorem Owns.row (h : Owns R sz e base w F v l) {g : Nat} (hg : v.ownBlock = some g) : base ≤ g ∧ g < w.heap.size := by
  obtain ⟨xs, h1, _⟩ := h
  exact h1.lt g hg
theorem Owns.foot (h : Owns R sz e base w F v l) {k : Nat} (hk : F k) : k < w.heap.size ∧ some k ≠ v.ownBlock := by
  obtain ⟨xs, _, _, h3⟩ := h
  exact h3 k hk
theorem Owns.form (h : Owns R sz e base w F v l) : ∃ A c, v = .slice A l.length c ∧ l.length ≤ c ∧ c ≤ maxLen := by
  obtain ⟨xs, h1, _⟩ := h
  rcases h1.2 with ⟨rfl, h0⟩ | ⟨g, cap, cur, rfl, _, _, h3, h4, _⟩
  · exact ⟨none, 0, by rw [h0], by omega, Nat.zero_le _⟩
  · exact ⟨_, cap, rfl, h3, h4⟩
theorem Owns.low (h : Owns R sz e base w F v l) {b : Nat} (hb : b ≤ base) : Owns R sz e b w F v l := by
  obtain ⟨xs, h1, h2, h3⟩ := h
  refine ⟨xs, ⟨h1.1, ?_⟩, h2, h3⟩
  rcases h1.2 with h4 | ⟨g, cap, cur, rfl, hg, h5⟩
  · exact .inl h4
  · exact .inr ⟨g, cap, cur, rfl, by omega, h5⟩
/-- Kept where its row and what its elements lead to read as they did. -/
theorem Owns.kept (hR : Stays R) (h : Owns R sz e base w F v l) (hs : w.heap.size ≤ w'.heap.size) (hh : ∀ k, k < w.heap.size → (F k ∨ v.ownBlock = some k) → w'.heap[k]? = w.heap[k]?) : Owns R sz e base w' F v l := by
  obtain ⟨xs, h1, h2, h3⟩ := h
  exact ⟨xs, owns_heap' h1 fun g hg => hh g (h1.lt g hg).2 (.inr hg), h2.stays hR (fun _ h => h) (keeps_of_heap fun k hk => hh k (h3 k hk).1 (.inl hk)), fun k hk => ⟨Nat.lt_of_lt_of_le (h3 k hk).1 hs, (h3 k hk).2⟩⟩
theorem Owns.below (hR : Stays R) (h : Owns R sz e base w F v l) (hb : Below w.heap.size w w') : Owns R sz e base w' F v l :=
  h.kept hR hb.size fun k hk _ => hb.block k hk
theorem Owns.alloc (hR : Stays R) (h : Owns R sz e base w F v l) (o : Obj) : Owns R sz e base (w.alloc o) F v l :=
  h.below hR ((Below.refl _ _).alloc (Nat.le_refl _) _)
theorem Owns.wider (hR : Stays R) (h : Owns R sz e base w F v l) (hF : ∀ k, F k → F' k) (hF' : ∀ k, F' k → k < w.heap.size ∧ some k ≠ v.ownBlock) : Owns R sz e base w F' v l := by
  obtain ⟨xs, h1, h2, h3⟩ := h
  exact ⟨xs, h1, h2.stays hR hF (Keeps.refl _ _), hF'⟩
theorem Owns.set (hR : Stays R) (h : Owns R sz e base w F v l) {p : Addr} (hp : p.block < base) (hF : ∀ k, F k → k ≠ p.block) (u : Value) : Owns R sz e base (w.setCell p u) F v l :=
  h.kept hR (by simp [World.setCell]) fun k _ hk => Below.heap_setCell _ _ _ _ (hk.elim (hF k) fun hk => by have := (h.row hk).1; omega)
/-- It stands for the list. -/
theorem Owns.slice (hR : Stays R) (h : Owns R sz e base w F v l) (hF : ∀ k, F k → F' k) (hF' : ∀ k, base ≤ k → k < w.heap.size → F' k) (hb : l.length * by_ ≤ 140737488355328) (hl : l.length ≤ 140737488355328) : SliceOf R sz by_ w F' v l := by
  obtain ⟨xs, h1, h2, h3⟩ := h
  exact sliceOf_own h1 rfl (h2.stays hR hF (Keeps.refl _ _)) (fun g hg => hF' g (h1.lt g hg).1 (h1.lt g hg).2) hb hl

/-- One element is appended. -/
theorem Owns.pushed (hR : Stays R) {w0 : World} {v' : Value} {cs : List Value} {y : α} (h : Owns R sz e base w0 F v l) (hw : ∀ k, k < w0.heap.size → some k ≠ v.ownBlock → w'.heap[k]? = w0.heap[k]?) (hs : w0.heap.size ≤ w'.heap.size)
    (hrow : ∃ xs, w0.ownsRow base e sz v l.length xs ∧ RowsR R sz w0 F xs l ∧ w'.ownsRow base e sz v' (l.length + 1) (xs ++ cs)) (hc : cs.length = sz) (hy : R w0 G cs y) (hG : ∀ k, G k → k < w0.heap.size ∧ some k ≠ v.ownBlock)
    (hv : v'.ownBlock = v.ownBlock ∨ ∃ g, v'.ownBlock = some g ∧ w0.heap.size ≤ g) : Owns R sz e base w' (fun k => F k ∨ G k) v' (l ++ [y]) := by
  obtain ⟨xs, h1, h2, h3⟩ := hrow
  have hne : ∀ k, F k ∨ G k → k < w0.heap.size ∧ some k ≠ v.ownBlock := fun k hk => hk.elim h.foot (hG k)
  refine ⟨xs ++ cs, by rw [List.length_append]; exact h3, RowsR.append (h2.stays hR (fun _ h => .inl h) (keeps_of_heap fun k hk => ?_)) (RowsR.one hc (hR _ _ _ _ _ _ hy (fun _ h => .inr h) (keeps_of_heap fun k hk => ?_))), fun k hk => ?_⟩
  · exact hw k (h.foot hk).1 (h.foot hk).2
  · exact hw k (hG k hk).1 (hG k hk).2
  · refine ⟨Nat.lt_of_lt_of_le (hne k hk).1 hs, ?_⟩
    rcases hv with hv | ⟨g, hv, hg⟩
    · rw [hv]; exact (hne k hk).2
    · rw [hv]
      intro e
      injection e with e
      have := (hne k hk).1
      omega
end

section
variable {α : Type} {R : CR α} {F F' : Foot} {w w' : World} {cs : List Value} {x : α}
theorem Stays.set (hR : Stays R) (h : R w F cs x) {p : Addr} (hp : ¬ F p.block) (u : Value) : R (w.setCell p u) F cs x := hR _ _ _ _ _ _ h (fun _ h => h) ((Keeps.refl _ _).setCell hp u)
theorem Stays.wider (hR : Stays R) (h : R w F cs x) (hF : ∀ k, F k → F' k) : R w F' cs x := hR _ _ _ _ _ _ h hF (Keeps.refl _ _)
theorem Stays.later (hR : Stays R) (h : R w F cs x) {B : Nat} (hb : Below B w w') (hF : ∀ k, F k → k < B) : R w' F cs x := hR _ _ _ _ _ _ h (fun _ h => h) (Keeps.of_below hb hF)
theorem Stays.alloc (hR : Stays R) (h : R w F cs x) (hF : ∀ k, F k → k < w.heap.size) (o : Obj) : R (w.alloc o) F cs x := hR _ _ _ _ _ _ h (fun _ h => h) ((Keeps.refl _ _).alloc hF o)
end
theorem fresh_no {n m k : Nat} (h : k < n) : ¬ fresh n m k := fun e => by have := e.1; omega
theorem fresh_up {n n' m m' : Nat} (h : n' ≤ n) (h' : m ≤ m') : ∀ k, fresh n m k → fresh n' m' k := fun k hk => ⟨by have := hk.1; omega, by have := hk.2; omega⟩
theorem fresh_lt {n m : Nat} : ∀ k, fresh n m k → k < m := fun _ hk => hk.2
theorem size_set (w : World) (p : Addr) (u : Value) : (w.setCell p u).heap.size = w.heap.size := by simp [World.setCell]

/-- What a function has done to the memory: from 'base' on it may have written to block 'row' and has made new blocks. -/
structure Grew (base : Nat) (w w' : World) (row : Option Nat) : Prop where
  os : w'.os = w.os
  tape : w'.tape = w.tape
  output : w'.output = w.output
  size : w.heap.size ≤ w'.heap.size
  block : ∀ k, k < w.heap.size → some k ≠ row → w'.heap[k]? = w.heap[k]?
  low : ∀ k, row = some k → base ≤ k

theorem Grew.below {base B : Nat} {w w' : World} {row : Option Nat} (h : Grew base w w' row) (hB : B ≤ base) (hs : B ≤ w.heap.size) : Below B w w' :=
  ⟨h.os, h.tape, h.output, h.size, fun k hk => h.block k (by omega) (fun e => by have := h.low k e.symm; omega)⟩

theorem Grew.box {base n : Nat} {w w' : World} {row : Option Nat} {t : TypeId} {cs : Array Value} (h : Grew base w w' row) (hB : Box w n t cs) (hn : n < base) : Box w' n t cs :=
  hB.of_heap (h.block n hB.lt (fun e => by have := h.low n e.symm; omega))

section
variable {α : Type} {R : CR α} {size bytes base : Nat} {e : TypeId} {F G : Foot} {w : World} {v : Value} {l : List α} {P : Program}

/-- 'append(s, y)' to a list of the function's own. -/
theorem wpList_push (hR : Stays R) (z : Value) (cs : List Value) (y : α) {ops : Array Oper} {rest : List Oper} {o : Oper} {a : Act} {Q : Exit → Act → World → Prop} {s x : Operand} {t : TypeId} (hgd : o.guard = none)
    (ho : o.op = .call { callee := .builtin .append, args := #[s, x], argTypes := #[t, t] })
    (ht : P.underlying t = some (.slice e)) (hi : (P.info? e).map (fun i => (i.zero, i.size, i.bytes)) = some (some z, size, bytes))
    (hown : Owns R size e base w F v l) (hs : a.eval s = v) (hzs : z.cells.size = size) (hsz : 0 < size)
    {c : Nat} (hx : a.eval x = .slice (some ⟨w.heap.size, 0, none⟩) 1 c) (hc : cs.length = size) (hy : R w G cs y) (h1 : ∀ u ∈ cs, u.oneCell' = true)
    (hG : ∀ k, G k → k < w.heap.size ∧ some k ≠ v.ownBlock) (h63 : l.length + 1 ≤ maxLen) (hbytes : (l.length + 1) * bytes ≤ 140737488355328) (hbase : base ≤ w.heap.size)
    (h : ∀ A c w', Owns R size e base w' (fun k => F k ∨ G k) (.slice A (l.length + 1) c) (l ++ [y]) → Grew base w w' v.ownBlock →
      ((Value.slice A (l.length + 1) c).ownBlock = v.ownBlock ∨ ∃ g, (Value.slice A (l.length + 1) c).ownBlock = some g ∧ w.heap.size ≤ g) → wpList P ops Q rest (a.put o.dst (.slice A (l.length + 1) c)) w') :
    wpList P ops Q (o :: rest) a (w.alloc (.cells cs.toArray e)) := by
  obtain ⟨i, hi0, hz, hsize, hby⟩ := info_parts hi
  have hown1 := hown.alloc hR (.cells cs.toArray e)
  obtain ⟨xs, hr, hrows, hf⟩ := hown
  have hws : (w.alloc (.cells cs.toArray e)).heap.size = w.heap.size + 1 := by simp
  have hn0 : (w.alloc (.cells cs.toArray e)).heap[w.heap.size]? = some (.cells cs.toArray e (0, 0)) := heap_alloc_new w _
  have hr1 : (w.alloc (.cells cs.toArray e)).ownsRow base e size v l.length xs := hr.alloc _
  refine wpList_append_own_at _ hgd s x t ho base e i z size bytes ht hi0 hz hsize hby hzs hsz v l.length xs hs hr1 ⟨w.heap.size, 0, none⟩ 1 c cs hx (by rw [hc, Nat.one_mul]) (fun j u hj => ?_) h1 h63 hbytes (by omega) ?_
  · rw [Addr.add_lit, Nat.zero_add]
    simp only [World.cell?, hn0]
    simpa using hj
  · intro v' w' hown' hgrow _ hloc
    obtain ⟨A, cc, rfl⟩ : ∃ A cc, v' = .slice A (l.length + 1) cc := by
      rcases hown'.2 with ⟨rfl, h0⟩ | ⟨g, cap, cur, rfl, _⟩
      · omega
      · exact ⟨_, _, rfl⟩
    have hlt : ∀ k, v.ownBlock = some k → base ≤ k ∧ k < w.heap.size := fun k hk => hr.lt k hk
    have hkeep : ∀ k, k < w.heap.size → some k ≠ v.ownBlock → w'.heap[k]? = w.heap[k]? := fun k hk hne => by
      rw [hgrow.block k (by omega) hne, Below.heap_alloc _ _ _ hk]
    have hloc' : (Value.slice A (l.length + 1) cc).ownBlock = v.ownBlock ∨ ∃ g, (Value.slice A (l.length + 1) cc).ownBlock = some g ∧ w.heap.size ≤ g := hloc.imp id fun hg => ⟨_, hg, by omega⟩
    have hsz' : w.heap.size ≤ w'.heap.size := Nat.le_trans (by omega) hgrow.size
    refine h A cc w' ?_ ⟨hgrow.os, hgrow.tape, hgrow.output, hsz', hkeep, fun k hk => (hlt k hk).1⟩ hloc'
    exact Owns.pushed hR ⟨xs, hr, hrows, hf⟩ hkeep hsz' ⟨xs, hr, hrows, hown'⟩ hc hy hG hloc'
end

end Go.Proofs.Ytejiaimcgmpliaa
