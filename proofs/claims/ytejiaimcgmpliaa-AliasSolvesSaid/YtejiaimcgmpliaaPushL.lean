/- 'append(s, l...)' to a list of the function's own. -/
import Derived.Test.YtejiaimcgmpliaaPush
namespace Go.Proofs.Ytejiaimcgmpliaa
open Go.RowKit

section
variable {α : Type} {R : CR α} {size bytes base : Nat} {e : TypeId} {F G : Foot} {w w' : World} {v v' : Value} {l m : List α} {P : Program}

theorem Owns.joined (hR : Stays R) {ys : List Value} (h : Owns R size e base w F v l) (hw : ∀ k, k < w.heap.size → some k ≠ v.ownBlock → w'.heap[k]? = w.heap[k]?) (hs : w.heap.size ≤ w'.heap.size)
    (hrow : ∃ xs, w.ownsRow base e size v l.length xs ∧ RowsR R size w F xs l ∧ w'.ownsRow base e size v' (l.length + m.length) (xs ++ ys)) (hy : RowsR R size w G ys m) (hG : ∀ k, G k → k < w.heap.size ∧ some k ≠ v.ownBlock)
    (hv : v'.ownBlock = v.ownBlock ∨ ∃ g, v'.ownBlock = some g ∧ w.heap.size ≤ g) : Owns R size e base w' (fun k => F k ∨ G k) v' (l ++ m) := by
  obtain ⟨xs, h1, h2, h3⟩ := hrow
  have hne : ∀ k, F k ∨ G k → k < w.heap.size ∧ some k ≠ v.ownBlock := fun k hk => hk.elim h.foot (hG k)
  refine ⟨xs ++ ys, by rw [List.length_append]; exact h3, RowsR.append (h2.stays hR (fun _ h => .inl h) (keeps_of_heap fun k hk => ?_)) (hy.stays hR (fun _ h => .inr h) (keeps_of_heap fun k hk => ?_)), fun k hk => ?_⟩
  · exact hw k (h.foot hk).1 (h.foot hk).2
  · exact hw k (hG k hk).1 (hG k hk).2
  · refine ⟨Nat.lt_of_lt_of_le (hne k hk).1 hs, ?_⟩
    rcases hv with hv | ⟨g, hv, hg⟩
    · rw [hv]; exact (hne k hk).2
    · rw [hv]
      intro e
      injection e with e
      have := (hne k hk).1
      omega

/-- What 'append(s, l...)' does. -/
theorem run_push_list (hR : Stays R) (hone : ∀ cs x, R w G cs x → ∀ u ∈ cs, u.oneCell' = true) (z : Value) {by_ : Nat} (t ty : TypeId) (ht : P.underlying t = some (.slice e)) (hi : (P.info? e).map (fun i => (i.zero, i.size, i.bytes)) = some (some z, size, bytes))
    (hown : Owns R size e base w F v l) (hzs : z.cells.size = size) (hsz : 0 < size) {S : Option Addr} {c : Nat} (hsrc : SliceOf R size by_ w G (.slice S m.length c) m)
    (hG : ∀ k, G k → k < w.heap.size ∧ some k ≠ v.ownBlock) (h63 : l.length + m.length ≤ maxLen) (hbytes : (l.length + m.length) * bytes ≤ 140737488355328) (hbase : base ≤ w.heap.size) :
    ∃ v' w', (Builtin.append_ #[t, t] ty #[v, .slice S m.length c]).run P w = .ok v' w' ∧ Owns R size e base w' (fun k => F k ∨ G k) v' (l ++ m) ∧ Grew base w w' v.ownBlock ∧
      (v'.ownBlock = v.ownBlock ∨ ∃ g, v'.ownBlock = some g ∧ w.heap.size ≤ g) := by
  obtain ⟨i, hi0, hz, hsize, hby⟩ := info_parts hi
  obtain ⟨xs, hr, hrows, hf⟩ := hown
  cases S with
  | none =>
    have hm0 : m = [] := by
      cases m with
      | nil => rfl
      | cons x xs => obtain ⟨_, _, _, e, _⟩ := hsrc.at_ (k := 0) (by simp); cases e
    subst hm0
    refine ⟨v, w, ?_, ?_, ⟨rfl, rfl, rfl, Nat.le_refl _, fun _ _ _ => rfl, fun k hk => (hr.lt k hk).1⟩, .inl rfl⟩
    · rcases hr.2 with ⟨rfl, h0⟩ | ⟨g, cap, cur, rfl, _, _, hnc, _⟩
      · simp [Builtin.append_, run_underlying ht, sizeOf, typeInfo, hi0, Builtin.lenOf, Builtin.firstCells]
      · simp [Builtin.append_, run_underlying ht, sizeOf, typeInfo, hi0, Builtin.lenOf, Builtin.firstCells, hnc, storeCells]
    · rw [List.append_nil]
      exact ⟨xs, hr, hrows.stays hR (fun _ h => .inl h) (Keeps.refl _ _), fun k hk => hk.elim (hf k) (hG k)⟩
  | some ad =>
    obtain ⟨ys, hys, hcells, hyone⟩ := hsrc.rows hone
    obtain ⟨v', w', hrun, h2, h3, _, h5⟩ := run_append_own_at (P := P) w base t ty e i z size bytes ht hi0 hz hsize hby hzs hsz v l.length xs hr ad m.length c ys hys.1 hcells hyone h63 hbytes hbase
    have hloc : v'.ownBlock = v.ownBlock ∨ ∃ g, v'.ownBlock = some g ∧ w.heap.size ≤ g := h5.imp id fun hg => ⟨_, hg, Nat.le_refl _⟩
    exact ⟨v', w', hrun, Owns.joined hR ⟨xs, hr, hrows, hf⟩ h3.block h3.size ⟨xs, hr, hrows, h2⟩ hys hG hloc, ⟨h3.os, h3.tape, h3.output, h3.size, h3.block, fun k hk => (hr.lt k hk).1⟩, hloc⟩

/-- At the operation. -/
theorem wp_push_list (hR : Stays R) (hone : ∀ cs x, R w G cs x → ∀ u ∈ cs, u.oneCell' = true) (z : Value) {by_ : Nat} {o : Oper} {a : Act} {K : Act → World → Prop} {Q : Exit → Act → World → Prop} (s x : Operand) (t : TypeId)
    (ho : o.op = .call { callee := .builtin .append, args := #[s, x], argTypes := #[t, t] }) (ht : P.underlying t = some (.slice e)) (hi : (P.info? e).map (fun i => (i.zero, i.size, i.bytes)) = some (some z, size, bytes))
    (hown : Owns R size e base w F v l) (hs : a.eval s = v) (hzs : z.cells.size = size) (hsz : 0 < size) {S : Option Addr} {c : Nat} (hx : a.eval x = .slice S m.length c) (hsrc : SliceOf R size by_ w G (.slice S m.length c) m)
    (hG : ∀ k, G k → k < w.heap.size ∧ some k ≠ v.ownBlock) (h63 : l.length + m.length ≤ maxLen) (hbytes : (l.length + m.length) * bytes ≤ 140737488355328) (hbase : base ≤ w.heap.size)
    (h : ∀ A c w', Owns R size e base w' (fun k => F k ∨ G k) (.slice A (l.length + m.length) c) (l ++ m) → Grew base w w' v.ownBlock →
      ((Value.slice A (l.length + m.length) c).ownBlock = v.ownBlock ∨ ∃ g, (Value.slice A (l.length + m.length) c).ownBlock = some g ∧ w.heap.size ≤ g) → K (a.put o.dst (.slice A (l.length + m.length) c)) w') : o.wp P a w K Q := by
  obtain ⟨v', w', hrun, ho', hg, hloc⟩ := run_push_list (P := P) (bytes := bytes) hR hone z t o.type ht hi hown hzs hsz hsrc hG h63 hbytes hbase
  obtain ⟨A, c', rfl, _, _⟩ := ho'.form
  rw [List.length_append] at hrun ho' hloc
  unfold Oper.wp execOp
  simp only [ho, resolve, invoke, builtin, Sem.run_bind, Sem.run_pure, Result.andThen_ok, List.map_toArray, List.map_cons, List.map_nil, hs, hx, hrun]
  exact h A c' w' ho' hg hloc

/-- In a plain region. -/
theorem wpList_push_list (hR : Stays R) (hone : ∀ cs x, R w G cs x → ∀ u ∈ cs, u.oneCell' = true) (z : Value) {by_ : Nat} {ops : Array Oper} {rest : List Oper} {o : Oper} {a : Act} {Q : Exit → Act → World → Prop} (s x : Operand) (t : TypeId) (hgd : o.guard = none)
    (ho : o.op = .call { callee := .builtin .append, args := #[s, x], argTypes := #[t, t] }) (ht : P.underlying t = some (.slice e)) (hi : (P.info? e).map (fun i => (i.zero, i.size, i.bytes)) = some (some z, size, bytes))
    (hown : Owns R size e base w F v l) (hs : a.eval s = v) (hzs : z.cells.size = size) (hsz : 0 < size) {S : Option Addr} {c : Nat} (hx : a.eval x = .slice S m.length c) (hsrc : SliceOf R size by_ w G (.slice S m.length c) m)
    (hG : ∀ k, G k → k < w.heap.size ∧ some k ≠ v.ownBlock) (h63 : l.length + m.length ≤ maxLen) (hbytes : (l.length + m.length) * bytes ≤ 140737488355328) (hbase : base ≤ w.heap.size)
    (h : ∀ A c w', Owns R size e base w' (fun k => F k ∨ G k) (.slice A (l.length + m.length) c) (l ++ m) → Grew base w w' v.ownBlock →
      ((Value.slice A (l.length + m.length) c).ownBlock = v.ownBlock ∨ ∃ g, (Value.slice A (l.length + m.length) c).ownBlock = some g ∧ w.heap.size ≤ g) → wpList P ops Q rest (a.put o.dst (.slice A (l.length + m.length) c)) w') : wpList P ops Q (o :: rest) a w :=
  wpList_plain hgd fun _ hK => wp_push_list hR hone z s x t ho ht hi hown hs hzs hsz hx hsrc hG h63 hbytes hbase fun A c w' h1 h2 h3 => hK _ _ (h A c w' h1 h2 h3)

/-- At a step of a region that draws its order. -/
theorem step_push_list (hR : Stays R) (hone : ∀ cs x, R w G cs x → ∀ u ∈ cs, u.oneCell' = true) (z : Value) {by_ : Nat} {ops : Array Oper} {o : Oper} {a : Act} {K : Act → World → Prop} {Q : Exit → Act → World → Prop} {E : Prop} (s x : Operand) (t : TypeId) (hgd : o.guard = none)
    (ho : o.op = .call { callee := .builtin .append, args := #[s, x], argTypes := #[t, t] }) (ht : P.underlying t = some (.slice e)) (hi : (P.info? e).map (fun i => (i.zero, i.size, i.bytes)) = some (some z, size, bytes))
    (hown : Owns R size e base w F v l) (hs : a.eval s = v) (hzs : z.cells.size = size) (hsz : 0 < size) {S : Option Addr} {c : Nat} (hx : a.eval x = .slice S m.length c) (hsrc : SliceOf R size by_ w G (.slice S m.length c) m)
    (hG : ∀ k, G k → k < w.heap.size ∧ some k ≠ v.ownBlock) (h63 : l.length + m.length ≤ maxLen) (hbytes : (l.length + m.length) * bytes ≤ 140737488355328) (hbase : base ≤ w.heap.size)
    (h : ∀ A c w', Owns R size e base w' (fun k => F k ∨ G k) (.slice A (l.length + m.length) c) (l ++ m) → Grew base w w' v.ownBlock →
      ((Value.slice A (l.length + m.length) c).ownBlock = v.ownBlock ∨ ∃ g, (Value.slice A (l.length + m.length) c).ownBlock = some g ∧ w.heap.size ≤ g) → K (a.put o.dst (.slice A (l.length + m.length) c)) w') :
    if Region.wanted o (yielded ops a.tmps) = true then Oper.wp P o a w K Q else E := by
  have hw : Region.wanted o (yielded ops a.tmps) = true := by simp [Region.wanted, hgd]
  rw [if_pos hw]
  exact wp_push_list hR hone z s x t ho ht hi hown hs hzs hsz hx hsrc hG h63 hbytes hbase h
end

end Go.Proofs.Ytejiaimcgmpliaa
