/- Lists of numbers that a function builds; 'append' of several elements at once. -/
import Derived.Test.YtamkgphamffdcaaOwns
import Derived.Test.YtamkgphamffdcaaRows
import Derived.Deep.QuietTactic
import Derived.BigQuiet
import Derived.WalkSmall
import Derived.Deep.DeepCutAuto
import Derived.Deep.Light
import Derived.Deep.CutBlock
namespace Go.Proofs.Ytamkgphamffdcaa
open Go.RowKit Go.Shelf

def IntC : CR Int := fun _ _ cs x => cs = [.int .i64 x]
theorem IntC.stays : Stays IntC := fun _ _ _ _ _ _ h _ _ => h
/-- Numbers as cells. -/
def ints (l : List Int) : List Value := l.map (.int .i64)
theorem ints_len (l : List Int) : (ints l).length = l.length := by simp [ints]
theorem ints_rows (w : World) (F : Foot) (l : List Int) : RowsR IntC 1 w F (ints l) l := by
  refine ⟨by simp [ints], fun i x hi => ⟨[.int .i64 x], rfl, rfl, fun j u hj => ?_⟩⟩
  cases j with
  | zero => simp at hj; subst hj; simp [ints, hi]
  | succ j => simp at hj
theorem ints_one (l : List Int) : ∀ u ∈ ints l, u.oneCell' = true := by
  intro u hu
  simp only [ints, List.mem_map] at hu
  obtain ⟨_, _, rfl⟩ := hu
  rfl
theorem ints_app (l m : List Int) : ints (l ++ m) = ints l ++ ints m := by simp [ints]
/-- A row that was just built. -/
theorem ints_built {w : World} {n : Nat} {e : TypeId} {l : List Int} {base : Nat} (h : Box w n e (ints l).toArray) (hb : base ≤ n) (hl : l.length ≤ maxLen) :
    w.ownsRow base e 1 (.slice (some ⟨n, 0, none⟩) l.length l.length) l.length (ints l) := by
  refine ⟨by simp [ints], .inr ⟨n, l.length, (ints l).toArray, rfl, hb, h, Nat.le_refl _, hl, by simp [ints], ?_⟩⟩
  simp [ints, List.take_of_length_le]

section
variable {bytes base : Nat} {e : TypeId} {w : World} {v : Value} {l m : List Int} {P : Program}
/-- 'append(s, m...)' to a list of the function's own. -/
theorem wpList_ints {ops : Array Oper} {rest : List Oper} {o : Oper} {a : Act} {Q : Exit → Act → World → Prop} {s x : Operand} {t : TypeId} (nm : Nat) (hnm : l.length + m.length = nm) (hgd : o.guard = none)
    (ho : o.op = .call { callee := .builtin .append, args := #[s, x], argTypes := #[t, t] })
    (ht : P.underlying t = some (.slice e)) (hi : (P.info? e).map (fun i => (i.zero, i.size, i.bytes)) = some (some (.int .i64 0), 1, bytes))
    (hown : w.ownsRow base e 1 v l.length (ints l)) (hs : a.eval s = v) {c : Nat} (hx : a.eval x = .slice (some ⟨w.heap.size, 0, none⟩) m.length c) (hm : 0 < m.length)
    (h63 : l.length + m.length ≤ maxLen) (hbytes : (l.length + m.length) * bytes ≤ 140737488355328) (hbase : base ≤ w.heap.size)
    (h : ∀ A c w', w'.ownsRow base e 1 (.slice A nm c) nm (ints (l ++ m)) → Grew base w w' v.ownBlock →
      ((Value.slice A nm c).ownBlock = v.ownBlock ∨ ∃ g, (Value.slice A nm c).ownBlock = some g ∧ w.heap.size ≤ g) → wpList P ops Q rest (a.put o.dst (.slice A nm c)) w') :
    wpList P ops Q (o :: rest) a (w.alloc (.cells (ints m).toArray e)) := by
  subst hnm
  obtain ⟨i, hi0, hz, hsize, hby⟩ := info_parts hi
  have hn0 : (w.alloc (.cells (ints m).toArray e)).heap[w.heap.size]? = some (.cells (ints m).toArray e (0, 0)) := heap_alloc_new w _
  have hr1 : (w.alloc (.cells (ints m).toArray e)).ownsRow base e 1 v l.length (ints l) := hown.alloc _
  have hws : (w.alloc (.cells (ints m).toArray e)).heap.size = w.heap.size + 1 := by simp
  refine wpList_append_own_at _ hgd s x t ho base e i (.int .i64 0) 1 bytes ht hi0 hz hsize hby rfl (by decide) v l.length (ints l) hs hr1 ⟨w.heap.size, 0, none⟩ m.length c (ints m) hx (by rw [ints_len, Nat.mul_one]) (fun j u hj => ?_) (ints_one m) h63 hbytes (by omega) ?_
  · rw [Addr.add_lit, Nat.zero_add]
    simp only [World.cell?, hn0]
    simpa using hj
  · intro v' w' hown' hgrow _ hloc
    obtain ⟨A, cc, rfl⟩ : ∃ A cc, v' = .slice A (l.length + m.length) cc := by
      rcases hown'.2 with ⟨rfl, h0⟩ | ⟨g, cap, cur, rfl, _⟩
      · omega
      · exact ⟨_, _, rfl⟩
    have hlt : ∀ k, v.ownBlock = some k → base ≤ k ∧ k < w.heap.size := fun k hk => hown.lt k hk
    have hkeep : ∀ k, k < w.heap.size → some k ≠ v.ownBlock → w'.heap[k]? = w.heap[k]? := fun k hk hne => by
      rw [hgrow.block k (by omega) hne, Below.heap_alloc _ _ _ hk]
    have hloc' : (Value.slice A (l.length + m.length) cc).ownBlock = v.ownBlock ∨ ∃ g, (Value.slice A (l.length + m.length) cc).ownBlock = some g ∧ w.heap.size ≤ g := hloc.imp id fun hg => ⟨_, hg, by omega⟩
    have hsz' : w.heap.size ≤ w'.heap.size := Nat.le_trans (by omega) hgrow.size
    refine h A cc w' ?_ ⟨hgrow.os, hgrow.tape, hgrow.output, hsz', hkeep, fun k hk => (hlt k hk).1⟩ hloc'
    rw [ints_app]; exact hown'
end

/-- Rows of the function's own are kept where their blocks are. -/
theorem ints_kept {w w' : World} {base n : Nat} {e : TypeId} {v : Value} {xs : List Value} {row : Option Nat} {B : Nat} (h : w.ownsRow base e 1 v n xs) (hg : Grew B w w' row) (hne : ∀ k, v.ownBlock = some k → some k ≠ row) : w'.ownsRow base e 1 v n xs :=
  owns_heap' h fun g hgk => hg.block g (h.lt g hgk).2 (hne g hgk)

end Go.Proofs.Ytamkgphamffdcaa
