/- A module that is being built, line by line: three rows that grow. -/
import Derived.Test.YtjaladhdnbhliaaGreatDoorTwo
import Derived.Test.YtjaladhdnbhliaaGreatDoorGrew
import Derived.Test.YtjaladhdnbhliaaGreatDoorRows
import Derived.Test.YtjaladhdnbhliaaGreatDoorTokCutG
namespace Go.Proofs.YtjaladhdnbhliaaGreatDoor
open Go.RowKit Go.Shelf

/-- Nothing below B has changed, but block bm. -/
structure Stay (bm B : Nat) (w w' : World) : Prop where
  os : w'.os = w.os
  tape : w'.tape = w.tape
  output : w'.output = w.output
  size : w.heap.size ≤ w'.heap.size
  block : ∀ k, k < B → k ≠ bm → w'.heap[k]? = w.heap[k]?
section
variable {bm B : Nat} {w w' w2 : World}
theorem Stay.refl (bm B : Nat) (w : World) : Stay bm B w w := ⟨rfl, rfl, rfl, Nat.le_refl _, fun _ _ _ => rfl⟩
theorem Stay.trans (h : Stay bm B w w') (k : Stay bm B w' w2) : Stay bm B w w2 := ⟨k.os.trans h.os, k.tape.trans h.tape, k.output.trans h.output, Nat.le_trans h.size k.size, fun j h1 h2 => (k.block j h1 h2).trans (h.block j h1 h2)⟩
theorem Stay.of_below {n : Nat} (h : Below n w w') (hn : B ≤ n) : Stay bm B w w' := ⟨h.os, h.tape, h.output, h.size, fun k hk _ => h.block k (by omega)⟩
theorem Stay.of_grew {row : Option Nat} (h : Grew B w w' row) (hB : B ≤ w.heap.size) : Stay bm B w w' := ⟨h.os, h.tape, h.output, h.size, fun k hk _ => h.block k (by omega) (fun e => by have := h.low k e.symm; omega)⟩
theorem Stay.set (h : Stay bm B w w') (i : Nat) (u : Value) : Stay bm B w (w'.setCell ⟨bm, i, none⟩ u) := ⟨h.os, h.tape, h.output, by rw [size_set]; exact h.size, fun k h1 h2 => (Below.heap_setCell _ _ _ _ (show k ≠ bm from h2)).trans (h.block k h1 h2)⟩
theorem Stay.box {n : Nat} {t : TypeId} {cs : Array Value} (h : Stay bm B w w') (hB : Box w n t cs) (h1 : n < B) (h2 : n ≠ bm) : Box w' n t cs := hB.of_heap (h.block n h1 h2)
end

/-- A module in memory whose rows are the function's own, from block B on; its own block is bm. -/
structure Mods (W : World) (bm B : Nat) (U T X : Option Addr) (cu ct cx : Nat) (m : Module) (Gt Gf : Foot) : Prop where
  box : Box W bm 27 #[.slice U m.uses.length cu, .slice T m.types.length ct, .slice X m.funcs.length cx]
  us : Owns StrR 1 9 B W none_ (.slice U m.uses.length cu) m.uses
  ts : Owns FieldR 5 78 B W Gt (.slice T m.types.length ct) m.types
  fs : Owns FuncR 12 83 B W Gf (.slice X m.funcs.length cx) m.funcs
  lo : ∀ k, Gt k ∨ Gf k → B ≤ k
  ut : Apart (.slice U m.uses.length cu) (.slice T m.types.length ct)
  uf : Apart (.slice U m.uses.length cu) (.slice X m.funcs.length cx)
  tf : Apart (.slice T m.types.length ct) (.slice X m.funcs.length cx)
  gu : ∀ k, Gt k ∨ Gf k → (Value.slice U m.uses.length cu).ownBlock ≠ some k
  gt : ∀ k, Gf k → (Value.slice T m.types.length ct).ownBlock ≠ some k
  gf : ∀ k, Gt k → (Value.slice X m.funcs.length cx).ownBlock ≠ some k
  low : bm < B
def ModAt (W : World) (bm B : Nat) (m : Module) : Prop := ∃ U T X cu ct cx Gt Gf, Mods W bm B U T X cu ct cx m Gt Gf

section
variable {W W' : World} {bm B : Nat} {U T X : Option Addr} {cu ct cx : Nat} {m : Module} {Gt Gf : Foot}
theorem own_none {n : Nat} {g : Nat} : (Value.slice none n 0).ownBlock ≠ some g := fun h => by cases h
theorem Mods.start (hB : Box W bm 27 #[.slice none 0 0, .slice none 0 0, .slice none 0 0]) (h : bm < B) : Mods W bm B none none none 0 0 0 noMod none_ none_ :=
  ⟨hB, Owns.nil_, Owns.nil_, Owns.nil_, fun k hk => (hk.elim (fun h => h.elim) (fun h => h.elim)), fun g h => (by cases h), fun g h => (by cases h), fun g h => (by cases h), fun k hk => (hk.elim (fun h => h.elim) (fun h => h.elim)), fun k hk => hk.elim, fun k hk => hk.elim, h⟩
theorem Mods.later (h : Mods W bm B U T X cu ct cx m Gt Gf) (hb : Below W.heap.size W W') : Mods W' bm B U T X cu ct cx m Gt Gf :=
  ⟨h.box.later hb h.box.lt, h.us.below StrR.stays hb, h.ts.below FieldR.stays hb, h.fs.below FuncR.stays hb, h.lo, h.ut, h.uf, h.tf, h.gu, h.gt, h.gf, h.low⟩
/-- Something new is written to: a block that none of it lies in. -/
theorem Mods.far (h : Mods W bm B U T X cu ct cx m Gt Gf) {n : Nat} (hn : n ≤ W'.heap.size) (hs : W.heap.size ≤ n) (hk : ∀ k, k < n → W'.heap[k]? = W.heap[k]?) : Mods W' bm B U T X cu ct cx m Gt Gf :=
  ⟨h.box.of_heap (hk _ (Nat.lt_of_lt_of_le h.box.lt hs)), h.us.kept StrR.stays (by omega) (fun k h1 _ => hk k (by omega)), h.ts.kept FieldR.stays (by omega) (fun k h1 _ => hk k (by omega)), h.fs.kept FuncR.stays (by omega) (fun k h1 _ => hk k (by omega)), h.lo, h.ut, h.uf, h.tf, h.gu, h.gt, h.gf, h.low⟩

/-- One block that it does not lie in has changed. -/
theorem Mods.touch (h : Mods W bm B U T X cu ct cx m Gt Gf) {q : Nat} (hq : q < B) (hqm : q ≠ bm) (hs : W.heap.size ≤ W'.heap.size) (hk : ∀ k, k < W.heap.size → k ≠ q → W'.heap[k]? = W.heap[k]?) : Mods W' bm B U T X cu ct cx m Gt Gf :=
  ⟨h.box.of_heap (hk _ h.box.lt (fun e => hqm e.symm)), h.us.kept StrR.stays hs (fun k h1 h2 => hk k h1 (fun e => by subst e; exact h2.elim (fun h3 => h3) (fun h3 => by have := (h.us.row h3).1; omega))),
   h.ts.kept FieldR.stays hs (fun k h1 h2 => hk k h1 (fun e => by subst e; exact h2.elim (fun h3 => by have := h.lo _ (.inl h3); omega) (fun h3 => by have := (h.ts.row h3).1; omega))),
   h.fs.kept FuncR.stays hs (fun k h1 h2 => hk k h1 (fun e => by subst e; exact h2.elim (fun h3 => by have := h.lo _ (.inr h3); omega) (fun h3 => by have := (h.fs.row h3).1; omega))), h.lo, h.ut, h.uf, h.tf, h.gu, h.gt, h.gf, h.low⟩

theorem Mods.pushU (h : Mods W bm B U T X cu ct cx m Gt Gf) {A : Option Addr} {c : Nat} {s : ByteArray} {F' : Foot} (hO : Owns StrR 1 9 B W' F' (.slice A (m.uses.length + 1) c) (m.uses ++ [s])) (hF : ∀ k, F' k → none_ k) (hg : Grew B W W' (Value.slice U m.uses.length cu).ownBlock)
    (hv : (Value.slice A (m.uses.length + 1) c).ownBlock = (Value.slice U m.uses.length cu).ownBlock ∨ ∃ g, (Value.slice A (m.uses.length + 1) c).ownBlock = some g ∧ W.heap.size ≤ g) :
    Mods (W'.setCell ⟨bm, 0, none⟩ (.slice A (m.uses.length + 1) c)) bm B A T X c ct cx { m with uses := m.uses ++ [s] } Gt Gf := by
  have hlo := h.low
  have hut : Apart (.slice A (m.uses.length + 1) c) (.slice T m.types.length ct) := h.ut.push hv (fun g hg => (h.ts.row hg).2)
  have huf : Apart (.slice A (m.uses.length + 1) c) (.slice X m.funcs.length cx) := h.uf.push hv (fun g hg => (h.fs.row hg).2)
  have hgu : ∀ k, Gt k ∨ Gf k → (Value.slice A (m.uses.length + 1) c).ownBlock ≠ some k := fun k hk e => by
    rcases hv with hv | ⟨g, hv, hl⟩
    · exact h.gu k hk (hv.symm.trans e)
    · rw [hv] at e; injection e with e
      have : k < W.heap.size := hk.elim (fun h1 => (h.ts.foot h1).1) (fun h1 => (h.fs.foot h1).1)
      omega
  have hb := (hg.box h.box hlo).put 0 (.slice A (m.uses.length + 1) c)
  simp only [List.setIfInBounds_toArray, List.set_cons_zero] at hb
  refine ⟨?_, ?_, ?_, ?_, h.lo, ?_, ?_, h.tf, ?_, h.gt, h.gf, hlo⟩
  · simpa using hb
  · have := (Owns.wider StrR.stays hO hF (F' := none_) (fun k hk => hk.elim)).set StrR.stays (p := ⟨bm, 0, none⟩) hlo (fun k hk => hk.elim) (.slice A (m.uses.length + 1) c)
    simpa using this
  · exact (h.ts.kept FieldR.stays hg.size (fun k h1 h2 => hg.block k h1 (fun e => h2.elim (fun h3 => h.gu k (.inl h3) e.symm) (fun h3 => h.ut k e.symm h3)))).set FieldR.stays (p := ⟨bm, 0, none⟩) hlo (fun k hk => by have := h.lo k (.inl hk); show k ≠ bm; omega) _
  · exact (h.fs.kept FuncR.stays hg.size (fun k h1 h2 => hg.block k h1 (fun e => h2.elim (fun h3 => h.gu k (.inr h3) e.symm) (fun h3 => h.uf k e.symm h3)))).set FuncR.stays (p := ⟨bm, 0, none⟩) hlo (fun k hk => by have := h.lo k (.inr hk); show k ≠ bm; omega) _
  · simpa using hut
  · simpa using huf
  · simpa using hgu

theorem Mods.pushT (h : Mods W bm B U T X cu ct cx m Gt Gf) {A : Option Addr} {c : Nat} {s : Field} {G : Foot} (hO : Owns FieldR 5 78 B W' (fun k => Gt k ∨ G k) (.slice A (m.types.length + 1) c) (m.types ++ [s]))
    (hG : ∀ k, G k → B ≤ k ∧ k < W.heap.size ∧ (Value.slice U m.uses.length cu).ownBlock ≠ some k ∧ (Value.slice X m.funcs.length cx).ownBlock ≠ some k) (hg : Grew B W W' (Value.slice T m.types.length ct).ownBlock)
    (hv : (Value.slice A (m.types.length + 1) c).ownBlock = (Value.slice T m.types.length ct).ownBlock ∨ ∃ g, (Value.slice A (m.types.length + 1) c).ownBlock = some g ∧ W.heap.size ≤ g) :
    Mods (W'.setCell ⟨bm, 1, none⟩ (.slice A (m.types.length + 1) c)) bm B U A X cu c cx { m with types := m.types ++ [s] } (fun k => Gt k ∨ G k) Gf := by
  have hlo := h.low
  have hut : Apart (.slice U m.uses.length cu) (.slice A (m.types.length + 1) c) := (h.ut.symm.push hv (fun g hg => (h.us.row hg).2)).symm
  have htf : Apart (.slice A (m.types.length + 1) c) (.slice X m.funcs.length cx) := h.tf.push hv (fun g hg => (h.fs.row hg).2)
  have hgt : ∀ k, Gf k → (Value.slice A (m.types.length + 1) c).ownBlock ≠ some k := fun k hk e => by
    rcases hv with hv | ⟨g, hv, hl⟩
    · exact h.gt k hk (hv.symm.trans e)
    · rw [hv] at e; injection e with e
      have := (h.fs.foot hk).1
      omega
  have hlo2 : ∀ k, (Gt k ∨ G k) ∨ Gf k → B ≤ k := fun k hk => by
    rcases hk with (hk | hk) | hk
    · exact h.lo k (.inl hk)
    · exact (hG k hk).1
    · exact h.lo k (.inr hk)
  have hb := (hg.box h.box hlo).put 1 (.slice A (m.types.length + 1) c)
  simp only [List.setIfInBounds_toArray, List.set_cons_zero, List.set_cons_succ] at hb
  refine ⟨?_, ?_, ?_, ?_, hlo2, ?_, h.uf, ?_, ?_, ?_, ?_, hlo⟩
  · simpa using hb
  · exact (h.us.kept StrR.stays hg.size (fun k h1 h2 => hg.block k h1 (fun e => h2.elim (fun h3 => h3.elim) (fun h3 => h.ut k h3 e.symm)))).set StrR.stays (p := ⟨bm, 1, none⟩) hlo (fun k hk => hk.elim) _
  · have := hO.set FieldR.stays (p := ⟨bm, 1, none⟩) hlo (fun k hk => by have := hlo2 k (.inl hk); show k ≠ bm; omega) (.slice A (m.types.length + 1) c)
    simpa using this
  · exact (h.fs.kept FuncR.stays hg.size (fun k h1 h2 => hg.block k h1 (fun e => h2.elim (fun h3 => h.gt k h3 e.symm) (fun h3 => h.tf k e.symm h3)))).set FuncR.stays (p := ⟨bm, 1, none⟩) hlo (fun k hk => by have := h.lo k (.inr hk); show k ≠ bm; omega) _
  · simpa using hut
  · simpa using htf
  · intro k hk
    rcases hk with (hk | hk) | hk
    · exact h.gu k (.inl hk)
    · exact (hG k hk).2.2.1
    · exact h.gu k (.inr hk)
  · simpa using hgt
  · intro k hk
    rcases hk with hk | hk
    · exact h.gf k hk
    · exact (hG k hk).2.2.2

theorem Mods.pushF (h : Mods W bm B U T X cu ct cx m Gt Gf) {A : Option Addr} {c : Nat} {s : Func} {G : Foot} (hO : Owns FuncR 12 83 B W' (fun k => Gf k ∨ G k) (.slice A (m.funcs.length + 1) c) (m.funcs ++ [s]))
    (hG : ∀ k, G k → B ≤ k ∧ k < W.heap.size ∧ (Value.slice U m.uses.length cu).ownBlock ≠ some k ∧ (Value.slice T m.types.length ct).ownBlock ≠ some k) (hg : Grew B W W' (Value.slice X m.funcs.length cx).ownBlock)
    (hv : (Value.slice A (m.funcs.length + 1) c).ownBlock = (Value.slice X m.funcs.length cx).ownBlock ∨ ∃ g, (Value.slice A (m.funcs.length + 1) c).ownBlock = some g ∧ W.heap.size ≤ g) :
    Mods (W'.setCell ⟨bm, 2, none⟩ (.slice A (m.funcs.length + 1) c)) bm B U T A cu ct c { m with funcs := m.funcs ++ [s] } Gt (fun k => Gf k ∨ G k) := by
  have hlo := h.low
  have huf : Apart (.slice U m.uses.length cu) (.slice A (m.funcs.length + 1) c) := (h.uf.symm.push hv (fun g hg => (h.us.row hg).2)).symm
  have htf : Apart (.slice T m.types.length ct) (.slice A (m.funcs.length + 1) c) := (h.tf.symm.push hv (fun g hg => (h.ts.row hg).2)).symm
  have hgf : ∀ k, Gt k → (Value.slice A (m.funcs.length + 1) c).ownBlock ≠ some k := fun k hk e => by
    rcases hv with hv | ⟨g, hv, hl⟩
    · exact h.gf k hk (hv.symm.trans e)
    · rw [hv] at e; injection e with e
      have := (h.ts.foot hk).1
      omega
  have hlo2 : ∀ k, Gt k ∨ Gf k ∨ G k → B ≤ k := fun k hk => by
    rcases hk with hk | hk | hk
    · exact h.lo k (.inl hk)
    · exact h.lo k (.inr hk)
    · exact (hG k hk).1
  have hb := (hg.box h.box hlo).put 2 (.slice A (m.funcs.length + 1) c)
  simp only [List.setIfInBounds_toArray, List.set_cons_zero, List.set_cons_succ] at hb
  refine ⟨?_, ?_, ?_, ?_, hlo2, h.ut, ?_, ?_, ?_, ?_, ?_, hlo⟩
  · simpa using hb
  · exact (h.us.kept StrR.stays hg.size (fun k h1 h2 => hg.block k h1 (fun e => h2.elim (fun h3 => h3.elim) (fun h3 => h.uf k h3 e.symm)))).set StrR.stays (p := ⟨bm, 2, none⟩) hlo (fun k hk => hk.elim) _
  · exact (h.ts.kept FieldR.stays hg.size (fun k h1 h2 => hg.block k h1 (fun e => h2.elim (fun h3 => h.gf k h3 e.symm) (fun h3 => h.tf k h3 e.symm)))).set FieldR.stays (p := ⟨bm, 2, none⟩) hlo (fun k hk => by have := h.lo k (.inl hk); show k ≠ bm; omega) _
  · have := hO.set FuncR.stays (p := ⟨bm, 2, none⟩) hlo (fun k hk => by have := hlo2 k (.inr hk); show k ≠ bm; omega) (.slice A (m.funcs.length + 1) c)
    simpa using this
  · simpa using huf
  · simpa using htf
  · intro k hk
    rcases hk with hk | hk | hk
    · exact h.gu k (.inl hk)
    · exact h.gu k (.inr hk)
    · exact (hG k hk).2.2.1
  · intro k hk
    rcases hk with hk | hk
    · exact h.gt k hk
    · exact (hG k hk).2.2.2
  · simpa using hgf
end

end Go.Proofs.YtjaladhdnbhliaaGreatDoor
