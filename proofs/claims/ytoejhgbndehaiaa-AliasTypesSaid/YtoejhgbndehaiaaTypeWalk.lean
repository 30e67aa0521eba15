/- The types of a module, by their names: alias.Types. -/
import Derived.Test.YtoejhgbndehaiaaTypePlain
import Derived.Test.YtoejhgbndehaiaaAliasUse
import Derived.Test.YtoejhgbndehaiaaSolveRef
import Derived.Test.YtoejhgbndehaiaaSortOwn
import Derived.Test.YtoejhgbndehaiaaSortLays
import Derived.Test.YtoejhgbndehaiaaTwo
import Derived.Handy
namespace Go.Proofs.Ytoejhgbndehaiaa
open Go.RowKit Go.Shelf

theorem known_one {d : Known} : ∀ u ∈ [Value.string d.name, .string d.is_], u.oneCell' = true := by
  intro u hu
  simp only [List.mem_cons, List.not_mem_nil, or_false] at hu
  rcases hu with rfl | rfl <;> rfl

set_option maxRecDepth 100000 in
set_option maxHeartbeats 400000 in
theorem typesEq_any (x : Field) (cs : List Value) (F : Foot) (t : ByteArray) (b : Nat) (W : World) (hx : FieldR W F cs x) (ha : W.cell? ⟨b, 0, none⟩ = some (.string t)) :
    Calls Try.prog 23 #[.agg cs.toArray, .pointer (some ⟨b, 0, none⟩)] W fun e w' => e = .returned (.bool (fieldIs t x)) ∧ Below W.heap.size W w' := by
  have hlt := World.block_lt_of_cell? W _ ha
  obtain ⟨c0, c1, c2, c3, rfl, _, ht⟩ := FieldR.form hx
  obtain ⟨A2, n2, hf⟩ := TyR.form ht
  simp only [List.cons.injEq, and_true] at hf
  obtain ⟨rfl, rfl, rfl, rfl⟩ := hf
  clear hx ht
  unfold fieldIs eqB
  go_enter Try.func23, Try.ntmps23
  cases hq : (x.name.toList == t.toList)
  all_goals (go_wp2; go_ret; exact ⟨by simp, by go_grown⟩)

set_option maxHeartbeats 400000 in
theorem typesSeen_any (l : List Field) (T1 : Option Addr) (n e1 : Nat) (_hn : n = l.length) (t : ByteArray) (b : Nat) (F : Foot) (w : World) (hF : ∀ k, F k → k < w.heap.size) (hl : SliceOf FieldR 5 80 w F (.slice T1 n e1) l) (ha : w.cell? ⟨b, 0, none⟩ = some (.string t)) :
    Calls Try.prog 22 #[.slice T1 n e1, .func (.func 23) #[] #[.pointer (some ⟨b, 0, none⟩)]] w fun e w' => e = .returned (.bool (l.any (fieldIs t))) ∧ Below w.heap.size w w' :=
  containsFunc_fields (.slice T1 n e1) l F 23 #[.pointer (some ⟨b, 0, none⟩)] (fieldIs t) w (enters_of Try.func23 (by kernel_rfl) rfl) hF hl (fun U x cs _ hU hr => by
    have h := typesEq_any x cs F t b U hr ((hU.cell (World.block_lt_of_cell? w _ ha)).trans ha)
    obtain ⟨_, _, _, _, rfl, _, _⟩ := FieldR.form hr
    exact h)

set_option maxRecDepth 100000 in
set_option maxHeartbeats 1000000 in
theorem typesCmp_any (s s' t t' : ByteArray) (W : World) : Calls Try.prog 26 #[.agg #[.string s, .string s'], .agg #[.string t, .string t']] W fun e w' => e = .returned (.int .i64 (Lib.compareBytes s.data.toList t.data.toList)) ∧ ∃ q os, w' = Sort.grow (W.drewN q) os := by
  have hcon := fun W' => Try.strings_Compare s t W'
  generalize Lib.compareBytes s.data.toList t.data.toList = r at hcon ⊢
  go_enter Try.func26, Try.ntmps26
  go_wp2_with (go_at_call 27; refine (hcon _).mono ?_; rintro e w' ⟨rfl, rfl⟩)
  go_ret
  exact ⟨rfl, 0, _, by rw [Sort.alloc_eq_grow, Sort.alloc_eq_grow, Sort.grow_grow]; rfl⟩

/-- A Known's cells. -/
def knownCells (cs : List Value) (s : ByteArray) : Prop := ∃ t, cs = [.string s, .string t]
set_option maxHeartbeats 1000000 in
theorem sortKnowns_any {base : Nat} {F : Foot} {w : World} {v : Value} {l : List Known} (h : Owns KnownR 2 68 base w F v l) (hl : l.length ≤ 100) (hd : Apart_ Known.name l) :
    Calls Try.prog 25 #[v, .func (.func 26) #[] #[]] w fun en w' => en = .returned (.tuple #[]) ∧ Owns KnownR 2 68 base w' F v (sortBy Known.name l) ∧ Grew base w w' v.ownBlock := by
  have hcon := sort_owned KnownR.stays Known.name knownCells 2 (by rintro cs s ⟨t, rfl⟩; exact ⟨rfl, by intro u hu; simp only [List.mem_cons, List.not_mem_nil, or_false] at hu; rcases hu with rfl | rfl <;> rfl⟩) (by rintro w F cs x ⟨rfl, _⟩; exact ⟨_, rfl⟩)
    Try.sortKnown Try.isAgg68 Try.sizeOf68 26 (enters_of Try.func26 (by kernel_rfl) rfl)
    (by rintro cs ds s t W ⟨s', rfl⟩ ⟨t', rfl⟩; exact typesCmp_any s s' t t' W) h (by omega)
  change Calls Try.prog 25 _ _ _ at hcon
  refine hcon.mono ?_
  rintro e w' ⟨he, l', hp, hs, hO, hg⟩
  rw [sorted_one hp hd hs] at hO
  exact ⟨he, hO, hg⟩

end Go.Proofs.Ytoejhgbndehaiaa
