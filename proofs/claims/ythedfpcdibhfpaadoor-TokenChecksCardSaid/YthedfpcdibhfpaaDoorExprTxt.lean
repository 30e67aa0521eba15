/- Expressions as texts: tree.exprText. -/
import Derived.Test.YthedfpcdibhfpaaDoorTypeTxt
import Derived.Test.YthedfpcdibhfpaaDoorTreeChk2
import Derived.Test.YthedfpcdibhfpaaDoorClone
import Derived.Deep.RegionWith
import Derived.Deep.DeepCutAuto
import Derived.Deep.QuietTactic
import Derived.BigQuiet
import Derived.WalkSmall
import Derived.Lib.LaidTab
namespace Go.Proofs.YthedfpcdibhfpaaDoor
open Go.RowKit Go.Shelf

theorem joins_any (v : Value) (l : List ByteArray) (F : Foot) (w : World) (hF : ∀ k, F k → k < w.heap.size) (hv : SliceOf StrR 1 16 w F v l) (hl : (joined l).size ≤ 140737488355328) :
    Calls Tryd.prog 49 #[v, .string ⟨#[44, 32]⟩] w fun e w' => e = .returned (.string (joined l)) ∧ Below w.heap.size w w' := by
  obtain ⟨A, cap, rfl, h1, h2, h3, h3', h4⟩ := hv
  cases l with
  | nil => exact (Tryd.strings_Join_none A cap ⟨#[44, 32]⟩ w).mono fun e w' ⟨he, hw⟩ => ⟨he, hw ▸ Below.refl _ _⟩
  | cons x r =>
    obtain ⟨b, off, rfl, hb, hx⟩ := h4 (by simp)
    refine (Tryd.strings_Join b off cap (x :: r) ⟨#[44, 32]⟩ w (fun j y hj => ?_) (hF _ hb) h3' h1 ?_).mono fun e w' ⟨he, hw⟩ => ⟨he, hw⟩
    · obtain ⟨cs, hc, ⟨rfl, _⟩, hcell⟩ := hx j y hj
      have := hcell 0 _ rfl
      simpa using this
    · rw [ba_size, joined, ba_of] at hl; exact hl

/-- The library's table of powers lies in the memory. -/
def Pow (w : World) : Prop := Lib.TabIs Tryd.prog w "internal/strconv.uint64pow10" .u64 Lib.pow10Tab
theorem pow_named : Tryd.prog.globalNamed "internal/strconv.uint64pow10" = some 6 := by kernel_rfl
theorem Pow.lt {w : World} (h : Pow w) : 6 < w.heap.size := by
  have hc := h.cell pow_named 0 (by decide)
  exact World.block_lt_of_cell? w _ hc
theorem Pow.later {w w' : World} (h : Pow w) (hb : Below w.heap.size w w') : Pow w' := by
  unfold Pow Lib.TabIs at h ⊢
  rw [← h]
  unfold World.var?
  have hlt := Pow.lt (w := w) h
  simp only [pow_named]
  have := hb.block _ hlt
  simp [this]

set_option maxRecDepth 100000 in
theorem itoa_any (v : Int) (w : World) (h0 : 0 ≤ v) (h1 : v ≤ 999999) (hp : Pow w) :
    Calls Tryd.prog 142 #[.int .i64 v] w fun e w' => e = .returned (.string (decTxt v)) ∧ Below w.heap.size w w' :=
  (Tryd.strconv_Itoa v (by omega) (by omega) w hp).mono fun e w' ⟨he, k, os, hw⟩ => ⟨he, by
    subst hw
    exact ⟨rfl, rfl, rfl, by simp [Sort.grow], fun j hj => Sort.heap_grow_old _ _ hj⟩⟩

/-- The elements of an expression's list. -/
theorem ex_args {w : World} {F : Foot} {k v : Int} {o s : ByteArray} {args : List Ex} {A : Option Addr} {n c : Nat} {cs : List Value} (hcs : cs = [.int .i64 k, .int .i64 v, .string o, .string s, .slice A n c]) (h : ExR w F cs (.mk k v o s args)) :
    SliceOf ExR 5 72 w F (.slice A n c) args ∧ okS o ∧ okS s ∧ I64 v ∧ I64 k := by
  subst hcs
  obtain ⟨m, h⟩ := h
  cases m with
  | zero => exact h.elim
  | succ m =>
    obtain ⟨av, he, hk, hv, ho, hs, hav⟩ := h
    simp only [List.cons.injEq, and_true] at he
    obtain ⟨_, _, _, _, rfl⟩ := he
    refine ⟨?_, ho, hs, hv, hk⟩
    obtain ⟨A', cap, e, h1, h2, h3, h3', h4⟩ := hav
    refine ⟨A', cap, e, h1, h2, h3, h3', fun hl => ?_⟩
    obtain ⟨b, off, hA, hb, hx⟩ := h4 hl
    exact ⟨b, off, hA, hb, fun i x hi => by obtain ⟨ds, hc, hr, hcell⟩ := hx i x hi; exact ⟨ds, hc, ⟨m, hr⟩, hcell⟩⟩

theorem argAt_eq {l : List ByteArray} {k : Nat} (hk : k < l.length) : argAt l k = l[k] := by
  unfold argAt
  rw [List.getD_eq_getElem?_getD, List.getElem?_eq_getElem hk]; rfl

end Go.Proofs.YthedfpcdibhfpaaDoor
