/- Texts that belong together: BodyPlain, BodyRef2, BodyRefS, BodyRefI, BodyRefA, BodyRef3, BodyIs, BodyClos, BodyOf1, BodyCall, BodyOfS, BodyOfI, BodyOfA, BodyOf. -/
import Derived.Test.YthedfpcdibhfpaaDoorAliasFrom
import Derived.Test.YthedfpcdibhfpaaDoorFaceFunc
import Derived.Test.YthedfpcdibhfpaaDoorFaceFind
import Derived.Test.YthedfpcdibhfpaaDoorPuts
import Derived.Test.YthedfpcdibhfpaaDoorTxts
import Derived.Test.YthedfpcdibhfpaaDoorFunc
import Derived.Deep.QuietTactic
import Derived.BigQuiet
import Derived.WalkSmall
import Derived.Deep.RegionHeld3
import Derived.Deep.CutBlock
/- What expressions are. Plain facts. -/
namespace Go.Proofs.YthedfpcdibhfpaaDoor
open Go.RowKit

def intT : ByteArray := ⟨#[105, 110, 116]⟩
def textT : ByteArray := ⟨#[116, 101, 120, 116]⟩
/-- What a parameter is, by its name. -/
def knownIs (ps : List Known) (s : ByteArray) : ByteArray × Int := match ps.find? (fun x => eqB x.name s) with | some x => (x.is_, 0) | none => (⟨#[]⟩, 6)
/-- All arguments first, in their order; the first thing wrong with them, or what comes of their kinds. -/
def isArgs (f : Ex → ByteArray × Int) (fin : List ByteArray → ByteArray × Int) (args : List Ex) : ByteArray × Int :=
  if eachErr (fun a => (f a).2) args ≠ 0 then (⟨#[]⟩, eachErr (fun a => (f a).2) args) else fin (args.map fun a => (f a).1)
def nth (L : List ByteArray) (i : Nat) : ByteArray := L.getD i ⟨#[]⟩
def sumR (L : List ByteArray) : ByteArray × Int := if eqB (nth L 0) (nth L 1) = true ∧ (eqB (nth L 0) intT = true ∨ eqB (nth L 0) textT = true) then (nth L 0, 0) else (⟨#[]⟩, 8)
def itemsR (L : List ByteArray) : ByteArray × Int := if listErr (nth L 0) = 0 ∧ L.all (fun t => eqB t (nth L 0)) = true then (listTxt (nth L 0), 0) else (⟨#[]⟩, 8)
def atR (L : List ByteArray) : ByteArray × Int := if (elemOf (nth L 0)).isSome = true ∧ eqB (nth L 1) intT = true then ((elemOf (nth L 0)).getD ⟨#[]⟩, 0) else (⟨#[]⟩, 8)
def putAll (g : Sig) (L : List ByteArray) : ByteArray × Int := if (allR g.params L g.result).2 ≠ 0 then (⟨#[]⟩, 8) else ((allR g.params L g.result).1, 0)
def calledFace (m : Module) (l : List Import) (own : Face) (o : ByteArray) : Face := if o.size = 0 then own else fromFace m l o
/-- What an expression is, or what is wrong with it. -/
def isR (m : Module) (l : List Import) (own : Face) (ps : List Known) : Nat → Ex → ByteArray × Int
  | 0, _ => (⟨#[]⟩, 0)
  | n + 1, .mk k _ o s args =>
    if k = 1 then (intT, 0) else if k = 2 then (textT, 0) else if k = 3 then knownIs ps s
    else if k = 4 then
      if funcCode (calledFace m l own o).funcs s ≠ 0 then (⟨#[]⟩, 6)
      else if (funcIn (calledFace m l own o).funcs s).params.length ≠ args.length then (⟨#[]⟩, 7)
      else isArgs (isR m l own ps n) (putAll (funcIn (calledFace m l own o).funcs s)) args
    else if k = 5 then isArgs (isR m l own ps n) sumR args
    else if k = 6 then isArgs (isR m l own ps n) itemsR args
    else isArgs (isR m l own ps n) atR args

section
variable {f : Ex → ByteArray × Int} {fin : List ByteArray → ByteArray × Int} {args : List Ex}
theorem isArgs_bad {k : Nat} {a : Ex} {z : Int} (hx : args[k]? = some a) (h : (f a).2 = z) (h0 : z ≠ 0) (hb : ∀ j, j < k → ∀ y, args[j]? = some y → (f y).2 = 0) : isArgs f fin args = (⟨#[]⟩, z) := by
  have he := eachErr_hit (g := fun a => (f a).2) hx h h0 hb
  unfold isArgs
  rw [he, if_pos h0]
theorem isArgs_good (hb : ∀ j, j < args.length → ∀ y, args[j]? = some y → (f y).2 = 0) : isArgs f fin args = fin (args.map fun a => (f a).1) := by
  unfold isArgs
  rw [eachErr_none (g := fun a => (f a).2) hb, if_neg (by decide)]
end

theorem allR_size (ps as_ : List ByteArray) (r : ByteArray) : (allR ps as_ r).1.size ≤ 600 := by
  have h0 : (⟨#[]⟩ : ByteArray).size ≤ 600 := Nat.zero_le _
  unfold allR
  split
  · exact h0
  split
  · exact h0
  split
  · exact h0
  split
  · exact h0
  split
  · exact h0
  · unfold putR
    split
    · next hk =>
      split
      · split
        · split
          · exact h0
          · next h => exact Nat.le_of_not_lt h
        · exact h0
      · exact (kind_base hk).1
    · exact h0
theorem listTxt_small (s : ByteArray) : (listTxt s).size ≤ 600 := by
  unfold listTxt
  split
  · split
    · exact Nat.zero_le _
    · next h =>
      unfold listOf
      rw [ba_app_size, ba_app_size]
      show 1 + s.size + 1 ≤ 600
      omega
  · exact Nat.zero_le _
theorem okS_nil : okS ⟨#[]⟩ := Nat.zero_le _
theorem elemD_ok {s : ByteArray} (h : okS s) : okS ((elemOf s).getD ⟨#[]⟩) := by
  cases he : elemOf s with
  | none => exact okS_nil
  | some t =>
    have := elemOf_size he
    have hs : s.size ≤ 140737488355328 := h
    show t.size ≤ 140737488355328
    omega
theorem nth_ok {L : List ByteArray} (h : ∀ s ∈ L, okS s) (i : Nat) : okS (nth L i) := by
  unfold nth
  rw [List.getD_eq_getElem?_getD]
  cases hx : L[i]? with
  | none => exact okS_nil
  | some s => exact h s (List.mem_of_getElem? hx)
theorem isArgs_ok {f : Ex → ByteArray × Int} {fin : List ByteArray → ByteArray × Int} (hf : ∀ a, okS (f a).1) (hfin : ∀ L : List ByteArray, (∀ s ∈ L, okS s) → okS (fin L).1) (args : List Ex) : okS (isArgs f fin args).1 := by
  unfold isArgs
  split
  · exact okS_nil
  · exact hfin _ fun s hs => by obtain ⟨a, _, rfl⟩ := List.mem_map.1 hs; exact hf a
theorem isR_ok {m : Module} {l : List Import} {own : Face} {ps : List Known} (hp : ∀ p ∈ ps, okS p.is_) : ∀ (n : Nat) (x : Ex), okS (isR m l own ps n x).1
  | 0, _ => okS_nil
  | n + 1, .mk k v o s args => by
    have ih := isR_ok hp n (m := m) (l := l) (own := own)
    unfold isR
    split
    · show (3 : Nat) ≤ _; decide
    split
    · show (4 : Nat) ≤ _; decide
    split
    · unfold knownIs
      cases hx : ps.find? (fun x => eqB x.name s) with
      | none => exact okS_nil
      | some x => exact hp x (List.mem_of_find?_eq_some hx)
    split
    · split
      · exact okS_nil
      split
      · exact okS_nil
      · refine isArgs_ok ih (fun L _ => ?_) args
        unfold putAll
        split
        · exact okS_nil
        · exact Nat.le_trans (allR_size _ _ _) (by decide)
    split
    · refine isArgs_ok ih (fun L hL => ?_) args
      unfold sumR
      split
      · exact nth_ok hL 0
      · exact okS_nil
    split
    · refine isArgs_ok ih (fun L _ => ?_) args
      unfold itemsR
      split
      · exact Nat.le_trans (listTxt_small _) (by decide)
      · exact okS_nil
    · refine isArgs_ok ih (fun L hL => ?_) args
      unfold atR
      split
      · exact elemD_ok (nth_ok hL 0)
      · exact okS_nil

end Go.Proofs.YthedfpcdibhfpaaDoor

/- What expressions are: the reference's isOf at numbers, texts, parameters. -/
namespace Go.Proofs.YthedfpcdibhfpaaDoor
open Go.RowKit Go.Shelf

/-- What the reference tells of an expression that may be so deep: f. -/
def IsOfAt (n : Nat) (f : Ex → ByteArray × Int) (m : Module) (l : List Import) (own : Face) (ps : List Known) : Prop :=
  ∀ (x : Ex) (ms : List Value) (lv : Value) (os : List Value) (pv : Value) (cs : List Value) (F : Foot) (w : World), exErr n x = 0 → (∀ k, F k → k < w.heap.size) → ModuleR w F ms m → SliceOf ImportR 4 72 w F lv l → FaceR w F os own → SliceOf KnownR 2 32 w F pv ps → ExR w F cs x →
    Calls Tryd.prog 42 #[.agg ms.toArray, lv, .agg os.toArray, pv, .agg cs.toArray] w fun e w' => e = .returned (.tuple #[.string (f x).1, .int .i64 (f x).2]) ∧ Below w.heap.size w w'

theorem intT_list : intT.toList = [105, 110, 116] := by rw [ByteArray.toList_eq]; rfl
theorem textT_list : textT.toList = [116, 101, 120, 116] := by rw [ByteArray.toList_eq]; rfl
theorem two_of {L : List ByteArray} (h : L.length = 2) : ∃ p q, L = [p, q] := by
  match L, h with | [p, q], _ => exact ⟨p, q, rfl⟩
theorem one_of {L : List ByteArray} (h : 1 ≤ L.length) : ∃ p M, L = p :: M := by
  match L, h with | p :: M, _ => exact ⟨p, M, rfl⟩

theorem called_own {m : Module} {l : List Import} {own : Face} {o : ByteArray} (h : o.toList.isEmpty = true) : calledFace m l own o = own := by unfold calledFace; rw [if_pos (size_zero h)]
theorem called_from {m : Module} {l : List Import} {own : Face} {o : ByteArray} (h : o.toList.isEmpty = false) : calledFace m l own o = fromFace m l o := by unfold calledFace; rw [if_neg (size_pos h)]

theorem known_hit {ps : List Known} {s : ByteArray} {k : Nat} {x : Known} (hx : ps[k]? = some x) (h : eqB x.name s = true) (hb : ∀ j, j < k → ∀ y, ps[j]? = some y → eqB y.name s = false) : knownIs ps s = (x.is_, 0) := by
  have hf : ps.find? (fun x => eqB x.name s) = some x := by
    rw [List.find?_eq_some_iff_getElem]
    obtain ⟨hk, rfl⟩ := List.getElem?_eq_some_iff.1 hx
    refine ⟨h, k, hk, rfl, fun j hj => ?_⟩
    have := hb j hj _ (List.getElem?_eq_getElem (by omega))
    simp [this]
  unfold knownIs
  rw [hf]
theorem known_miss {ps : List Known} {s : ByteArray} (hb : ∀ j, j < ps.length → ∀ y, ps[j]? = some y → eqB y.name s = false) : knownIs ps s = (⟨#[]⟩, 6) := by
  have hf : ps.find? (fun x => eqB x.name s) = none := by
    rw [List.find?_eq_none]
    intro y hy
    obtain ⟨j, hj, rfl⟩ := List.mem_iff_getElem.1 hy
    simp [hb j hj _ (List.getElem?_eq_getElem hj)]
  unfold knownIs
  rw [hf]

section
variable (m : Module) (l : List Import) (own : Face) (ps : List Known) (v : Int) (o s : ByteArray) (na : Nat) (ms : List Value) (lv : Value) (os : List Value) (pv : Value) (A : Option Addr) (c : Nat) (F : Foot) (w : World)

set_option maxRecDepth 100000 in
set_option maxHeartbeats 1000000 in
theorem isOf_num (hm : ModuleR w F ms m) (ho : FaceR w F os own) :
    Calls Tryd.prog 42 #[.agg ms.toArray, lv, .agg os.toArray, pv, .agg #[.int .i64 1, .int .i64 v, .string o, .string s, .slice A na c]] w fun e w' =>
      e = .returned (.tuple #[.string intT, .int .i64 0]) ∧ Below w.heap.size w w' := by
  obtain ⟨U1, u1, T1, e1, T2, e2, rfl, _⟩ := ModuleR.form hm
  obtain ⟨T3, e3, T4, e4, rfl⟩ := FaceR.form ho
  clear hm ho
  go_enter Tryd.func42, Tryd.ntmps42
  go_upto_region 1 with fail
  have hBb1 := (((Box.made w 26 #[.slice U1 m.uses.length u1, .slice T1 m.types.length e1, .slice T2 m.funcs.length e2]).alloc (.cells #[.slice T3 own.types.length e3, .slice T4 own.funcs.length e4] 31)).alloc (.cells #[.int .i64 1, .int .i64 v, .string o, .string s, .slice A na c] 88))
  have hBb2 := ((Box.made (w.alloc (.cells #[.slice U1 m.uses.length u1, .slice T1 m.types.length e1, .slice T2 m.funcs.length e2] 26)) 31 #[.slice T3 own.types.length e3, .slice T4 own.funcs.length e4]).alloc (.cells #[.int .i64 1, .int .i64 v, .string o, .string s, .slice A na c] 88))
  rw [show (w.alloc (.cells #[.slice U1 m.uses.length u1, .slice T1 m.types.length e1, .slice T2 m.funcs.length e2] 26)).heap.size = w.heap.size + 1 by simp only [World.size_alloc]] at hBb2
  have hBb3 := (Box.made ((w.alloc (.cells #[.slice U1 m.uses.length u1, .slice T1 m.types.length e1, .slice T2 m.funcs.length e2] 26)).alloc (.cells #[.slice T3 own.types.length e3, .slice T4 own.funcs.length e4] 31)) 88 #[.int .i64 1, .int .i64 v, .string o, .string s, .slice A na c])
  rw [show ((w.alloc (.cells #[.slice U1 m.uses.length u1, .slice T1 m.types.length e1, .slice T2 m.funcs.length e2] 26)).alloc (.cells #[.slice T3 own.types.length e3, .slice T4 own.funcs.length e4] 31)).heap.size = w.heap.size + 1 + 1 by simp only [World.size_alloc]] at hBb3
  have hbb : Below w.heap.size w (((w.alloc (.cells #[.slice U1 m.uses.length u1, .slice T1 m.types.length e1, .slice T2 m.funcs.length e2] 26)).alloc (.cells #[.slice T3 own.types.length e3, .slice T4 own.funcs.length e4] 31)).alloc (.cells #[.int .i64 1, .int .i64 v, .string o, .string s, .slice A na c] 88)) := by go_grown
  have hzb : (((w.alloc (.cells #[.slice U1 m.uses.length u1, .slice T1 m.types.length e1, .slice T2 m.funcs.length e2] 26)).alloc (.cells #[.slice T3 own.types.length e3, .slice T4 own.funcs.length e4] 31)).alloc (.cells #[.int .i64 1, .int .i64 v, .string o, .string s, .slice A na c] 88)).heap.size = w.heap.size + 1 + 1 + 1 := by simp only [World.size_alloc]
  generalize ((w.alloc (.cells #[.slice U1 m.uses.length u1, .slice T1 m.types.length e1, .slice T2 m.funcs.length e2] 26)).alloc (.cells #[.slice T3 own.types.length e3, .slice T4 own.funcs.length e4] 31)).alloc (.cells #[.int .i64 1, .int .i64 v, .string o, .string s, .slice A na c] 88) = W1 at hBb1 hBb2 hBb3 hbb hzb ⊢
  have x0 := hBb3.at_ 0 _ rfl
  go_wp2_with fail
  go_ret2
  exact ⟨rfl, hbb⟩

set_option maxRecDepth 100000 in
set_option maxHeartbeats 1000000 in
theorem isOf_txt (hm : ModuleR w F ms m) (ho : FaceR w F os own) :
    Calls Tryd.prog 42 #[.agg ms.toArray, lv, .agg os.toArray, pv, .agg #[.int .i64 2, .int .i64 v, .string o, .string s, .slice A na c]] w fun e w' =>
      e = .returned (.tuple #[.string textT, .int .i64 0]) ∧ Below w.heap.size w w' := by
  obtain ⟨U1, u1, T1, e1, T2, e2, rfl, _⟩ := ModuleR.form hm
  obtain ⟨T3, e3, T4, e4, rfl⟩ := FaceR.form ho
  clear hm ho
  go_enter Tryd.func42, Tryd.ntmps42
  go_upto_region 1 with fail
  have hBb1 := (((Box.made w 26 #[.slice U1 m.uses.length u1, .slice T1 m.types.length e1, .slice T2 m.funcs.length e2]).alloc (.cells #[.slice T3 own.types.length e3, .slice T4 own.funcs.length e4] 31)).alloc (.cells #[.int .i64 2, .int .i64 v, .string o, .string s, .slice A na c] 88))
  have hBb2 := ((Box.made (w.alloc (.cells #[.slice U1 m.uses.length u1, .slice T1 m.types.length e1, .slice T2 m.funcs.length e2] 26)) 31 #[.slice T3 own.types.length e3, .slice T4 own.funcs.length e4]).alloc (.cells #[.int .i64 2, .int .i64 v, .string o, .string s, .slice A na c] 88))
  rw [show (w.alloc (.cells #[.slice U1 m.uses.length u1, .slice T1 m.types.length e1, .slice T2 m.funcs.length e2] 26)).heap.size = w.heap.size + 1 by simp only [World.size_alloc]] at hBb2
  have hBb3 := (Box.made ((w.alloc (.cells #[.slice U1 m.uses.length u1, .slice T1 m.types.length e1, .slice T2 m.funcs.length e2] 26)).alloc (.cells #[.slice T3 own.types.length e3, .slice T4 own.funcs.length e4] 31)) 88 #[.int .i64 2, .int .i64 v, .string o, .string s, .slice A na c])
  rw [show ((w.alloc (.cells #[.slice U1 m.uses.length u1, .slice T1 m.types.length e1, .slice T2 m.funcs.length e2] 26)).alloc (.cells #[.slice T3 own.types.length e3, .slice T4 own.funcs.length e4] 31)).heap.size = w.heap.size + 1 + 1 by simp only [World.size_alloc]] at hBb3
  have hbb : Below w.heap.size w (((w.alloc (.cells #[.slice U1 m.uses.length u1, .slice T1 m.types.length e1, .slice T2 m.funcs.length e2] 26)).alloc (.cells #[.slice T3 own.types.length e3, .slice T4 own.funcs.length e4] 31)).alloc (.cells #[.int .i64 2, .int .i64 v, .string o, .string s, .slice A na c] 88)) := by go_grown
  have hzb : (((w.alloc (.cells #[.slice U1 m.uses.length u1, .slice T1 m.types.length e1, .slice T2 m.funcs.length e2] 26)).alloc (.cells #[.slice T3 own.types.length e3, .slice T4 own.funcs.length e4] 31)).alloc (.cells #[.int .i64 2, .int .i64 v, .string o, .string s, .slice A na c] 88)).heap.size = w.heap.size + 1 + 1 + 1 := by simp only [World.size_alloc]
  generalize ((w.alloc (.cells #[.slice U1 m.uses.length u1, .slice T1 m.types.length e1, .slice T2 m.funcs.length e2] 26)).alloc (.cells #[.slice T3 own.types.length e3, .slice T4 own.funcs.length e4] 31)).alloc (.cells #[.int .i64 2, .int .i64 v, .string o, .string s, .slice A na c] 88) = W1 at hBb1 hBb2 hBb3 hbb hzb ⊢
  have x0 := hBb3.at_ 0 _ rfl
  go_wp2_with fail
  go_ret2
  exact ⟨rfl, hbb⟩

set_option maxRecDepth 100000 in
set_option maxHeartbeats 2000000 in
theorem isOf_par (hF : ∀ k, F k → k < w.heap.size) (hm : ModuleR w F ms m) (ho : FaceR w F os own) (hp : SliceOf KnownR 2 32 w F pv ps) :
    Calls Tryd.prog 42 #[.agg ms.toArray, lv, .agg os.toArray, pv, .agg #[.int .i64 3, .int .i64 v, .string o, .string s, .slice A na c]] w fun e w' =>
      e = .returned (.tuple #[.string (knownIs ps s).1, .int .i64 (knownIs ps s).2]) ∧ Below w.heap.size w w' := by
  obtain ⟨U1, u1, T1, e1, T2, e2, rfl, _⟩ := ModuleR.form hm
  obtain ⟨T3, e3, T4, e4, rfl⟩ := FaceR.form ho
  obtain ⟨P1, p1, rfl, _⟩ := hp.form
  obtain ⟨E, hE⟩ : ∃ z, knownIs ps s = z := ⟨_, rfl⟩
  rw [hE]
  have hpl : ps.length ≤ 9223372036854775807 := by
    obtain ⟨A', c', e, h1, h2, _⟩ := hp
    unfold maxLen at h2; omega
  have HP := Lib.hid hp; have HE := Lib.hid hE
  clear hp hE
  clear hm ho
  go_enter Tryd.func42, Tryd.ntmps42
  go_upto_region 1 with fail
  have hBb1 := (((Box.made w 26 #[.slice U1 m.uses.length u1, .slice T1 m.types.length e1, .slice T2 m.funcs.length e2]).alloc (.cells #[.slice T3 own.types.length e3, .slice T4 own.funcs.length e4] 31)).alloc (.cells #[.int .i64 3, .int .i64 v, .string o, .string s, .slice A na c] 88))
  have hBb2 := ((Box.made (w.alloc (.cells #[.slice U1 m.uses.length u1, .slice T1 m.types.length e1, .slice T2 m.funcs.length e2] 26)) 31 #[.slice T3 own.types.length e3, .slice T4 own.funcs.length e4]).alloc (.cells #[.int .i64 3, .int .i64 v, .string o, .string s, .slice A na c] 88))
  rw [show (w.alloc (.cells #[.slice U1 m.uses.length u1, .slice T1 m.types.length e1, .slice T2 m.funcs.length e2] 26)).heap.size = w.heap.size + 1 by simp only [World.size_alloc]] at hBb2
  have hBb3 := (Box.made ((w.alloc (.cells #[.slice U1 m.uses.length u1, .slice T1 m.types.length e1, .slice T2 m.funcs.length e2] 26)).alloc (.cells #[.slice T3 own.types.length e3, .slice T4 own.funcs.length e4] 31)) 88 #[.int .i64 3, .int .i64 v, .string o, .string s, .slice A na c])
  rw [show ((w.alloc (.cells #[.slice U1 m.uses.length u1, .slice T1 m.types.length e1, .slice T2 m.funcs.length e2] 26)).alloc (.cells #[.slice T3 own.types.length e3, .slice T4 own.funcs.length e4] 31)).heap.size = w.heap.size + 1 + 1 by simp only [World.size_alloc]] at hBb3
  have hbb : Below w.heap.size w (((w.alloc (.cells #[.slice U1 m.uses.length u1, .slice T1 m.types.length e1, .slice T2 m.funcs.length e2] 26)).alloc (.cells #[.slice T3 own.types.length e3, .slice T4 own.funcs.length e4] 31)).alloc (.cells #[.int .i64 3, .int .i64 v, .string o, .string s, .slice A na c] 88)) := by go_grown
  have hzb : (((w.alloc (.cells #[.slice U1 m.uses.length u1, .slice T1 m.types.length e1, .slice T2 m.funcs.length e2] 26)).alloc (.cells #[.slice T3 own.types.length e3, .slice T4 own.funcs.length e4] 31)).alloc (.cells #[.int .i64 3, .int .i64 v, .string o, .string s, .slice A na c] 88)).heap.size = w.heap.size + 1 + 1 + 1 := by simp only [World.size_alloc]
  generalize ((w.alloc (.cells #[.slice U1 m.uses.length u1, .slice T1 m.types.length e1, .slice T2 m.funcs.length e2] 26)).alloc (.cells #[.slice T3 own.types.length e3, .slice T4 own.funcs.length e4] 31)).alloc (.cells #[.int .i64 3, .int .i64 v, .string o, .string s, .slice A na c] 88) = W1 at hBb1 hBb2 hBb3 hbb hzb ⊢
  have x0 := hBb3.at_ 0 _ rfl
  have HB3 := Lib.hid hBb3; have HB := Lib.hid hbb
  clear hBb3 hbb
  clear hBb1 hBb2 hzb
  go_wp2_with fail
  go_loopg [12] ps.length (fun gg s12 wr => ∃ kk : Nat, kk ≤ ps.length ∧ ps.length - kk ≤ gg ∧ s12 = .int .i64 kk ∧ Aside (∀ j, j < kk → ∀ y, ps[j]? = some y → eqB y.name s = false) ∧ Aside (Below W1.heap.size W1 wr))
  case atStart => exact ⟨0, Nat.zero_le _, by omega, rfl, aside (fun j hj => absurd hj (Nat.not_lt_zero _)), aside (Below.refl _ _)⟩
  case round =>
    obtain ⟨kk, hkk, hg, rfl, hal, BW⟩ := hrel
    have hbw := HB.out.trans (BW.out.mono HB.out.size)
    clear x0
    by_cases hlt : kk < ps.length
    · have hltz : (kk : Int) < (ps.length : Int) := by omega
      obtain ⟨b1, off, ds, rfl, hbF, hds, ⟨rfl, _⟩, hcell⟩ := (HP.out.up KnownR.stays hF hbw).at_ (k := kk) hlt
      have hc0 := hcell 0 _ rfl
      have hc1 := hcell 1 _ rfl
      simp only [Nat.add_zero] at hc0
      have hB3 := HB3.out.later BW.out HB3.out.lt
      have x3 := hB3.at_ 3 _ rfl
      have hx := List.getElem?_eq_getElem hlt
      generalize ps[kk] = y at *
      have HX := Lib.hid hx; have HBW := Lib.hid hbw
      clear hx hbw
      clear hcell hds hB3 hbF
      cases h1 : (y.name.toList == s.toList) with
      | true =>
        have he := HE.out.symm.trans (known_hit HX.out h1 hal.out)
        subst he
        go_upto_region 10 with fail
        go_quiet (fail)
        go_wp2_with fail
        go_ret2
        exact ⟨rfl, below_drewN HBW.out _⟩
      | false =>
        go_upto_region 10 with fail
        go_quiet (fail)
        go_wp2_with fail
        go_roundg (ps.length - (kk + 1))
        case measure => omega
        case rel =>
          refine ⟨kk + 1, by omega, by omega, by go_num, aside (fun j hj y' hy' => ?_), aside (below_drewN BW.out _)⟩
          by_cases hjk : j = kk
          · subst hjk
            obtain rfl : y = y' := Option.some.inj (HX.out.symm.trans hy')
            exact h1
          · exact hal.out j (by omega) y' hy'
    · have hltz : ¬ (kk : Int) < (ps.length : Int) := by omega
      obtain rfl : kk = ps.length := by omega
      have he := HE.out.symm.trans (known_miss hal.out)
      subst he
      have HBW := Lib.hid hbw
      clear hbw
      go_wp2_with fail
      go_ret2
      exact ⟨rfl, HBW.out⟩
end

end Go.Proofs.YthedfpcdibhfpaaDoor

/- What expressions are: the reference's isOf. -/
namespace Go.Proofs.YthedfpcdibhfpaaDoor
open Go.RowKit Go.Shelf


set_option maxRecDepth 100000 in
set_option maxHeartbeats 8000000 in
theorem isOf_sum (n : Nat) (f : Ex → ByteArray × Int) (m : Module) (l : List Import) (own : Face) (ps : List Known) (ih : IsOfAt n f m l own ps) (hok : ∀ a, okS (f a).1)
    (v : Int) (o s : ByteArray) (args : List Ex) (h8 : args.length ≤ 8) (hall : ∀ a ∈ args, exErr n a = 0) (h2 : args.length = 2)
    (ms : List Value) (lv : Value) (os : List Value) (pv : Value) (A : Option Addr) (c : Nat) (F : Foot) (w : World) (hF : ∀ k, F k → k < w.heap.size) (hm : ModuleR w F ms m) (hl : SliceOf ImportR 4 72 w F lv l) (ho : FaceR w F os own) (hp : SliceOf KnownR 2 32 w F pv ps)
    (hA : SliceOf ExR 5 72 w F (.slice A args.length c) args) :
    Calls Tryd.prog 42 #[.agg ms.toArray, lv, .agg os.toArray, pv, .agg #[.int .i64 5, .int .i64 v, .string o, .string s, .slice A args.length c]] w fun e w' =>
      e = .returned (.tuple #[.string (isArgs f sumR args).1, .int .i64 (isArgs f sumR args).2]) ∧ Below w.heap.size w w' := by
  have hrec := fun a (ha : a ∈ args) ds U (hU : Below w.heap.size w U) (hr : ExR U F ds a) => ih a ms lv os pv ds F U (hall a ha) (foot_up hF hU) (ModuleR.stays.later hm hU hF) (hl.up ImportR.stays hF hU) (FaceR.stays.later ho hU hF) (hp.up KnownR.stays hF hU) hr
  obtain ⟨U1, u1, T1, e1, T2, e2, rfl, _⟩ := ModuleR.form hm
  obtain ⟨L1, l1, rfl, _⟩ := hl.form
  obtain ⟨T3, e3, T4, e4, rfl⟩ := FaceR.form ho
  obtain ⟨P1, p1, rfl, _⟩ := hp.form
  have hAc : args.length ≤ c ∧ c ≤ 9223372036854775807 := by
    obtain ⟨A', c', e, h1, h2, _⟩ := hA
    injection e with e1 e2 e3
    subst e3
    exact ⟨h1, by unfold maxLen at h2; omega⟩
  have hbad := fun (k : Nat) (a : Ex) (z : Int) => isArgs_bad (f := f) (fin := sumR) (args := args) (k := k) (a := a) (z := z)
  have hgood := isArgs_good (f := f) (fin := sumR) (args := args)
  generalize isArgs f sumR args = E at hbad hgood ⊢
  have H2 := Lib.hid h2; have HREC := Lib.hid hrec; have HA := Lib.hid hA; have HBAD := Lib.hid hbad; have HGOOD := Lib.hid hgood; have HOK := Lib.hid hok
  clear h2 hrec hA hbad hgood hok
  clear hm hl ho hp ih hall
  go_enter Tryd.func42, Tryd.ntmps42
  go_upto_region 1 with fail
  have hBb1 := (((Box.made w 26 #[.slice U1 m.uses.length u1, .slice T1 m.types.length e1, .slice T2 m.funcs.length e2]).alloc (.cells #[.slice T3 own.types.length e3, .slice T4 own.funcs.length e4] 31)).alloc (.cells #[.int .i64 5, .int .i64 v, .string o, .string s, .slice A args.length c] 88))
  have hBb2 := ((Box.made (w.alloc (.cells #[.slice U1 m.uses.length u1, .slice T1 m.types.length e1, .slice T2 m.funcs.length e2] 26)) 31 #[.slice T3 own.types.length e3, .slice T4 own.funcs.length e4]).alloc (.cells #[.int .i64 5, .int .i64 v, .string o, .string s, .slice A args.length c] 88))
  rw [show (w.alloc (.cells #[.slice U1 m.uses.length u1, .slice T1 m.types.length e1, .slice T2 m.funcs.length e2] 26)).heap.size = w.heap.size + 1 by simp only [World.size_alloc]] at hBb2
  have hBb3 := (Box.made ((w.alloc (.cells #[.slice U1 m.uses.length u1, .slice T1 m.types.length e1, .slice T2 m.funcs.length e2] 26)).alloc (.cells #[.slice T3 own.types.length e3, .slice T4 own.funcs.length e4] 31)) 88 #[.int .i64 5, .int .i64 v, .string o, .string s, .slice A args.length c])
  rw [show ((w.alloc (.cells #[.slice U1 m.uses.length u1, .slice T1 m.types.length e1, .slice T2 m.funcs.length e2] 26)).alloc (.cells #[.slice T3 own.types.length e3, .slice T4 own.funcs.length e4] 31)).heap.size = w.heap.size + 1 + 1 by simp only [World.size_alloc]] at hBb3
  have hbb : Below w.heap.size w (((w.alloc (.cells #[.slice U1 m.uses.length u1, .slice T1 m.types.length e1, .slice T2 m.funcs.length e2] 26)).alloc (.cells #[.slice T3 own.types.length e3, .slice T4 own.funcs.length e4] 31)).alloc (.cells #[.int .i64 5, .int .i64 v, .string o, .string s, .slice A args.length c] 88)) := by go_grown
  have hzb : (((w.alloc (.cells #[.slice U1 m.uses.length u1, .slice T1 m.types.length e1, .slice T2 m.funcs.length e2] 26)).alloc (.cells #[.slice T3 own.types.length e3, .slice T4 own.funcs.length e4] 31)).alloc (.cells #[.int .i64 5, .int .i64 v, .string o, .string s, .slice A args.length c] 88)).heap.size = w.heap.size + 1 + 1 + 1 := by simp only [World.size_alloc]
  generalize ((w.alloc (.cells #[.slice U1 m.uses.length u1, .slice T1 m.types.length e1, .slice T2 m.funcs.length e2] 26)).alloc (.cells #[.slice T3 own.types.length e3, .slice T4 own.funcs.length e4] 31)).alloc (.cells #[.int .i64 5, .int .i64 v, .string o, .string s, .slice A args.length c] 88) = W1 at hBb1 hBb2 hBb3 hbb hzb ⊢
  have x0 := hBb3.at_ 0 _ rfl
  have x4 := hBb3.at_ 4 _ rfl
  go_upto_region 14 with fail
  have hBg := Box.made W1 77 #[.string ⟨#[]⟩, .slice none 0 0, .string ⟨#[]⟩]
  have hbg : Below W1.heap.size W1 (W1.alloc (.cells #[.string ⟨#[]⟩, .slice none 0 0, .string ⟨#[]⟩] 77)) := by go_grown
  have hzg : (W1.alloc (.cells #[.string ⟨#[]⟩, .slice none 0 0, .string ⟨#[]⟩] 77)).heap.size = W1.heap.size + 1 := by simp
  generalize W1.alloc (.cells #[.string ⟨#[]⟩, .slice none 0 0, .string ⟨#[]⟩] 77) = W2 at hBg hbg hzg ⊢
  have hB1 := hBb1.later hbg hBb1.lt
  have hB2 := hBb2.later hbg hBb2.lt
  have hB3 := hBb3.later hbg hBb3.lt
  have hb2 := hbb.trans (hbg.mono hbb.size)
  clear x0 x4
  have x0 := hB3.at_ 0 _ rfl
  have x4 := hB3.at_ 4 _ rfl
  have HB1 := Lib.hid hB1; have HB2 := Lib.hid hB2; have HB3 := Lib.hid hB3; have HBW2 := Lib.hid hb2
  clear hB1 hB2 hB3 hb2
  clear hBb1 hBb2 hBb3 hbb hzb hBg hbg hzg
  go_wp2_with fail
  go_loopg [17, 18, 19, 20] args.length (fun gg s17 s18 _ _ wr => ∃ (jj c : Nat) (B : Option Addr) (L : List ByteArray), jj ≤ args.length ∧ args.length - jj ≤ gg ∧ s18 = .int .i64 jj ∧ s17 = .slice B L.length c ∧ Aside (L = (args.take jj).map fun a => (f a).1) ∧ Aside (∀ j, j < jj → ∀ y, args[j]? = some y → (f y).2 = 0) ∧
    Aside (Owns StrR 1 9 W2.heap.size wr none_ (.slice B L.length c) L) ∧ Aside (Below W2.heap.size W2 wr))
  case atStart => exact ⟨0, 0, none, [], Nat.zero_le _, by omega, rfl, rfl, aside rfl, aside (fun j hj => absurd hj (Nat.not_lt_zero _)), aside Owns.nil_, aside (Below.refl _ _)⟩
  case round =>
    obtain ⟨jj, c', B, L, hjj, hg, rfl, rfl, hL, hz, hO, BW⟩ := hrel
    have hbw := HBW2.out.trans (BW.out.mono HBW2.out.size)
    have hB1 := HB1.out.later BW.out HB1.out.lt
    have hB2 := HB2.out.later BW.out HB2.out.lt
    have hB3 := HB3.out.later BW.out HB3.out.lt
    clear x0 x4
    have x0 := hB3.at_ 0 _ rfl
    have x4 := hB3.at_ 4 _ rfl
    by_cases hlt : jj < args.length
    · have hltz : (jj : Int) < (args.length : Int) := by omega
      have hLl : L.length = jj := by rw [hL.out]; simp; omega
      obtain ⟨b1, off, ds, rfl, hbF, hds, hr, hcell⟩ := (HA.out.up ExR.stays hF hbw).at_ (k := jj) hlt
      have hx := List.getElem?_eq_getElem hlt
      have hxm := List.getElem_mem hlt
      generalize args[jj] = a at hx hxm hr
      obtain ⟨A2, c2, rfl⟩ := ExR.form hr
      have hc0 := hcell 0 _ rfl
      have hc1 := hcell 1 _ rfl
      have hc2 := hcell 2 _ rfl
      have hc3 := hcell 3 _ rfl
      have hc4 := hcell 4 _ rfl
      simp only [Nat.add_zero] at hc0
      have hbl : b1 < wr.heap.size := foot_up hF hbw _ hbF
      have hrc := fun U (hU : Below wr.heap.size wr U) => HREC.out a hxm _ U (below_step hbw hU) (ExR.stays.later hr hU (foot_up hF hbw))
      have hoT := HOK.out a
      obtain ⟨T, hT⟩ : ∃ z, (f a).1 = z := ⟨_, rfl⟩
      obtain ⟨z, hzz⟩ : ∃ z, (f a).2 = z := ⟨_, rfl⟩
      rw [hT, hzz] at hrc
      rw [hT] at hoT
      have y0 := hB1.at_ 0 _ rfl
      have y1 := hB1.at_ 1 _ rfl
      have y2 := hB1.at_ 2 _ rfl
      have q0 := hB2.at_ 0 _ rfl
      have q1 := hB2.at_ 1 _ rfl
      have l1' := hB1.lt
      have l2' := hB2.lt
      have l3' := hB3.lt
      have hdr : Below wr.heap.size wr wr.drew := by go_grown
      have HS4 := Lib.hid (show ∀ w', Below wr.heap.size wr w' → (w'.cell? ⟨w.heap.size, 0, none⟩ = some (.slice U1 m.uses.length u1) ∧ w'.cell? ⟨w.heap.size, 1, none⟩ = some (.slice T1 m.types.length e1) ∧ w'.cell? ⟨w.heap.size, 2, none⟩ = some (.slice T2 m.funcs.length e2) ∧ w'.cell? ⟨w.heap.size + 1, 0, none⟩ = some (.slice T3 own.types.length e3) ∧ w'.cell? ⟨w.heap.size + 1, 1, none⟩ = some (.slice T4 own.funcs.length e4) ∧ w'.cell? ⟨w.heap.size + 1 + 1, 4, none⟩ = some (.slice (some ⟨b1, off, none⟩) args.length c) ∧ w'.cell? ⟨b1, off + jj * 5, none⟩ = some (.int .i64 a.kind) ∧ w'.cell? ⟨b1, off + jj * 5 + 1, none⟩ = some (.int .i64 a.n) ∧ w'.cell? ⟨b1, off + jj * 5 + 2, none⟩ = some (.string a.of_) ∧ w'.cell? ⟨b1, off + jj * 5 + 3, none⟩ = some (.string a.s) ∧ w'.cell? ⟨b1, off + jj * 5 + 4, none⟩ = some (.slice A2 a.args.length c2)) from fun w' h => ⟨(h.cell (p := ⟨w.heap.size, 0, none⟩) l1').trans y0, (h.cell (p := ⟨w.heap.size, 1, none⟩) l1').trans y1, (h.cell (p := ⟨w.heap.size, 2, none⟩) l1').trans y2, (h.cell (p := ⟨w.heap.size + 1, 0, none⟩) l2').trans q0, (h.cell (p := ⟨w.heap.size + 1, 1, none⟩) l2').trans q1, (h.cell (p := ⟨w.heap.size + 1 + 1, 4, none⟩) l3').trans x4, (h.cell (p := ⟨b1, off + jj * 5, none⟩) hbl).trans hc0, (h.cell (p := ⟨b1, off + jj * 5 + 1, none⟩) hbl).trans hc1, (h.cell (p := ⟨b1, off + jj * 5 + 2, none⟩) hbl).trans hc2, (h.cell (p := ⟨b1, off + jj * 5 + 3, none⟩) hbl).trans hc3, (h.cell (p := ⟨b1, off + jj * 5 + 4, none⟩) hbl).trans hc4⟩)
      have HX := Lib.hid hx; have HRC := Lib.hid hrc; have HT := Lib.hid hT; have HZ := Lib.hid hzz; have HBk := Lib.hid hdr; have HBw := Lib.hid hbw; have HLl := Lib.hid hLl
      clear hx hrc hT hzz hdr hbw hLl
      go_upto_region 28 with fail
      clear hcell hds hr hxm hB1 hB2 hB3 hbF y0 y1 y2 q0 q1 x0 x4 hc0 hc1 hc2 hc3 hc4
      by_cases hz0 : z = 0
      · subst hz0
        go_region_held3 (fun w' => w'.cell? ⟨w.heap.size, 0, none⟩ = some (.slice U1 m.uses.length u1) ∧ w'.cell? ⟨w.heap.size, 1, none⟩ = some (.slice T1 m.types.length e1) ∧ w'.cell? ⟨w.heap.size, 2, none⟩ = some (.slice T2 m.funcs.length e2) ∧ w'.cell? ⟨w.heap.size + 1, 0, none⟩ = some (.slice T3 own.types.length e3) ∧ w'.cell? ⟨w.heap.size + 1, 1, none⟩ = some (.slice T4 own.funcs.length e4) ∧ w'.cell? ⟨w.heap.size + 1 + 1, 4, none⟩ = some (.slice (some ⟨b1, off, none⟩) args.length c) ∧ w'.cell? ⟨b1, off + jj * 5, none⟩ = some (.int .i64 a.kind) ∧ w'.cell? ⟨b1, off + jj * 5 + 1, none⟩ = some (.int .i64 a.n) ∧ w'.cell? ⟨b1, off + jj * 5 + 2, none⟩ = some (.string a.of_) ∧ w'.cell? ⟨b1, off + jj * 5 + 3, none⟩ = some (.string a.s) ∧ w'.cell? ⟨b1, off + jj * 5 + 4, none⟩ = some (.slice A2 a.args.length c2))
          (exact HS4.out _ (by first | exact HBk.out | exact HBk.out.alloc HBk.out.size _ | (go_grown; done) | exact (HBk.out.alloc HBk.out.size _).alloc (HBk.out.alloc HBk.out.size _).size _ | exact HBk.out.setCell (Nat.le_refl _) _ | exact (HBk.out.setCell (Nat.le_refl _) _).setCell (Nat.le_refl _) _))
          ((go_at_call 42; (with_reducible refine (HRC.out _ HBk.out).mono ?_); rintro e w7 ⟨rfl, hb9⟩; have hb8 := below_step HBk.out hb9; have HBk := Lib.hid hb8; clear hb8 hb9))
        all_goals
          have hO5 := hO.out.below StrR.stays HBk.out
          have hb15 := BW.out.trans (HBk.out.mono BW.out.size)
          have HO5 := Lib.hid hO5; have HB5 := Lib.hid hb15
          clear hO5 hb15
          go_wp2_with (at_builtin; go_must ((refine wpList_push StrR.stays (.string ⟨#[]⟩) [.string T] T rfl rfl Tryd.underlying22 (bytes := 16) (by kernel_rfl) HO5.out rfl rfl (by decide) rfl rfl (show StrR w7 none_ _ _ from ⟨rfl, hoT⟩) (StrR.one (w := w7) (F := none_) _ _ ⟨rfl, hoT⟩) (fun k hk => hk.elim) (by unfold maxLen; have := HLl.out; omega) (by have := HLl.out; omega) (by have := HB5.out.size; omega) ?_); (intro A6 c6 W6 hO6 hgr _; have hb6 := HB5.out.trans (hgr.below (B := W2.heap.size) (Nat.le_refl _) HB5.out.size); have HO6 := Lib.hid hO6; have HB6 := Lib.hid hb6; clear hO6 hgr hb6)))
          go_roundg (args.length - (jj + 1))
          case measure => omega
          case rel =>
            refine ⟨jj + 1, c6, A6, L ++ [T], by omega, by omega, by go_num, by simp, aside ?_, aside (good_succ (g := fun a => (f a).2) HX.out HZ.out hz.out), aside ?_, aside HB6.out⟩
            · rw [List.take_add_one, HX.out, List.map_append, hL.out]
              simp [HT.out]
            · have h := Owns.wider StrR.stays HO6.out (F' := none_) (fun k hk => hk.elim id id) (fun k hk => hk.elim)
              simpa using h
      · have hzb : (z == 0) = false := by simp [hz0]
        have he := HBAD.out jj a z HX.out HZ.out hz0 hz.out
        subst he
        go_region_held3 (fun w' => w'.cell? ⟨w.heap.size, 0, none⟩ = some (.slice U1 m.uses.length u1) ∧ w'.cell? ⟨w.heap.size, 1, none⟩ = some (.slice T1 m.types.length e1) ∧ w'.cell? ⟨w.heap.size, 2, none⟩ = some (.slice T2 m.funcs.length e2) ∧ w'.cell? ⟨w.heap.size + 1, 0, none⟩ = some (.slice T3 own.types.length e3) ∧ w'.cell? ⟨w.heap.size + 1, 1, none⟩ = some (.slice T4 own.funcs.length e4) ∧ w'.cell? ⟨w.heap.size + 1 + 1, 4, none⟩ = some (.slice (some ⟨b1, off, none⟩) args.length c) ∧ w'.cell? ⟨b1, off + jj * 5, none⟩ = some (.int .i64 a.kind) ∧ w'.cell? ⟨b1, off + jj * 5 + 1, none⟩ = some (.int .i64 a.n) ∧ w'.cell? ⟨b1, off + jj * 5 + 2, none⟩ = some (.string a.of_) ∧ w'.cell? ⟨b1, off + jj * 5 + 3, none⟩ = some (.string a.s) ∧ w'.cell? ⟨b1, off + jj * 5 + 4, none⟩ = some (.slice A2 a.args.length c2))
          (exact HS4.out _ (by first | exact HBk.out | exact HBk.out.alloc HBk.out.size _ | (go_grown; done) | exact (HBk.out.alloc HBk.out.size _).alloc (HBk.out.alloc HBk.out.size _).size _ | exact HBk.out.setCell (Nat.le_refl _) _ | exact (HBk.out.setCell (Nat.le_refl _) _).setCell (Nat.le_refl _) _))
          ((go_at_call 42; (with_reducible refine (HRC.out _ HBk.out).mono ?_); rintro e w7 ⟨rfl, hb9⟩; have hb8 := below_step HBk.out hb9; have HBk := Lib.hid hb8; clear hb8 hb9))
        all_goals
          go_wp2_with fail
          go_ret2
          exact ⟨rfl, below_step HBw.out HBk.out⟩
    · have hltz : ¬ (jj : Int) < (args.length : Int) := by omega
      obtain rfl : jj = args.length := by omega
      obtain ⟨W7, rfl⟩ : ∃ W, W = wr := ⟨_, rfl⟩
      have he := HGOOD.out hz.out
      have hL2 : L = args.map fun a => (f a).1 := by rw [hL.out, List.take_length]
      have hLl : L.length = args.length := by rw [hL2, List.length_map]
      rw [← hL2] at he
      have hLok : ∀ s ∈ L, okS s := fun s hs => by rw [hL2] at hs; obtain ⟨a, _, rfl⟩ := List.mem_map.1 hs; exact HOK.out a
      have hsl := hO.out.slice StrR.stays (by_ := 16) (F' := old W7.heap.size) (fun k hk => hk.elim) (fun k h1 h2 => h2) (by omega) (by omega)
      obtain ⟨p, q, rfl⟩ := two_of (hLl.trans H2.out)
      have hop := hLok p (by simp)
      have hoq := hLok q (by simp)
      obtain ⟨b1, off, ds, hB, hbF, hds, ⟨rfl, _⟩, hcell⟩ := hsl.at_ (k := 0) (by simp)
      have hp0 := hcell 0 _ rfl
      obtain ⟨b2, off2, ds2, hB', hbF2, hds2, ⟨rfl, _⟩, hcell2⟩ := hsl.at_ (k := 1) (by simp)
      have hq0 := hcell2 0 _ rfl
      subst hB
      injection hB' with hB'
      injection hB' with e1 e2
      subst e1; subst e2
      simp only [Nat.zero_mul, Nat.one_mul, Nat.add_zero, List.getElem_cons_zero, List.getElem_cons_succ] at hp0 hq0
      have HE := Lib.hid he; have HBW := Lib.hid hbw
      clear he hbw
      clear hcell hcell2 hds hds2 hsl hL2 hLl hLok hz hO hB1 hB2 hB3
      have he : E = if (p.toList == q.toList) = true ∧ ((p.toList == [105, 110, 116]) = true ∨ (p.toList == [116, 101, 120, 116]) = true) then (p, 0) else (⟨#[]⟩, 8) := by rw [HE.out]; unfold sumR nth eqB; rw [intT_list, textT_list]; rfl
      simp only [List.length_cons, List.length_nil, Nat.zero_add] at *
      cases h1 : (p.toList == q.toList)
      all_goals cases h3 : (p.toList == [105, 110, 116])
      all_goals cases h4 : (p.toList == [116, 101, 120, 116])
      all_goals
        have hE2 := he
        rw [h1, h3, h4] at hE2
        simp at hE2
        subst hE2
        clear he
        go_upto_region 39 with fail
        go_quiet (fail)
        go_wp2_with fail
        go_ret2
        exact ⟨rfl, below_drewN HBW.out _⟩

end Go.Proofs.YthedfpcdibhfpaaDoor

/- What expressions are: the reference's isOf. -/
namespace Go.Proofs.YthedfpcdibhfpaaDoor
open Go.RowKit Go.Shelf


set_option maxRecDepth 100000 in
set_option maxHeartbeats 8000000 in
theorem isOf_items (n : Nat) (f : Ex → ByteArray × Int) (m : Module) (l : List Import) (own : Face) (ps : List Known) (ih : IsOfAt n f m l own ps) (hok : ∀ a, okS (f a).1)
    (v : Int) (o s : ByteArray) (args : List Ex) (h8 : args.length ≤ 8) (hall : ∀ a ∈ args, exErr n a = 0) (h2 : 1 ≤ args.length)
    (ms : List Value) (lv : Value) (os : List Value) (pv : Value) (A : Option Addr) (c : Nat) (F : Foot) (w : World) (hF : ∀ k, F k → k < w.heap.size) (hm : ModuleR w F ms m) (hl : SliceOf ImportR 4 72 w F lv l) (ho : FaceR w F os own) (hp : SliceOf KnownR 2 32 w F pv ps)
    (hA : SliceOf ExR 5 72 w F (.slice A args.length c) args) :
    Calls Tryd.prog 42 #[.agg ms.toArray, lv, .agg os.toArray, pv, .agg #[.int .i64 6, .int .i64 v, .string o, .string s, .slice A args.length c]] w fun e w' =>
      e = .returned (.tuple #[.string (isArgs f itemsR args).1, .int .i64 (isArgs f itemsR args).2]) ∧ Below w.heap.size w w' := by
  have hrec := fun a (ha : a ∈ args) ds U (hU : Below w.heap.size w U) (hr : ExR U F ds a) => ih a ms lv os pv ds F U (hall a ha) (foot_up hF hU) (ModuleR.stays.later hm hU hF) (hl.up ImportR.stays hF hU) (FaceR.stays.later ho hU hF) (hp.up KnownR.stays hF hU) hr
  obtain ⟨U1, u1, T1, e1, T2, e2, rfl, _⟩ := ModuleR.form hm
  obtain ⟨L1, l1, rfl, _⟩ := hl.form
  obtain ⟨T3, e3, T4, e4, rfl⟩ := FaceR.form ho
  obtain ⟨P1, p1, rfl, _⟩ := hp.form
  have hAc : args.length ≤ c ∧ c ≤ 9223372036854775807 := by
    obtain ⟨A', c', e, h1, h2, _⟩ := hA
    injection e with e1 e2 e3
    subst e3
    exact ⟨h1, by unfold maxLen at h2; omega⟩
  have hbad := fun (k : Nat) (a : Ex) (z : Int) => isArgs_bad (f := f) (fin := itemsR) (args := args) (k := k) (a := a) (z := z)
  have hgood := isArgs_good (f := f) (fin := itemsR) (args := args)
  generalize isArgs f itemsR args = E at hbad hgood ⊢
  have H2 := Lib.hid h2; have HREC := Lib.hid hrec; have HA := Lib.hid hA; have HBAD := Lib.hid hbad; have HGOOD := Lib.hid hgood; have HOK := Lib.hid hok
  clear h2 hrec hA hbad hgood hok
  clear hm hl ho hp ih hall
  go_enter Tryd.func42, Tryd.ntmps42
  go_upto_region 1 with fail
  have hBb1 := (((Box.made w 26 #[.slice U1 m.uses.length u1, .slice T1 m.types.length e1, .slice T2 m.funcs.length e2]).alloc (.cells #[.slice T3 own.types.length e3, .slice T4 own.funcs.length e4] 31)).alloc (.cells #[.int .i64 6, .int .i64 v, .string o, .string s, .slice A args.length c] 88))
  have hBb2 := ((Box.made (w.alloc (.cells #[.slice U1 m.uses.length u1, .slice T1 m.types.length e1, .slice T2 m.funcs.length e2] 26)) 31 #[.slice T3 own.types.length e3, .slice T4 own.funcs.length e4]).alloc (.cells #[.int .i64 6, .int .i64 v, .string o, .string s, .slice A args.length c] 88))
  rw [show (w.alloc (.cells #[.slice U1 m.uses.length u1, .slice T1 m.types.length e1, .slice T2 m.funcs.length e2] 26)).heap.size = w.heap.size + 1 by simp only [World.size_alloc]] at hBb2
  have hBb3 := (Box.made ((w.alloc (.cells #[.slice U1 m.uses.length u1, .slice T1 m.types.length e1, .slice T2 m.funcs.length e2] 26)).alloc (.cells #[.slice T3 own.types.length e3, .slice T4 own.funcs.length e4] 31)) 88 #[.int .i64 6, .int .i64 v, .string o, .string s, .slice A args.length c])
  rw [show ((w.alloc (.cells #[.slice U1 m.uses.length u1, .slice T1 m.types.length e1, .slice T2 m.funcs.length e2] 26)).alloc (.cells #[.slice T3 own.types.length e3, .slice T4 own.funcs.length e4] 31)).heap.size = w.heap.size + 1 + 1 by simp only [World.size_alloc]] at hBb3
  have hbb : Below w.heap.size w (((w.alloc (.cells #[.slice U1 m.uses.length u1, .slice T1 m.types.length e1, .slice T2 m.funcs.length e2] 26)).alloc (.cells #[.slice T3 own.types.length e3, .slice T4 own.funcs.length e4] 31)).alloc (.cells #[.int .i64 6, .int .i64 v, .string o, .string s, .slice A args.length c] 88)) := by go_grown
  have hzb : (((w.alloc (.cells #[.slice U1 m.uses.length u1, .slice T1 m.types.length e1, .slice T2 m.funcs.length e2] 26)).alloc (.cells #[.slice T3 own.types.length e3, .slice T4 own.funcs.length e4] 31)).alloc (.cells #[.int .i64 6, .int .i64 v, .string o, .string s, .slice A args.length c] 88)).heap.size = w.heap.size + 1 + 1 + 1 := by simp only [World.size_alloc]
  generalize ((w.alloc (.cells #[.slice U1 m.uses.length u1, .slice T1 m.types.length e1, .slice T2 m.funcs.length e2] 26)).alloc (.cells #[.slice T3 own.types.length e3, .slice T4 own.funcs.length e4] 31)).alloc (.cells #[.int .i64 6, .int .i64 v, .string o, .string s, .slice A args.length c] 88) = W1 at hBb1 hBb2 hBb3 hbb hzb ⊢
  have x0 := hBb3.at_ 0 _ rfl
  have x4 := hBb3.at_ 4 _ rfl
  go_upto_region 14 with fail
  have hBg := Box.made W1 77 #[.string ⟨#[]⟩, .slice none 0 0, .string ⟨#[]⟩]
  have hbg : Below W1.heap.size W1 (W1.alloc (.cells #[.string ⟨#[]⟩, .slice none 0 0, .string ⟨#[]⟩] 77)) := by go_grown
  have hzg : (W1.alloc (.cells #[.string ⟨#[]⟩, .slice none 0 0, .string ⟨#[]⟩] 77)).heap.size = W1.heap.size + 1 := by simp
  generalize W1.alloc (.cells #[.string ⟨#[]⟩, .slice none 0 0, .string ⟨#[]⟩] 77) = W2 at hBg hbg hzg ⊢
  have hB1 := hBb1.later hbg hBb1.lt
  have hB2 := hBb2.later hbg hBb2.lt
  have hB3 := hBb3.later hbg hBb3.lt
  have hb2 := hbb.trans (hbg.mono hbb.size)
  clear x0 x4
  have x0 := hB3.at_ 0 _ rfl
  have x4 := hB3.at_ 4 _ rfl
  have HB1 := Lib.hid hB1; have HB2 := Lib.hid hB2; have HB3 := Lib.hid hB3; have HBW2 := Lib.hid hb2
  clear hB1 hB2 hB3 hb2
  clear hBb1 hBb2 hBb3 hbb hzb hBg hbg hzg
  go_wp2_with fail
  go_loopg [17, 18, 19, 20] args.length (fun gg s17 s18 _ _ wr => ∃ (jj c : Nat) (B : Option Addr) (L : List ByteArray), jj ≤ args.length ∧ args.length - jj ≤ gg ∧ s18 = .int .i64 jj ∧ s17 = .slice B L.length c ∧ Aside (L = (args.take jj).map fun a => (f a).1) ∧ Aside (∀ j, j < jj → ∀ y, args[j]? = some y → (f y).2 = 0) ∧
    Aside (Owns StrR 1 9 W2.heap.size wr none_ (.slice B L.length c) L) ∧ Aside (Below W2.heap.size W2 wr))
  case atStart => exact ⟨0, 0, none, [], Nat.zero_le _, by omega, rfl, rfl, aside rfl, aside (fun j hj => absurd hj (Nat.not_lt_zero _)), aside Owns.nil_, aside (Below.refl _ _)⟩
  case round =>
    obtain ⟨jj, c', B, L, hjj, hg, rfl, rfl, hL, hz, hO, BW⟩ := hrel
    have hbw := HBW2.out.trans (BW.out.mono HBW2.out.size)
    have hB1 := HB1.out.later BW.out HB1.out.lt
    have hB2 := HB2.out.later BW.out HB2.out.lt
    have hB3 := HB3.out.later BW.out HB3.out.lt
    clear x0 x4
    have x0 := hB3.at_ 0 _ rfl
    have x4 := hB3.at_ 4 _ rfl
    by_cases hlt : jj < args.length
    · have hltz : (jj : Int) < (args.length : Int) := by omega
      have hLl : L.length = jj := by rw [hL.out]; simp; omega
      obtain ⟨b1, off, ds, rfl, hbF, hds, hr, hcell⟩ := (HA.out.up ExR.stays hF hbw).at_ (k := jj) hlt
      have hx := List.getElem?_eq_getElem hlt
      have hxm := List.getElem_mem hlt
      generalize args[jj] = a at hx hxm hr
      obtain ⟨A2, c2, rfl⟩ := ExR.form hr
      have hc0 := hcell 0 _ rfl
      have hc1 := hcell 1 _ rfl
      have hc2 := hcell 2 _ rfl
      have hc3 := hcell 3 _ rfl
      have hc4 := hcell 4 _ rfl
      simp only [Nat.add_zero] at hc0
      have hbl : b1 < wr.heap.size := foot_up hF hbw _ hbF
      have hrc := fun U (hU : Below wr.heap.size wr U) => HREC.out a hxm _ U (below_step hbw hU) (ExR.stays.later hr hU (foot_up hF hbw))
      have hoT := HOK.out a
      obtain ⟨T, hT⟩ : ∃ z, (f a).1 = z := ⟨_, rfl⟩
      obtain ⟨z, hzz⟩ : ∃ z, (f a).2 = z := ⟨_, rfl⟩
      rw [hT, hzz] at hrc
      rw [hT] at hoT
      have y0 := hB1.at_ 0 _ rfl
      have y1 := hB1.at_ 1 _ rfl
      have y2 := hB1.at_ 2 _ rfl
      have q0 := hB2.at_ 0 _ rfl
      have q1 := hB2.at_ 1 _ rfl
      have l1' := hB1.lt
      have l2' := hB2.lt
      have l3' := hB3.lt
      have hdr : Below wr.heap.size wr wr.drew := by go_grown
      have HS4 := Lib.hid (show ∀ w', Below wr.heap.size wr w' → (w'.cell? ⟨w.heap.size, 0, none⟩ = some (.slice U1 m.uses.length u1) ∧ w'.cell? ⟨w.heap.size, 1, none⟩ = some (.slice T1 m.types.length e1) ∧ w'.cell? ⟨w.heap.size, 2, none⟩ = some (.slice T2 m.funcs.length e2) ∧ w'.cell? ⟨w.heap.size + 1, 0, none⟩ = some (.slice T3 own.types.length e3) ∧ w'.cell? ⟨w.heap.size + 1, 1, none⟩ = some (.slice T4 own.funcs.length e4) ∧ w'.cell? ⟨w.heap.size + 1 + 1, 4, none⟩ = some (.slice (some ⟨b1, off, none⟩) args.length c) ∧ w'.cell? ⟨b1, off + jj * 5, none⟩ = some (.int .i64 a.kind) ∧ w'.cell? ⟨b1, off + jj * 5 + 1, none⟩ = some (.int .i64 a.n) ∧ w'.cell? ⟨b1, off + jj * 5 + 2, none⟩ = some (.string a.of_) ∧ w'.cell? ⟨b1, off + jj * 5 + 3, none⟩ = some (.string a.s) ∧ w'.cell? ⟨b1, off + jj * 5 + 4, none⟩ = some (.slice A2 a.args.length c2)) from fun w' h => ⟨(h.cell (p := ⟨w.heap.size, 0, none⟩) l1').trans y0, (h.cell (p := ⟨w.heap.size, 1, none⟩) l1').trans y1, (h.cell (p := ⟨w.heap.size, 2, none⟩) l1').trans y2, (h.cell (p := ⟨w.heap.size + 1, 0, none⟩) l2').trans q0, (h.cell (p := ⟨w.heap.size + 1, 1, none⟩) l2').trans q1, (h.cell (p := ⟨w.heap.size + 1 + 1, 4, none⟩) l3').trans x4, (h.cell (p := ⟨b1, off + jj * 5, none⟩) hbl).trans hc0, (h.cell (p := ⟨b1, off + jj * 5 + 1, none⟩) hbl).trans hc1, (h.cell (p := ⟨b1, off + jj * 5 + 2, none⟩) hbl).trans hc2, (h.cell (p := ⟨b1, off + jj * 5 + 3, none⟩) hbl).trans hc3, (h.cell (p := ⟨b1, off + jj * 5 + 4, none⟩) hbl).trans hc4⟩)
      have HX := Lib.hid hx; have HRC := Lib.hid hrc; have HT := Lib.hid hT; have HZ := Lib.hid hzz; have HBk := Lib.hid hdr; have HBw := Lib.hid hbw; have HLl := Lib.hid hLl
      clear hx hrc hT hzz hdr hbw hLl
      go_upto_region 28 with fail
      clear hcell hds hr hxm hB1 hB2 hB3 hbF y0 y1 y2 q0 q1 x0 x4 hc0 hc1 hc2 hc3 hc4
      by_cases hz0 : z = 0
      · subst hz0
        go_region_held3 (fun w' => w'.cell? ⟨w.heap.size, 0, none⟩ = some (.slice U1 m.uses.length u1) ∧ w'.cell? ⟨w.heap.size, 1, none⟩ = some (.slice T1 m.types.length e1) ∧ w'.cell? ⟨w.heap.size, 2, none⟩ = some (.slice T2 m.funcs.length e2) ∧ w'.cell? ⟨w.heap.size + 1, 0, none⟩ = some (.slice T3 own.types.length e3) ∧ w'.cell? ⟨w.heap.size + 1, 1, none⟩ = some (.slice T4 own.funcs.length e4) ∧ w'.cell? ⟨w.heap.size + 1 + 1, 4, none⟩ = some (.slice (some ⟨b1, off, none⟩) args.length c) ∧ w'.cell? ⟨b1, off + jj * 5, none⟩ = some (.int .i64 a.kind) ∧ w'.cell? ⟨b1, off + jj * 5 + 1, none⟩ = some (.int .i64 a.n) ∧ w'.cell? ⟨b1, off + jj * 5 + 2, none⟩ = some (.string a.of_) ∧ w'.cell? ⟨b1, off + jj * 5 + 3, none⟩ = some (.string a.s) ∧ w'.cell? ⟨b1, off + jj * 5 + 4, none⟩ = some (.slice A2 a.args.length c2))
          (exact HS4.out _ (by first | exact HBk.out | exact HBk.out.alloc HBk.out.size _ | (go_grown; done) | exact (HBk.out.alloc HBk.out.size _).alloc (HBk.out.alloc HBk.out.size _).size _ | exact HBk.out.setCell (Nat.le_refl _) _ | exact (HBk.out.setCell (Nat.le_refl _) _).setCell (Nat.le_refl _) _))
          ((go_at_call 42; (with_reducible refine (HRC.out _ HBk.out).mono ?_); rintro e w7 ⟨rfl, hb9⟩; have hb8 := below_step HBk.out hb9; have HBk := Lib.hid hb8; clear hb8 hb9))
        all_goals
          have hO5 := hO.out.below StrR.stays HBk.out
          have hb15 := BW.out.trans (HBk.out.mono BW.out.size)
          have HO5 := Lib.hid hO5; have HB5 := Lib.hid hb15
          clear hO5 hb15
          go_wp2_with (at_builtin; go_must ((refine wpList_push StrR.stays (.string ⟨#[]⟩) [.string T] T rfl rfl Tryd.underlying22 (bytes := 16) (by kernel_rfl) HO5.out rfl rfl (by decide) rfl rfl (show StrR w7 none_ _ _ from ⟨rfl, hoT⟩) (StrR.one (w := w7) (F := none_) _ _ ⟨rfl, hoT⟩) (fun k hk => hk.elim) (by unfold maxLen; have := HLl.out; omega) (by have := HLl.out; omega) (by have := HB5.out.size; omega) ?_); (intro A6 c6 W6 hO6 hgr _; have hb6 := HB5.out.trans (hgr.below (B := W2.heap.size) (Nat.le_refl _) HB5.out.size); have HO6 := Lib.hid hO6; have HB6 := Lib.hid hb6; clear hO6 hgr hb6)))
          go_roundg (args.length - (jj + 1))
          case measure => omega
          case rel =>
            refine ⟨jj + 1, c6, A6, L ++ [T], by omega, by omega, by go_num, by simp, aside ?_, aside (good_succ (g := fun a => (f a).2) HX.out HZ.out hz.out), aside ?_, aside HB6.out⟩
            · rw [List.take_add_one, HX.out, List.map_append, hL.out]
              simp [HT.out]
            · have h := Owns.wider StrR.stays HO6.out (F' := none_) (fun k hk => hk.elim id id) (fun k hk => hk.elim)
              simpa using h
      · have hzb : (z == 0) = false := by simp [hz0]
        have he := HBAD.out jj a z HX.out HZ.out hz0 hz.out
        subst he
        go_region_held3 (fun w' => w'.cell? ⟨w.heap.size, 0, none⟩ = some (.slice U1 m.uses.length u1) ∧ w'.cell? ⟨w.heap.size, 1, none⟩ = some (.slice T1 m.types.length e1) ∧ w'.cell? ⟨w.heap.size, 2, none⟩ = some (.slice T2 m.funcs.length e2) ∧ w'.cell? ⟨w.heap.size + 1, 0, none⟩ = some (.slice T3 own.types.length e3) ∧ w'.cell? ⟨w.heap.size + 1, 1, none⟩ = some (.slice T4 own.funcs.length e4) ∧ w'.cell? ⟨w.heap.size + 1 + 1, 4, none⟩ = some (.slice (some ⟨b1, off, none⟩) args.length c) ∧ w'.cell? ⟨b1, off + jj * 5, none⟩ = some (.int .i64 a.kind) ∧ w'.cell? ⟨b1, off + jj * 5 + 1, none⟩ = some (.int .i64 a.n) ∧ w'.cell? ⟨b1, off + jj * 5 + 2, none⟩ = some (.string a.of_) ∧ w'.cell? ⟨b1, off + jj * 5 + 3, none⟩ = some (.string a.s) ∧ w'.cell? ⟨b1, off + jj * 5 + 4, none⟩ = some (.slice A2 a.args.length c2))
          (exact HS4.out _ (by first | exact HBk.out | exact HBk.out.alloc HBk.out.size _ | (go_grown; done) | exact (HBk.out.alloc HBk.out.size _).alloc (HBk.out.alloc HBk.out.size _).size _ | exact HBk.out.setCell (Nat.le_refl _) _ | exact (HBk.out.setCell (Nat.le_refl _) _).setCell (Nat.le_refl _) _))
          ((go_at_call 42; (with_reducible refine (HRC.out _ HBk.out).mono ?_); rintro e w7 ⟨rfl, hb9⟩; have hb8 := below_step HBk.out hb9; have HBk := Lib.hid hb8; clear hb8 hb9))
        all_goals
          go_wp2_with fail
          go_ret2
          exact ⟨rfl, below_step HBw.out HBk.out⟩
    · have hltz : ¬ (jj : Int) < (args.length : Int) := by omega
      obtain rfl : jj = args.length := by omega
      obtain ⟨W7, rfl⟩ : ∃ W, W = wr := ⟨_, rfl⟩
      have he := HGOOD.out hz.out
      have hL2 : L = args.map fun a => (f a).1 := by rw [hL.out, List.take_length]
      have hLl : L.length = args.length := by rw [hL2, List.length_map]
      rw [← hL2] at he
      have hLok : ∀ s ∈ L, okS s := fun s hs => by rw [hL2] at hs; obtain ⟨a, _, rfl⟩ := List.mem_map.1 hs; exact HOK.out a
      have hsl := hO.out.slice StrR.stays (by_ := 16) (F' := old W7.heap.size) (fun k hk => hk.elim) (fun k h1 h2 => h2) (by omega) (by omega)
      have hl0 : 0 < L.length := by have := H2.out; omega
      obtain ⟨b1, off, ds, hB, hbF, hds, ⟨rfl, _⟩, hcell⟩ := hsl.at_ (k := 0) hl0
      have hp0 := hcell 0 _ rfl
      simp only [Nat.zero_mul, Nat.add_zero] at hp0
      subst hB
      obtain ⟨p, hpe⟩ : ∃ z, L[0] = z := ⟨_, rfl⟩
      have hn0 : nth L 0 = p := by unfold nth; rw [List.getD_eq_getElem?_getD, List.getElem?_eq_getElem hl0, hpe]; rfl
      rw [hpe] at hp0
      have hop : okS p := hLok p (by rw [← hpe]; exact List.getElem_mem _)
      unfold itemsR at he
      rw [hn0] at he
      have hbl : b1 < W7.heap.size := hbF
      have hkl := fun U => kindList_any p U hop
      generalize listTxt p = R at hkl he
      generalize listErr p = z at hkl he
      have hl0z : (0 : Int) < (L.length : Int) := by omega
      have hL8 : L.length ≤ 8 := by omega
      have hcL : L.length ≤ c' := by
        obtain ⟨A', c'', e, h1, h2, _⟩ := hsl
        injection e with e1 e2 e3
        subst e3
        exact h1
      have HE := Lib.hid he; have HBW := Lib.hid hbw; have HSL := Lib.hid hsl; have HKL := Lib.hid hkl; have HP0 := Lib.hid hp0; have HLL := Lib.hid hLl
      clear he hbw hsl hkl hp0 hLl
      clear hcell hds hL2 hLok hz hO hB1 hB2 hB3 hpe hn0 hbF
      go_wp2_with fail
      go_loopg [23] L.length (fun gg s23 wr => ∃ kk : Nat, kk ≤ L.length ∧ L.length - kk ≤ gg ∧ s23 = .int .i64 kk ∧ Aside (∀ j, j < kk → ∀ y, L[j]? = some y → eqB y p = true) ∧ Aside (Below W7.heap.size W7 wr))
      case atStart => exact ⟨0, Nat.zero_le _, by omega, rfl, aside (fun j hj => absurd hj (Nat.not_lt_zero _)), aside (Below.refl _ _)⟩
      case round =>
        obtain ⟨kk, hkk, hg2, rfl, hal, BW2⟩ := hrel
        have hbw2 := below_step HBW.out BW2.out
        by_cases hlt : kk < L.length
        · have hltz : (kk : Int) < (L.length : Int) := by omega
          obtain ⟨b2, off2, ds2, hB', hbF2, hds2, ⟨rfl, _⟩, hcell2⟩ := (HSL.out.up StrR.stays old_lt BW2.out).at_ (k := kk) hlt
          have hq0 := hcell2 0 _ rfl
          simp only [Nat.mul_one, Nat.add_zero] at hq0
          injection hB' with hB'
          injection hB' with e1 e2
          subst e1; subst e2
          have hp1 := (BW2.out.cell (p := ⟨b1, off, none⟩) hbl).trans HP0.out
          have hx := List.getElem?_eq_getElem hlt
          generalize L[kk] = y at hx hq0
          have HX := Lib.hid hx
          clear hx
          clear hcell2 hds2 hbF2
          cases h1 : (y.toList == p.toList) with
          | false =>
            have hnot : ¬ (z = 0 ∧ L.all (fun t => eqB t p) = true) := fun h => by
              have := List.all_eq_true.1 h.2 y (List.mem_of_getElem? HX.out)
              unfold eqB at this
              rw [h1] at this
              cases this
            have he := HE.out
            rw [if_neg hnot] at he
            subst he
            have HBW2 := Lib.hid hbw2
            clear hbw2
            go_upto_region 46 with fail
            go_quiet (fail)
            go_wp2_with fail
            go_ret2
            exact ⟨rfl, below_drewN HBW2.out _⟩
          | true =>
            go_upto_region 46 with fail
            go_quiet (fail)
            go_wp2_with fail
            go_roundg (L.length - (kk + 1))
            case measure => omega
            case rel =>
              have hlen := HLL.out
              refine ⟨kk + 1, by omega, by omega, by go_num, aside (fun j hj y' hy' => ?_), aside (below_drewN BW2.out _)⟩
              by_cases hjk : j = kk
              · subst hjk
                obtain rfl : y = y' := Option.some.inj (HX.out.symm.trans hy')
                exact h1
              · exact hal.out j (by omega) y' hy'
        · have hltz : ¬ (kk : Int) < (L.length : Int) := by omega
          obtain rfl : kk = L.length := by omega
          have hall2 : L.all (fun t => eqB t p) = true := List.all_eq_true.2 fun t ht => by
            obtain ⟨j, hj, rfl⟩ := List.mem_iff_getElem.1 ht
            exact hal.out j hj _ (List.getElem?_eq_getElem hj)
          have he := HE.out
          rw [hall2] at he
          have hp1 := (BW2.out.cell (p := ⟨b1, off, none⟩) hbl).trans HP0.out
          have HBW2 := Lib.hid hbw2
          clear hbw2
          by_cases hz0 : z = 0
          · rw [if_pos ⟨hz0, rfl⟩] at he
            subst he
            subst hz0
            go_wp2_with fail
            refine (HKL.out _).mono ?_
            rintro e w' ⟨rfl, rfl⟩
            go_wp2_with fail
            go_ret2
            exact ⟨rfl, HBW2.out⟩
          · rw [if_neg (fun h => hz0 h.1)] at he
            subst he
            have hzb : (z == 0) = false := by simp [hz0]
            go_wp2_with fail
            refine (HKL.out _).mono ?_
            rintro e w' ⟨rfl, rfl⟩
            go_wp2_with fail
            go_ret2
            exact ⟨rfl, HBW2.out⟩

end Go.Proofs.YthedfpcdibhfpaaDoor

/- What expressions are: the reference's isOf. -/
namespace Go.Proofs.YthedfpcdibhfpaaDoor
open Go.RowKit Go.Shelf


set_option maxRecDepth 100000 in
set_option maxHeartbeats 8000000 in
theorem isOf_at (n : Nat) (f : Ex → ByteArray × Int) (m : Module) (l : List Import) (own : Face) (ps : List Known) (ih : IsOfAt n f m l own ps) (hok : ∀ a, okS (f a).1)
    (v : Int) (o s : ByteArray) (args : List Ex) (h8 : args.length ≤ 8) (hall : ∀ a ∈ args, exErr n a = 0) (h2 : args.length = 2)
    (ms : List Value) (lv : Value) (os : List Value) (pv : Value) (A : Option Addr) (c : Nat) (F : Foot) (w : World) (hF : ∀ k, F k → k < w.heap.size) (hm : ModuleR w F ms m) (hl : SliceOf ImportR 4 72 w F lv l) (ho : FaceR w F os own) (hp : SliceOf KnownR 2 32 w F pv ps)
    (hA : SliceOf ExR 5 72 w F (.slice A args.length c) args) :
    Calls Tryd.prog 42 #[.agg ms.toArray, lv, .agg os.toArray, pv, .agg #[.int .i64 7, .int .i64 v, .string o, .string s, .slice A args.length c]] w fun e w' =>
      e = .returned (.tuple #[.string (isArgs f atR args).1, .int .i64 (isArgs f atR args).2]) ∧ Below w.heap.size w w' := by
  have hrec := fun a (ha : a ∈ args) ds U (hU : Below w.heap.size w U) (hr : ExR U F ds a) => ih a ms lv os pv ds F U (hall a ha) (foot_up hF hU) (ModuleR.stays.later hm hU hF) (hl.up ImportR.stays hF hU) (FaceR.stays.later ho hU hF) (hp.up KnownR.stays hF hU) hr
  obtain ⟨U1, u1, T1, e1, T2, e2, rfl, _⟩ := ModuleR.form hm
  obtain ⟨L1, l1, rfl, _⟩ := hl.form
  obtain ⟨T3, e3, T4, e4, rfl⟩ := FaceR.form ho
  obtain ⟨P1, p1, rfl, _⟩ := hp.form
  have hAc : args.length ≤ c ∧ c ≤ 9223372036854775807 := by
    obtain ⟨A', c', e, h1, h2, _⟩ := hA
    injection e with e1 e2 e3
    subst e3
    exact ⟨h1, by unfold maxLen at h2; omega⟩
  have hbad := fun (k : Nat) (a : Ex) (z : Int) => isArgs_bad (f := f) (fin := atR) (args := args) (k := k) (a := a) (z := z)
  have hgood := isArgs_good (f := f) (fin := atR) (args := args)
  generalize isArgs f atR args = E at hbad hgood ⊢
  have H2 := Lib.hid h2; have HREC := Lib.hid hrec; have HA := Lib.hid hA; have HBAD := Lib.hid hbad; have HGOOD := Lib.hid hgood; have HOK := Lib.hid hok
  clear h2 hrec hA hbad hgood hok
  clear hm hl ho hp ih hall
  go_enter Tryd.func42, Tryd.ntmps42
  go_upto_region 1 with fail
  have hBb1 := (((Box.made w 26 #[.slice U1 m.uses.length u1, .slice T1 m.types.length e1, .slice T2 m.funcs.length e2]).alloc (.cells #[.slice T3 own.types.length e3, .slice T4 own.funcs.length e4] 31)).alloc (.cells #[.int .i64 7, .int .i64 v, .string o, .string s, .slice A args.length c] 88))
  have hBb2 := ((Box.made (w.alloc (.cells #[.slice U1 m.uses.length u1, .slice T1 m.types.length e1, .slice T2 m.funcs.length e2] 26)) 31 #[.slice T3 own.types.length e3, .slice T4 own.funcs.length e4]).alloc (.cells #[.int .i64 7, .int .i64 v, .string o, .string s, .slice A args.length c] 88))
  rw [show (w.alloc (.cells #[.slice U1 m.uses.length u1, .slice T1 m.types.length e1, .slice T2 m.funcs.length e2] 26)).heap.size = w.heap.size + 1 by simp only [World.size_alloc]] at hBb2
  have hBb3 := (Box.made ((w.alloc (.cells #[.slice U1 m.uses.length u1, .slice T1 m.types.length e1, .slice T2 m.funcs.length e2] 26)).alloc (.cells #[.slice T3 own.types.length e3, .slice T4 own.funcs.length e4] 31)) 88 #[.int .i64 7, .int .i64 v, .string o, .string s, .slice A args.length c])
  rw [show ((w.alloc (.cells #[.slice U1 m.uses.length u1, .slice T1 m.types.length e1, .slice T2 m.funcs.length e2] 26)).alloc (.cells #[.slice T3 own.types.length e3, .slice T4 own.funcs.length e4] 31)).heap.size = w.heap.size + 1 + 1 by simp only [World.size_alloc]] at hBb3
  have hbb : Below w.heap.size w (((w.alloc (.cells #[.slice U1 m.uses.length u1, .slice T1 m.types.length e1, .slice T2 m.funcs.length e2] 26)).alloc (.cells #[.slice T3 own.types.length e3, .slice T4 own.funcs.length e4] 31)).alloc (.cells #[.int .i64 7, .int .i64 v, .string o, .string s, .slice A args.length c] 88)) := by go_grown
  have hzb : (((w.alloc (.cells #[.slice U1 m.uses.length u1, .slice T1 m.types.length e1, .slice T2 m.funcs.length e2] 26)).alloc (.cells #[.slice T3 own.types.length e3, .slice T4 own.funcs.length e4] 31)).alloc (.cells #[.int .i64 7, .int .i64 v, .string o, .string s, .slice A args.length c] 88)).heap.size = w.heap.size + 1 + 1 + 1 := by simp only [World.size_alloc]
  generalize ((w.alloc (.cells #[.slice U1 m.uses.length u1, .slice T1 m.types.length e1, .slice T2 m.funcs.length e2] 26)).alloc (.cells #[.slice T3 own.types.length e3, .slice T4 own.funcs.length e4] 31)).alloc (.cells #[.int .i64 7, .int .i64 v, .string o, .string s, .slice A args.length c] 88) = W1 at hBb1 hBb2 hBb3 hbb hzb ⊢
  have x0 := hBb3.at_ 0 _ rfl
  have x4 := hBb3.at_ 4 _ rfl
  go_upto_region 14 with fail
  have hBg := Box.made W1 77 #[.string ⟨#[]⟩, .slice none 0 0, .string ⟨#[]⟩]
  have hbg : Below W1.heap.size W1 (W1.alloc (.cells #[.string ⟨#[]⟩, .slice none 0 0, .string ⟨#[]⟩] 77)) := by go_grown
  have hzg : (W1.alloc (.cells #[.string ⟨#[]⟩, .slice none 0 0, .string ⟨#[]⟩] 77)).heap.size = W1.heap.size + 1 := by simp
  generalize W1.alloc (.cells #[.string ⟨#[]⟩, .slice none 0 0, .string ⟨#[]⟩] 77) = W2 at hBg hbg hzg ⊢
  have hB1 := hBb1.later hbg hBb1.lt
  have hB2 := hBb2.later hbg hBb2.lt
  have hB3 := hBb3.later hbg hBb3.lt
  have hb2 := hbb.trans (hbg.mono hbb.size)
  clear x0 x4
  have x0 := hB3.at_ 0 _ rfl
  have x4 := hB3.at_ 4 _ rfl
  have HB1 := Lib.hid hB1; have HB2 := Lib.hid hB2; have HB3 := Lib.hid hB3; have HBW2 := Lib.hid hb2
  clear hB1 hB2 hB3 hb2
  clear hBb1 hBb2 hBb3 hbb hzb hBg hbg hzg
  go_wp2_with fail
  go_loopg [17, 18, 19, 20] args.length (fun gg s17 s18 _ _ wr => ∃ (jj c : Nat) (B : Option Addr) (L : List ByteArray), jj ≤ args.length ∧ args.length - jj ≤ gg ∧ s18 = .int .i64 jj ∧ s17 = .slice B L.length c ∧ Aside (L = (args.take jj).map fun a => (f a).1) ∧ Aside (∀ j, j < jj → ∀ y, args[j]? = some y → (f y).2 = 0) ∧
    Aside (Owns StrR 1 9 W2.heap.size wr none_ (.slice B L.length c) L) ∧ Aside (Below W2.heap.size W2 wr))
  case atStart => exact ⟨0, 0, none, [], Nat.zero_le _, by omega, rfl, rfl, aside rfl, aside (fun j hj => absurd hj (Nat.not_lt_zero _)), aside Owns.nil_, aside (Below.refl _ _)⟩
  case round =>
    obtain ⟨jj, c', B, L, hjj, hg, rfl, rfl, hL, hz, hO, BW⟩ := hrel
    have hbw := HBW2.out.trans (BW.out.mono HBW2.out.size)
    have hB1 := HB1.out.later BW.out HB1.out.lt
    have hB2 := HB2.out.later BW.out HB2.out.lt
    have hB3 := HB3.out.later BW.out HB3.out.lt
    clear x0 x4
    have x0 := hB3.at_ 0 _ rfl
    have x4 := hB3.at_ 4 _ rfl
    by_cases hlt : jj < args.length
    · have hltz : (jj : Int) < (args.length : Int) := by omega
      have hLl : L.length = jj := by rw [hL.out]; simp; omega
      obtain ⟨b1, off, ds, rfl, hbF, hds, hr, hcell⟩ := (HA.out.up ExR.stays hF hbw).at_ (k := jj) hlt
      have hx := List.getElem?_eq_getElem hlt
      have hxm := List.getElem_mem hlt
      generalize args[jj] = a at hx hxm hr
      obtain ⟨A2, c2, rfl⟩ := ExR.form hr
      have hc0 := hcell 0 _ rfl
      have hc1 := hcell 1 _ rfl
      have hc2 := hcell 2 _ rfl
      have hc3 := hcell 3 _ rfl
      have hc4 := hcell 4 _ rfl
      simp only [Nat.add_zero] at hc0
      have hbl : b1 < wr.heap.size := foot_up hF hbw _ hbF
      have hrc := fun U (hU : Below wr.heap.size wr U) => HREC.out a hxm _ U (below_step hbw hU) (ExR.stays.later hr hU (foot_up hF hbw))
      have hoT := HOK.out a
      obtain ⟨T, hT⟩ : ∃ z, (f a).1 = z := ⟨_, rfl⟩
      obtain ⟨z, hzz⟩ : ∃ z, (f a).2 = z := ⟨_, rfl⟩
      rw [hT, hzz] at hrc
      rw [hT] at hoT
      have y0 := hB1.at_ 0 _ rfl
      have y1 := hB1.at_ 1 _ rfl
      have y2 := hB1.at_ 2 _ rfl
      have q0 := hB2.at_ 0 _ rfl
      have q1 := hB2.at_ 1 _ rfl
      have l1' := hB1.lt
      have l2' := hB2.lt
      have l3' := hB3.lt
      have hdr : Below wr.heap.size wr wr.drew := by go_grown
      have HS4 := Lib.hid (show ∀ w', Below wr.heap.size wr w' → (w'.cell? ⟨w.heap.size, 0, none⟩ = some (.slice U1 m.uses.length u1) ∧ w'.cell? ⟨w.heap.size, 1, none⟩ = some (.slice T1 m.types.length e1) ∧ w'.cell? ⟨w.heap.size, 2, none⟩ = some (.slice T2 m.funcs.length e2) ∧ w'.cell? ⟨w.heap.size + 1, 0, none⟩ = some (.slice T3 own.types.length e3) ∧ w'.cell? ⟨w.heap.size + 1, 1, none⟩ = some (.slice T4 own.funcs.length e4) ∧ w'.cell? ⟨w.heap.size + 1 + 1, 4, none⟩ = some (.slice (some ⟨b1, off, none⟩) args.length c) ∧ w'.cell? ⟨b1, off + jj * 5, none⟩ = some (.int .i64 a.kind) ∧ w'.cell? ⟨b1, off + jj * 5 + 1, none⟩ = some (.int .i64 a.n) ∧ w'.cell? ⟨b1, off + jj * 5 + 2, none⟩ = some (.string a.of_) ∧ w'.cell? ⟨b1, off + jj * 5 + 3, none⟩ = some (.string a.s) ∧ w'.cell? ⟨b1, off + jj * 5 + 4, none⟩ = some (.slice A2 a.args.length c2)) from fun w' h => ⟨(h.cell (p := ⟨w.heap.size, 0, none⟩) l1').trans y0, (h.cell (p := ⟨w.heap.size, 1, none⟩) l1').trans y1, (h.cell (p := ⟨w.heap.size, 2, none⟩) l1').trans y2, (h.cell (p := ⟨w.heap.size + 1, 0, none⟩) l2').trans q0, (h.cell (p := ⟨w.heap.size + 1, 1, none⟩) l2').trans q1, (h.cell (p := ⟨w.heap.size + 1 + 1, 4, none⟩) l3').trans x4, (h.cell (p := ⟨b1, off + jj * 5, none⟩) hbl).trans hc0, (h.cell (p := ⟨b1, off + jj * 5 + 1, none⟩) hbl).trans hc1, (h.cell (p := ⟨b1, off + jj * 5 + 2, none⟩) hbl).trans hc2, (h.cell (p := ⟨b1, off + jj * 5 + 3, none⟩) hbl).trans hc3, (h.cell (p := ⟨b1, off + jj * 5 + 4, none⟩) hbl).trans hc4⟩)
      have HX := Lib.hid hx; have HRC := Lib.hid hrc; have HT := Lib.hid hT; have HZ := Lib.hid hzz; have HBk := Lib.hid hdr; have HBw := Lib.hid hbw; have HLl := Lib.hid hLl
      clear hx hrc hT hzz hdr hbw hLl
      go_upto_region 28 with fail
      clear hcell hds hr hxm hB1 hB2 hB3 hbF y0 y1 y2 q0 q1 x0 x4 hc0 hc1 hc2 hc3 hc4
      by_cases hz0 : z = 0
      · subst hz0
        go_region_held3 (fun w' => w'.cell? ⟨w.heap.size, 0, none⟩ = some (.slice U1 m.uses.length u1) ∧ w'.cell? ⟨w.heap.size, 1, none⟩ = some (.slice T1 m.types.length e1) ∧ w'.cell? ⟨w.heap.size, 2, none⟩ = some (.slice T2 m.funcs.length e2) ∧ w'.cell? ⟨w.heap.size + 1, 0, none⟩ = some (.slice T3 own.types.length e3) ∧ w'.cell? ⟨w.heap.size + 1, 1, none⟩ = some (.slice T4 own.funcs.length e4) ∧ w'.cell? ⟨w.heap.size + 1 + 1, 4, none⟩ = some (.slice (some ⟨b1, off, none⟩) args.length c) ∧ w'.cell? ⟨b1, off + jj * 5, none⟩ = some (.int .i64 a.kind) ∧ w'.cell? ⟨b1, off + jj * 5 + 1, none⟩ = some (.int .i64 a.n) ∧ w'.cell? ⟨b1, off + jj * 5 + 2, none⟩ = some (.string a.of_) ∧ w'.cell? ⟨b1, off + jj * 5 + 3, none⟩ = some (.string a.s) ∧ w'.cell? ⟨b1, off + jj * 5 + 4, none⟩ = some (.slice A2 a.args.length c2))
          (exact HS4.out _ (by first | exact HBk.out | exact HBk.out.alloc HBk.out.size _ | (go_grown; done) | exact (HBk.out.alloc HBk.out.size _).alloc (HBk.out.alloc HBk.out.size _).size _ | exact HBk.out.setCell (Nat.le_refl _) _ | exact (HBk.out.setCell (Nat.le_refl _) _).setCell (Nat.le_refl _) _))
          ((go_at_call 42; (with_reducible refine (HRC.out _ HBk.out).mono ?_); rintro e w7 ⟨rfl, hb9⟩; have hb8 := below_step HBk.out hb9; have HBk := Lib.hid hb8; clear hb8 hb9))
        all_goals
          have hO5 := hO.out.below StrR.stays HBk.out
          have hb15 := BW.out.trans (HBk.out.mono BW.out.size)
          have HO5 := Lib.hid hO5; have HB5 := Lib.hid hb15
          clear hO5 hb15
          go_wp2_with (at_builtin; go_must ((refine wpList_push StrR.stays (.string ⟨#[]⟩) [.string T] T rfl rfl Tryd.underlying22 (bytes := 16) (by kernel_rfl) HO5.out rfl rfl (by decide) rfl rfl (show StrR w7 none_ _ _ from ⟨rfl, hoT⟩) (StrR.one (w := w7) (F := none_) _ _ ⟨rfl, hoT⟩) (fun k hk => hk.elim) (by unfold maxLen; have := HLl.out; omega) (by have := HLl.out; omega) (by have := HB5.out.size; omega) ?_); (intro A6 c6 W6 hO6 hgr _; have hb6 := HB5.out.trans (hgr.below (B := W2.heap.size) (Nat.le_refl _) HB5.out.size); have HO6 := Lib.hid hO6; have HB6 := Lib.hid hb6; clear hO6 hgr hb6)))
          go_roundg (args.length - (jj + 1))
          case measure => omega
          case rel =>
            refine ⟨jj + 1, c6, A6, L ++ [T], by omega, by omega, by go_num, by simp, aside ?_, aside (good_succ (g := fun a => (f a).2) HX.out HZ.out hz.out), aside ?_, aside HB6.out⟩
            · rw [List.take_add_one, HX.out, List.map_append, hL.out]
              simp [HT.out]
            · have h := Owns.wider StrR.stays HO6.out (F' := none_) (fun k hk => hk.elim id id) (fun k hk => hk.elim)
              simpa using h
      · have hzb : (z == 0) = false := by simp [hz0]
        have he := HBAD.out jj a z HX.out HZ.out hz0 hz.out
        subst he
        go_region_held3 (fun w' => w'.cell? ⟨w.heap.size, 0, none⟩ = some (.slice U1 m.uses.length u1) ∧ w'.cell? ⟨w.heap.size, 1, none⟩ = some (.slice T1 m.types.length e1) ∧ w'.cell? ⟨w.heap.size, 2, none⟩ = some (.slice T2 m.funcs.length e2) ∧ w'.cell? ⟨w.heap.size + 1, 0, none⟩ = some (.slice T3 own.types.length e3) ∧ w'.cell? ⟨w.heap.size + 1, 1, none⟩ = some (.slice T4 own.funcs.length e4) ∧ w'.cell? ⟨w.heap.size + 1 + 1, 4, none⟩ = some (.slice (some ⟨b1, off, none⟩) args.length c) ∧ w'.cell? ⟨b1, off + jj * 5, none⟩ = some (.int .i64 a.kind) ∧ w'.cell? ⟨b1, off + jj * 5 + 1, none⟩ = some (.int .i64 a.n) ∧ w'.cell? ⟨b1, off + jj * 5 + 2, none⟩ = some (.string a.of_) ∧ w'.cell? ⟨b1, off + jj * 5 + 3, none⟩ = some (.string a.s) ∧ w'.cell? ⟨b1, off + jj * 5 + 4, none⟩ = some (.slice A2 a.args.length c2))
          (exact HS4.out _ (by first | exact HBk.out | exact HBk.out.alloc HBk.out.size _ | (go_grown; done) | exact (HBk.out.alloc HBk.out.size _).alloc (HBk.out.alloc HBk.out.size _).size _ | exact HBk.out.setCell (Nat.le_refl _) _ | exact (HBk.out.setCell (Nat.le_refl _) _).setCell (Nat.le_refl _) _))
          ((go_at_call 42; (with_reducible refine (HRC.out _ HBk.out).mono ?_); rintro e w7 ⟨rfl, hb9⟩; have hb8 := below_step HBk.out hb9; have HBk := Lib.hid hb8; clear hb8 hb9))
        all_goals
          go_wp2_with fail
          go_ret2
          exact ⟨rfl, below_step HBw.out HBk.out⟩
    · have hltz : ¬ (jj : Int) < (args.length : Int) := by omega
      obtain rfl : jj = args.length := by omega
      obtain ⟨W7, rfl⟩ : ∃ W, W = wr := ⟨_, rfl⟩
      have he := HGOOD.out hz.out
      have hL2 : L = args.map fun a => (f a).1 := by rw [hL.out, List.take_length]
      have hLl : L.length = args.length := by rw [hL2, List.length_map]
      rw [← hL2] at he
      have hLok : ∀ s ∈ L, okS s := fun s hs => by rw [hL2] at hs; obtain ⟨a, _, rfl⟩ := List.mem_map.1 hs; exact HOK.out a
      have hsl := hO.out.slice StrR.stays (by_ := 16) (F' := old W7.heap.size) (fun k hk => hk.elim) (fun k h1 h2 => h2) (by omega) (by omega)
      obtain ⟨p, q, rfl⟩ := two_of (hLl.trans H2.out)
      have hop := hLok p (by simp)
      have hoq := hLok q (by simp)
      obtain ⟨b1, off, ds, hB, hbF, hds, ⟨rfl, _⟩, hcell⟩ := hsl.at_ (k := 0) (by simp)
      have hp0 := hcell 0 _ rfl
      obtain ⟨b2, off2, ds2, hB', hbF2, hds2, ⟨rfl, _⟩, hcell2⟩ := hsl.at_ (k := 1) (by simp)
      have hq0 := hcell2 0 _ rfl
      subst hB
      injection hB' with hB'
      injection hB' with e1 e2
      subst e1; subst e2
      simp only [Nat.zero_mul, Nat.one_mul, Nat.add_zero, List.getElem_cons_zero, List.getElem_cons_succ] at hp0 hq0
      have HE := Lib.hid he; have HBW := Lib.hid hbw
      clear he hbw
      clear hcell hcell2 hds hds2 hsl hL2 hLl hLok hz hO hB1 hB2 hB3
      have hel := fun U => elemOf_any p U hop
      have he : E = if (elemOf p).isSome = true ∧ (q.toList == [105, 110, 116]) = true then ((elemOf p).getD ⟨#[]⟩, 0) else (⟨#[]⟩, 8) := by rw [HE.out]; unfold atR nth eqB; rw [intT_list]; rfl
      simp only [List.length_cons, List.length_nil, Nat.zero_add] at *
      generalize (elemOf p).getD ⟨#[]⟩ = R at hel he
      generalize (elemOf p).isSome = z1 at hel he
      have HEL := Lib.hid hel
      clear hel
      cases z1
      all_goals cases h3 : (q.toList == [105, 110, 116])
      all_goals
        have hE2 := he
        rw [h3] at hE2
        simp at hE2
        subst hE2
        clear he
        go_wp2_with fail
        refine (HEL.out _).mono ?_
        rintro e w' ⟨rfl, rfl⟩
        go_wp2_with fail
        go_ret2
        exact ⟨rfl, HBW.out⟩

end Go.Proofs.YthedfpcdibhfpaaDoor

/- What expressions are: the reference's isOf at calls. -/
namespace Go.Proofs.YthedfpcdibhfpaaDoor
open Go.RowKit Go.Shelf

set_option maxRecDepth 100000 in
set_option maxHeartbeats 16000000 in
theorem isOf_call (n : Nat) (f : Ex → ByteArray × Int) (m : Module) (l : List Import) (own : Face) (ps : List Known) (ih : IsOfAt n f m l own ps) (hok : ∀ a, okS (f a).1)
    (v : Int) (o s : ByteArray) (args : List Ex) (h8 : args.length ≤ 8) (hall : ∀ a ∈ args, exErr n a = 0)
    (ms : List Value) (lv : Value) (os : List Value) (pv : Value) (A : Option Addr) (c : Nat) (F : Foot) (w : World) (hF : ∀ k, F k → k < w.heap.size) (hm : ModuleR w F ms m) (hl : SliceOf ImportR 4 72 w F lv l) (ho : FaceR w F os own) (hp : SliceOf KnownR 2 32 w F pv ps)
    (hA : SliceOf ExR 5 72 w F (.slice A args.length c) args) (E : ByteArray × Int)
    (hE : E = if funcCode (calledFace m l own o).funcs s ≠ 0 then (⟨#[]⟩, 6) else if (funcIn (calledFace m l own o).funcs s).params.length ≠ args.length then (⟨#[]⟩, 7) else isArgs f (putAll (funcIn (calledFace m l own o).funcs s)) args) :
    Calls Tryd.prog 42 #[.agg ms.toArray, lv, .agg os.toArray, pv, .agg #[.int .i64 4, .int .i64 v, .string o, .string s, .slice A args.length c]] w fun e w' =>
      e = .returned (.tuple #[.string E.1, .int .i64 E.2]) ∧ Below w.heap.size w w' := by
  have hrec := fun a (ha : a ∈ args) ds U (hU : Below w.heap.size w U) (hr : ExR U F ds a) => ih a ms lv os pv ds F U (hall a ha) (foot_up hF hU) (ModuleR.stays.later hm hU hF) (hl.up ImportR.stays hF hU) (FaceR.stays.later ho hU hF) (hp.up KnownR.stays hF hU) hr
  have hfo := fun U (hU : Below w.heap.size w U) => fromOf_any m l o ms lv F F U (foot_up hF hU) (foot_up hF hU) (ModuleR.stays.later hm hU hF) (hl.up ImportR.stays hF hU)
  have hX0 := called_own (m := m) (l := l) (own := own) (o := o)
  have hX1 := called_from (m := m) (l := l) (own := own) (o := o)
  generalize calledFace m l own o = X at hE hX0 hX1
  obtain ⟨U1, u1, T1, e1, T2, e2, rfl, _⟩ := ModuleR.form hm
  obtain ⟨L1, l1, rfl, _⟩ := hl.form
  obtain ⟨T3, e3, T4, e4, rfl⟩ := FaceR.form ho
  obtain ⟨P1, p1, rfl, _⟩ := hp.form
  have hAc : args.length ≤ c ∧ c ≤ 9223372036854775807 := by
    obtain ⟨A', c', e, h1, h2, _⟩ := hA
    injection e with e1 e2 e3
    subst e3
    exact ⟨h1, by unfold maxLen at h2; omega⟩
  have hfi := fun (U : World) (cs : List Value) (hU : Below w.heap.size w U) (hr : FaceR U F cs X) => funcIn_any X s cs F U (foot_up hF hU) hr
  generalize fromIs m l o = zf at hfo
  obtain ⟨z0, hz0⟩ : ∃ z, funcCode X.funcs s = z := ⟨_, rfl⟩
  obtain ⟨S, hS⟩ : ∃ z, funcIn X.funcs s = z := ⟨_, rfl⟩
  rw [hz0, hS] at hfi hE
  have hbad := fun (k : Nat) (a : Ex) (z : Int) => isArgs_bad (f := f) (fin := putAll S) (args := args) (k := k) (a := a) (z := z)
  have hgood := isArgs_good (f := f) (fin := putAll S) (args := args)
  obtain ⟨zo, hzo⟩ : ∃ z, o.toList.isEmpty = z := ⟨_, rfl⟩
  have HREC := Lib.hid hrec; have HA := Lib.hid hA; have HBAD := Lib.hid hbad; have HGOOD := Lib.hid hgood; have HOK := Lib.hid hok; have HFO := Lib.hid hfo; have HFI := Lib.hid hfi; have HX0 := Lib.hid hX0; have HX1 := Lib.hid hX1; have HE := Lib.hid hE; have HO := Lib.hid ho
  clear hrec hA hbad hgood hok hfo hfi hX0 hX1 hE ho
  clear hm hl hp ih hall hz0 hS
  go_enter Tryd.func42, Tryd.ntmps42
  go_upto_region 1 with fail
  have hBb1 := (((Box.made w 26 #[.slice U1 m.uses.length u1, .slice T1 m.types.length e1, .slice T2 m.funcs.length e2]).alloc (.cells #[.slice T3 own.types.length e3, .slice T4 own.funcs.length e4] 31)).alloc (.cells #[.int .i64 4, .int .i64 v, .string o, .string s, .slice A args.length c] 88))
  have hBb2 := ((Box.made (w.alloc (.cells #[.slice U1 m.uses.length u1, .slice T1 m.types.length e1, .slice T2 m.funcs.length e2] 26)) 31 #[.slice T3 own.types.length e3, .slice T4 own.funcs.length e4]).alloc (.cells #[.int .i64 4, .int .i64 v, .string o, .string s, .slice A args.length c] 88))
  rw [show (w.alloc (.cells #[.slice U1 m.uses.length u1, .slice T1 m.types.length e1, .slice T2 m.funcs.length e2] 26)).heap.size = w.heap.size + 1 by simp only [World.size_alloc]] at hBb2
  have hBb3 := (Box.made ((w.alloc (.cells #[.slice U1 m.uses.length u1, .slice T1 m.types.length e1, .slice T2 m.funcs.length e2] 26)).alloc (.cells #[.slice T3 own.types.length e3, .slice T4 own.funcs.length e4] 31)) 88 #[.int .i64 4, .int .i64 v, .string o, .string s, .slice A args.length c])
  rw [show ((w.alloc (.cells #[.slice U1 m.uses.length u1, .slice T1 m.types.length e1, .slice T2 m.funcs.length e2] 26)).alloc (.cells #[.slice T3 own.types.length e3, .slice T4 own.funcs.length e4] 31)).heap.size = w.heap.size + 1 + 1 by simp only [World.size_alloc]] at hBb3
  have hbb : Below w.heap.size w (((w.alloc (.cells #[.slice U1 m.uses.length u1, .slice T1 m.types.length e1, .slice T2 m.funcs.length e2] 26)).alloc (.cells #[.slice T3 own.types.length e3, .slice T4 own.funcs.length e4] 31)).alloc (.cells #[.int .i64 4, .int .i64 v, .string o, .string s, .slice A args.length c] 88)) := by go_grown
  have hzb : (((w.alloc (.cells #[.slice U1 m.uses.length u1, .slice T1 m.types.length e1, .slice T2 m.funcs.length e2] 26)).alloc (.cells #[.slice T3 own.types.length e3, .slice T4 own.funcs.length e4] 31)).alloc (.cells #[.int .i64 4, .int .i64 v, .string o, .string s, .slice A args.length c] 88)).heap.size = w.heap.size + 1 + 1 + 1 := by simp only [World.size_alloc]
  generalize ((w.alloc (.cells #[.slice U1 m.uses.length u1, .slice T1 m.types.length e1, .slice T2 m.funcs.length e2] 26)).alloc (.cells #[.slice T3 own.types.length e3, .slice T4 own.funcs.length e4] 31)).alloc (.cells #[.int .i64 4, .int .i64 v, .string o, .string s, .slice A args.length c] 88) = W1 at hBb1 hBb2 hBb3 hbb hzb ⊢
  have x0 := hBb3.at_ 0 _ rfl
  have x2 := hBb3.at_ 2 _ rfl
  have q0 := hBb2.at_ 0 _ rfl
  have q1 := hBb2.at_ 1 _ rfl
  go_upto_region 14 with fail
  have hBg := Box.made W1 77 #[.string ⟨#[]⟩, .slice none 0 0, .string ⟨#[]⟩]
  have hbg : Below W1.heap.size W1 (W1.alloc (.cells #[.string ⟨#[]⟩, .slice none 0 0, .string ⟨#[]⟩] 77)) := by go_grown
  have hzg : (W1.alloc (.cells #[.string ⟨#[]⟩, .slice none 0 0, .string ⟨#[]⟩] 77)).heap.size = W1.heap.size + 1 := by simp
  generalize W1.alloc (.cells #[.string ⟨#[]⟩, .slice none 0 0, .string ⟨#[]⟩] 77) = V2 at hBg hbg hzg ⊢
  have hB1 := hBb1.later hbg hBb1.lt
  have hB2 := hBb2.later hbg hBb2.lt
  have hB3 := hBb3.later hbg hBb3.lt
  have hb2 := hbb.trans (hbg.mono hbb.size)
  clear x0 x2 q0 q1
  have x0 := hB3.at_ 0 _ rfl
  have x2 := hB3.at_ 2 _ rfl
  have q0 := hB2.at_ 0 _ rfl
  have q1 := hB2.at_ 1 _ rfl
  have HV1 := Lib.hid hB1; have HV2 := Lib.hid hB2; have HV3 := Lib.hid hB3; have HVG := Lib.hid hBg; have HBV2 := Lib.hid hb2
  clear hB1 hB2 hB3 hBg hb2
  have hB1 := HV1.out
  have hB2 := HV2.out
  have hB3 := HV3.out
  have hBg := HVG.out
  have hb2 := HBV2.out
  have hz3 : W1.heap.size = w.heap.size + 1 + 1 + 1 := hzb
  have HZ3 := Lib.hid hz3
  clear hz3
  go_upto_region 16 with fail
  have hBj := Box.made V2 31 #[.slice T3 own.types.length e3, .slice T4 own.funcs.length e4]
  have hbj : Below V2.heap.size V2 (V2.alloc (.cells #[.slice T3 own.types.length e3, .slice T4 own.funcs.length e4] 31)) := by go_grown
  have hzj : (V2.alloc (.cells #[.slice T3 own.types.length e3, .slice T4 own.funcs.length e4] 31)).heap.size = V2.heap.size + 1 := by simp
  generalize V2.alloc (.cells #[.slice T3 own.types.length e3, .slice T4 own.funcs.length e4] 31) = V3 at hBj hbj hzj ⊢
  have hB1 := hB1.later hbj hB1.lt
  have hB2 := hB2.later hbj hB2.lt
  have hB3 := hB3.later hbj hB3.lt
  have hBg := hBg.later hbj hBg.lt
  have hb3 := hb2.trans (hbj.mono hb2.size)
  clear x0 x2 q0 q1 hBb1 hBb2 hBb3
  have x2 := hB3.at_ 2 _ rfl
  have y0 := hB1.at_ 0 _ rfl
  have y1 := hB1.at_ 1 _ rfl
  have y2 := hB1.at_ 2 _ rfl
  have hz4 : V2.heap.size = w.heap.size + 1 + 1 + 1 + 1 := by rw [hzg, hzb]
  have hn2 := hb2.size
  rw [hz4] at hBj
  rw [hzb] at hBg
  have HZ4 := Lib.hid hz4; have HB1 := Lib.hid hB1; have HB2 := Lib.hid hB2; have HB3 := Lib.hid hB3; have HBG := Lib.hid hBg; have HBJ := Lib.hid hBj; have HBW3 := Lib.hid hb3; have HBJB := Lib.hid hbj; have HN2 := Lib.hid hn2
  clear hz4 hB1 hB2 hB3 hBg hBj hb3 hbj hn2
  clear hbb hzb hzg hzj hbg hb2
  go_upto_if 62 with (fail)
  go_cut [] (fun wc => ∃ T5 e5 T6 e6, Aside (Box wc (w.heap.size + 1 + 1 + 1 + 1) 31 #[.slice T5 X.types.length e5, .slice T6 X.funcs.length e6]) ∧ Aside (FaceR wc F [.slice T5 X.types.length e5, .slice T6 X.funcs.length e6] X) ∧ Aside (Below V2.heap.size V2 wc))
  case first =>
    cases zo with
    | true =>
      have he := HX0.out hzo
      subst he
      go_wp2_with fail
      go_meet
      exact ⟨_, _, _, _, aside HBJ.out, aside (FaceR.stays.later HO.out HBW3.out hF), aside HBJB.out⟩
    | false =>
      have he := HX1.out hzo
      go_wp2_with fail
      refine (HFO.out _ HBW3.out).mono ?_
      rintro e W4 ⟨ds, rfl, hb4, hfr⟩
      rw [← he] at hfr
      clear he
      obtain ⟨T5, e5, T6, e6, rfl⟩ := FaceR.form hfr
      have hBJ4 := HBJ.out.later hb4 HBJ.out.lt
      have g0 := hBJ4.free 0
      have g1 := hBJ4.free 1
      have r0 := hBJ4.at_ 0 _ rfl
      have r1 := hBJ4.at_ 1 _ rfl
      have hb24 := HBJB.out.trans (hb4.mono HBJB.out.size)
      have hno : ¬ F (w.heap.size + 1 + 1 + 1 + 1) := fun h => by have := hF _ h; omega
      have hBX : Box ((W4.setCell ⟨w.heap.size + 1 + 1 + 1 + 1, 0, none⟩ (.slice T5 X.types.length e5)).setCell ⟨w.heap.size + 1 + 1 + 1 + 1, 1, none⟩ (.slice T6 X.funcs.length e6)) (w.heap.size + 1 + 1 + 1 + 1) 31 #[.slice T5 X.types.length e5, .slice T6 X.funcs.length e6] := (hBJ4.put 0 _).put 1 _
      have hFX := FaceR.stays.set (p := ⟨w.heap.size + 1 + 1 + 1 + 1, 1, none⟩) (FaceR.stays.set (p := ⟨w.heap.size + 1 + 1 + 1 + 1, 0, none⟩) hfr hno (.slice T5 X.types.length e5)) hno (.slice T6 X.funcs.length e6)
      have hbX := (hb24.setCell (p := ⟨w.heap.size + 1 + 1 + 1 + 1, 0, none⟩) (Nat.le_of_eq HZ4.out) (.slice T5 X.types.length e5)).setCell (p := ⟨w.heap.size + 1 + 1 + 1 + 1, 1, none⟩) (Nat.le_of_eq HZ4.out) (.slice T6 X.funcs.length e6)
      have HBX := Lib.hid hBX; have HFX := Lib.hid hFX; have HbX := Lib.hid hbX
      clear hBX hFX hbX
      clear hfr hb4 hBJ4 hb24 y0 y1 y2 x2
      go_wp2_with fail
      go_meet
      exact ⟨_, _, _, _, aside HBX.out, aside HFX.out, aside HbX.out⟩
  case rest =>
  obtain ⟨T5, e5, T6, e6, hBX, hFX, hbX⟩ := hcut
  obtain ⟨W4, rfl⟩ : ∃ W, W = wc := ⟨_, rfl⟩
  have hb4 := HBV2.out.trans (hbX.out.mono HBV2.out.size)
  have hB1 := HV1.out.later hbX.out HV1.out.lt
  have hB2 := HV2.out.later hbX.out HV2.out.lt
  have hB3 := HV3.out.later hbX.out HV3.out.lt
  have hBg := HVG.out.later hbX.out HVG.out.lt
  rw [HZ3.out] at hBg
  have hBX4 := hBX.out
  have r0 := hBX4.at_ 0 _ rfl
  have r1 := hBX4.at_ 1 _ rfl
  clear x2 y0 y1 y2
  have x3 := hB3.at_ 3 _ rfl
  have hfi := HFI.out W4 _ hb4 hFX.out
  have HFI4 := Lib.hid hfi; have HB1 := Lib.hid hB1; have HB2 := Lib.hid hB2; have HB3 := Lib.hid hB3; have HBG := Lib.hid hBg; have HBW4 := Lib.hid hb4
  clear hfi hB1 hB2 hB3 hBg hb4
  clear hBX hFX hbX hBX4
  go_wp2_with fail
  refine (HFI4.out).mono ?_
  rintro e W5 ⟨ds, rfl, hb5, hSr⟩
  obtain ⟨pv, rfl, hSn, hSres, hSp⟩ := hSr
  obtain ⟨A7, c7, rfl, _, _, hSl, _⟩ := hSp.form
  have hB1 := HB1.out.later hb5 HB1.out.lt
  have hB2 := HB2.out.later hb5 HB2.out.lt
  have hB3 := HB3.out.later hb5 HB3.out.lt
  have hBg := HBG.out.later hb5 HBG.out.lt
  have hb5w := below_step HBW4.out hb5
  have HB1 := Lib.hid hB1; have HB2 := Lib.hid hB2; have HB3 := Lib.hid hB3; have HBG := Lib.hid hBg; have HBW5 := Lib.hid hb5w; have HSP := Lib.hid hSp
  clear hB1 hB2 hB3 hBg hb5w hSp
  clear hb5 r0 r1 x3
  go_upto_region 19 with fail
  have hBk := Box.made W5 77 #[.string S.name, .slice A7 S.params.length c7, .string S.result]
  have hbk : Below W5.heap.size W5 (W5.alloc (.cells #[.string S.name, .slice A7 S.params.length c7, .string S.result] 77)) := by go_grown
  have hzk : (W5.alloc (.cells #[.string S.name, .slice A7 S.params.length c7, .string S.result] 77)).heap.size = W5.heap.size + 1 := by simp
  generalize W5.alloc (.cells #[.string S.name, .slice A7 S.params.length c7, .string S.result] 77) = W6 at hBk hbk hzk ⊢
  have hB1 := HB1.out.later hbk HB1.out.lt
  have hB2 := HB2.out.later hbk HB2.out.lt
  have hB3 := HB3.out.later hbk HB3.out.lt
  have hBg := HBG.out.later hbk HBG.out.lt
  have hb6 := below_step HBW5.out hbk
  have hE := HE.out
  by_cases hz0 : z0 = 0
  · subst hz0
    rw [if_neg (by simp)] at hE
    have k0 := hBk.at_ 0 _ rfl
    have k1 := hBk.at_ 1 _ rfl
    have k2 := hBk.at_ 2 _ rfl
    have x4 := hB3.at_ 4 _ rfl
    by_cases hcnt : S.params.length = args.length
    · rw [if_neg (by simp [hcnt])] at hE
      have hcz : ((S.params.length : Int) == (args.length : Int)) = true := by simp [hcnt]
      have hcn : ((S.params.length : Int) != (args.length : Int)) = false := by simp [hcnt]
      have HCNT := Lib.hid hcnt
      clear hcnt
      have g0 := hBg.at_ 0 _ rfl
      have g1 := hBg.at_ 1 _ rfl
      have g2 := hBg.at_ 2 _ rfl
      have r0 := hBg.free 0
      have r1 := hBg.free 1
      have r2 := hBg.free 2
      have hBS : Box (((W6.setCell ⟨w.heap.size + 1 + 1 + 1, 0, none⟩ (.string S.name)).setCell ⟨w.heap.size + 1 + 1 + 1, 1, none⟩ (.slice A7 S.params.length c7)).setCell ⟨w.heap.size + 1 + 1 + 1, 2, none⟩ (.string S.result)) (w.heap.size + 1 + 1 + 1) 77 #[.string S.name, .slice A7 S.params.length c7, .string S.result] := ((hBg.put 0 _).put 1 _).put 2 _
      have hF1 := ((hB1.far (p := ⟨w.heap.size + 1 + 1 + 1, 0, none⟩) (by simp <;> omega) (.string S.name)).far (p := ⟨w.heap.size + 1 + 1 + 1, 1, none⟩) (by simp <;> omega) (.slice A7 S.params.length c7)).far (p := ⟨w.heap.size + 1 + 1 + 1, 2, none⟩) (by simp <;> omega) (.string S.result)
      have hF2 := ((hB2.far (p := ⟨w.heap.size + 1 + 1 + 1, 0, none⟩) (by simp <;> omega) (.string S.name)).far (p := ⟨w.heap.size + 1 + 1 + 1, 1, none⟩) (by simp <;> omega) (.slice A7 S.params.length c7)).far (p := ⟨w.heap.size + 1 + 1 + 1, 2, none⟩) (by simp <;> omega) (.string S.result)
      have hF3 := ((hB3.far (p := ⟨w.heap.size + 1 + 1 + 1, 0, none⟩) (by simp <;> omega) (.string S.name)).far (p := ⟨w.heap.size + 1 + 1 + 1, 1, none⟩) (by simp <;> omega) (.slice A7 S.params.length c7)).far (p := ⟨w.heap.size + 1 + 1 + 1, 2, none⟩) (by simp <;> omega) (.string S.result)
      have hbF := ((hb6.setCell (p := ⟨w.heap.size + 1 + 1 + 1, 0, none⟩) (by simp <;> omega) (.string S.name)).setCell (p := ⟨w.heap.size + 1 + 1 + 1, 1, none⟩) (by simp <;> omega) (.slice A7 S.params.length c7)).setCell (p := ⟨w.heap.size + 1 + 1 + 1, 2, none⟩) (by simp <;> omega) (.string S.result)
      have hbad := fun (k : Nat) (a : Ex) (z : Int) h1 h2 h3 h4 => hE.trans (HBAD.out k a z h1 h2 h3 h4)
      have hgood := fun h => hE.trans (HGOOD.out h)
      clear HBAD HGOOD
      have HBS := Lib.hid hBS; have HB1 := Lib.hid hF1; have HB2 := Lib.hid hF2; have HB3 := Lib.hid hF3; have HBW2 := Lib.hid hbF; have HBAD := Lib.hid hbad; have HGOOD := Lib.hid hgood
      clear hBS hF1 hF2 hF3 hbF hbad hgood
      clear hB1 hB2 hB3 hBg hBk hbk hb6 hzk hE
      go_upto_region 24 with fail
      have hBS := HBS.out
      have hF1 := HB1.out
      have hF2 := HB2.out
      have hF3 := HB3.out
      have hbF := HBW2.out
      obtain ⟨W2, hW2⟩ : ∃ W, ((W6.setCell ⟨w.heap.size + 1 + 1 + 1, 0, none⟩ (.string S.name)).setCell ⟨w.heap.size + 1 + 1 + 1, 1, none⟩ (.slice A7 S.params.length c7)).setCell ⟨w.heap.size + 1 + 1 + 1, 2, none⟩ (.string S.result) = W := ⟨_, rfl⟩
      rw [hW2] at hBS hF1 hF2 hF3 hbF ⊢
      clear HBS HB1 HB2 HB3 HBW2 hW2 x4 k0 k1 k2 g0 g1 g2 r0 r1 r2 hcz hcn
      have x0 := hF3.at_ 0 _ rfl
      have x4 := hF3.at_ 4 _ rfl
      have HBS := Lib.hid hBS; have HB1 := Lib.hid hF1; have HB2 := Lib.hid hF2; have HB3 := Lib.hid hF3; have HBW2 := Lib.hid hbF
      clear hBS hF1 hF2 hF3 hbF
      go_wp2_with fail
      go_loopg [17, 18, 19, 20] args.length (fun gg s17 s18 _ _ wr => ∃ (jj c : Nat) (B : Option Addr) (L : List ByteArray), jj ≤ args.length ∧ args.length - jj ≤ gg ∧ s18 = .int .i64 jj ∧ s17 = .slice B L.length c ∧ Aside (L = (args.take jj).map fun a => (f a).1) ∧ Aside (∀ j, j < jj → ∀ y, args[j]? = some y → (f y).2 = 0) ∧
        Aside (Owns StrR 1 9 W2.heap.size wr none_ (.slice B L.length c) L) ∧ Aside (Below W2.heap.size W2 wr))
      case atStart => exact ⟨0, 0, none, [], Nat.zero_le _, by omega, rfl, rfl, aside rfl, aside (fun j hj => absurd hj (Nat.not_lt_zero _)), aside Owns.nil_, aside (Below.refl _ _)⟩
      case round =>
        obtain ⟨jj, c', B, L, hjj, hg, rfl, rfl, hL, hz, hO, BW⟩ := hrel
        have hbw := HBW2.out.trans (BW.out.mono HBW2.out.size)
        have hB1 := HB1.out.later BW.out HB1.out.lt
        have hB2 := HB2.out.later BW.out HB2.out.lt
        have hB3 := HB3.out.later BW.out HB3.out.lt
        clear x0 x4
        have x0 := hB3.at_ 0 _ rfl
        have x4 := hB3.at_ 4 _ rfl
        by_cases hlt : jj < args.length
        · have hltz : (jj : Int) < (args.length : Int) := by omega
          have hLl : L.length = jj := by rw [hL.out]; simp; omega
          obtain ⟨b1, off, ds, rfl, hbF, hds, hr, hcell⟩ := (HA.out.up ExR.stays hF hbw).at_ (k := jj) hlt
          have hx := List.getElem?_eq_getElem hlt
          have hxm := List.getElem_mem hlt
          generalize args[jj] = a at hx hxm hr
          obtain ⟨A2, c2, rfl⟩ := ExR.form hr
          have hc0 := hcell 0 _ rfl
          have hc1 := hcell 1 _ rfl
          have hc2 := hcell 2 _ rfl
          have hc3 := hcell 3 _ rfl
          have hc4 := hcell 4 _ rfl
          simp only [Nat.add_zero] at hc0
          have hbl : b1 < wr.heap.size := foot_up hF hbw _ hbF
          have hrc := fun U (hU : Below wr.heap.size wr U) => HREC.out a hxm _ U (below_step hbw hU) (ExR.stays.later hr hU (foot_up hF hbw))
          have hoT := HOK.out a
          obtain ⟨T, hT⟩ : ∃ z, (f a).1 = z := ⟨_, rfl⟩
          obtain ⟨z, hzz⟩ : ∃ z, (f a).2 = z := ⟨_, rfl⟩
          rw [hT, hzz] at hrc
          rw [hT] at hoT
          have y0 := hB1.at_ 0 _ rfl
          have y1 := hB1.at_ 1 _ rfl
          have y2 := hB1.at_ 2 _ rfl
          have q0 := hB2.at_ 0 _ rfl
          have q1 := hB2.at_ 1 _ rfl
          have l1' := hB1.lt
          have l2' := hB2.lt
          have l3' := hB3.lt
          have hdr : Below wr.heap.size wr wr.drew := by go_grown
          have HS4 := Lib.hid (show ∀ w', Below wr.heap.size wr w' → (w'.cell? ⟨w.heap.size, 0, none⟩ = some (.slice U1 m.uses.length u1) ∧ w'.cell? ⟨w.heap.size, 1, none⟩ = some (.slice T1 m.types.length e1) ∧ w'.cell? ⟨w.heap.size, 2, none⟩ = some (.slice T2 m.funcs.length e2) ∧ w'.cell? ⟨w.heap.size + 1, 0, none⟩ = some (.slice T3 own.types.length e3) ∧ w'.cell? ⟨w.heap.size + 1, 1, none⟩ = some (.slice T4 own.funcs.length e4) ∧ w'.cell? ⟨w.heap.size + 1 + 1, 4, none⟩ = some (.slice (some ⟨b1, off, none⟩) args.length c) ∧ w'.cell? ⟨b1, off + jj * 5, none⟩ = some (.int .i64 a.kind) ∧ w'.cell? ⟨b1, off + jj * 5 + 1, none⟩ = some (.int .i64 a.n) ∧ w'.cell? ⟨b1, off + jj * 5 + 2, none⟩ = some (.string a.of_) ∧ w'.cell? ⟨b1, off + jj * 5 + 3, none⟩ = some (.string a.s) ∧ w'.cell? ⟨b1, off + jj * 5 + 4, none⟩ = some (.slice A2 a.args.length c2)) from fun w' h => ⟨(h.cell (p := ⟨w.heap.size, 0, none⟩) l1').trans y0, (h.cell (p := ⟨w.heap.size, 1, none⟩) l1').trans y1, (h.cell (p := ⟨w.heap.size, 2, none⟩) l1').trans y2, (h.cell (p := ⟨w.heap.size + 1, 0, none⟩) l2').trans q0, (h.cell (p := ⟨w.heap.size + 1, 1, none⟩) l2').trans q1, (h.cell (p := ⟨w.heap.size + 1 + 1, 4, none⟩) l3').trans x4, (h.cell (p := ⟨b1, off + jj * 5, none⟩) hbl).trans hc0, (h.cell (p := ⟨b1, off + jj * 5 + 1, none⟩) hbl).trans hc1, (h.cell (p := ⟨b1, off + jj * 5 + 2, none⟩) hbl).trans hc2, (h.cell (p := ⟨b1, off + jj * 5 + 3, none⟩) hbl).trans hc3, (h.cell (p := ⟨b1, off + jj * 5 + 4, none⟩) hbl).trans hc4⟩)
          have HX := Lib.hid hx; have HRC := Lib.hid hrc; have HT := Lib.hid hT; have HZ := Lib.hid hzz; have HBk := Lib.hid hdr; have HBw := Lib.hid hbw; have HLl := Lib.hid hLl
          clear hx hrc hT hzz hdr hbw hLl
          go_upto_region 28 with fail
          clear hcell hds hr hxm hB1 hB2 hB3 hbF y0 y1 y2 q0 q1 x0 x4 hc0 hc1 hc2 hc3 hc4
          by_cases hz0 : z = 0
          · subst hz0
            go_region_held3 (fun w' => w'.cell? ⟨w.heap.size, 0, none⟩ = some (.slice U1 m.uses.length u1) ∧ w'.cell? ⟨w.heap.size, 1, none⟩ = some (.slice T1 m.types.length e1) ∧ w'.cell? ⟨w.heap.size, 2, none⟩ = some (.slice T2 m.funcs.length e2) ∧ w'.cell? ⟨w.heap.size + 1, 0, none⟩ = some (.slice T3 own.types.length e3) ∧ w'.cell? ⟨w.heap.size + 1, 1, none⟩ = some (.slice T4 own.funcs.length e4) ∧ w'.cell? ⟨w.heap.size + 1 + 1, 4, none⟩ = some (.slice (some ⟨b1, off, none⟩) args.length c) ∧ w'.cell? ⟨b1, off + jj * 5, none⟩ = some (.int .i64 a.kind) ∧ w'.cell? ⟨b1, off + jj * 5 + 1, none⟩ = some (.int .i64 a.n) ∧ w'.cell? ⟨b1, off + jj * 5 + 2, none⟩ = some (.string a.of_) ∧ w'.cell? ⟨b1, off + jj * 5 + 3, none⟩ = some (.string a.s) ∧ w'.cell? ⟨b1, off + jj * 5 + 4, none⟩ = some (.slice A2 a.args.length c2))
              (exact HS4.out _ (by first | exact HBk.out | exact HBk.out.alloc HBk.out.size _ | (go_grown; done) | exact (HBk.out.alloc HBk.out.size _).alloc (HBk.out.alloc HBk.out.size _).size _ | exact HBk.out.setCell (Nat.le_refl _) _ | exact (HBk.out.setCell (Nat.le_refl _) _).setCell (Nat.le_refl _) _))
              ((go_at_call 42; (with_reducible refine (HRC.out _ HBk.out).mono ?_); rintro e w7 ⟨rfl, hb9⟩; have hb8 := below_step HBk.out hb9; have HBk := Lib.hid hb8; clear hb8 hb9))
            all_goals
              have hO5 := hO.out.below StrR.stays HBk.out
              have hb15 := BW.out.trans (HBk.out.mono BW.out.size)
              have HO5 := Lib.hid hO5; have HB5 := Lib.hid hb15
              clear hO5 hb15
              go_wp2_with (at_builtin; go_must ((refine wpList_push StrR.stays (.string ⟨#[]⟩) [.string T] T rfl rfl Tryd.underlying22 (bytes := 16) (by kernel_rfl) HO5.out rfl rfl (by decide) rfl rfl (show StrR w7 none_ _ _ from ⟨rfl, hoT⟩) (StrR.one (w := w7) (F := none_) _ _ ⟨rfl, hoT⟩) (fun k hk => hk.elim) (by unfold maxLen; have := HLl.out; omega) (by have := HLl.out; omega) (by have := HB5.out.size; omega) ?_); (intro A6 c6 W6 hO6 hgr _; have hb6 := HB5.out.trans (hgr.below (B := W2.heap.size) (Nat.le_refl _) HB5.out.size); have HO6 := Lib.hid hO6; have HB6 := Lib.hid hb6; clear hO6 hgr hb6)))
              go_roundg (args.length - (jj + 1))
              case measure => omega
              case rel =>
                refine ⟨jj + 1, c6, A6, L ++ [T], by omega, by omega, by go_num, by simp, aside ?_, aside (good_succ (g := fun a => (f a).2) HX.out HZ.out hz.out), aside ?_, aside HB6.out⟩
                · rw [List.take_add_one, HX.out, List.map_append, hL.out]
                  simp [HT.out]
                · have h := Owns.wider StrR.stays HO6.out (F' := none_) (fun k hk => hk.elim id id) (fun k hk => hk.elim)
                  simpa using h
          · have hzb : (z == 0) = false := by simp [hz0]
            have he := HBAD.out jj a z HX.out HZ.out hz0 hz.out
            subst he
            go_region_held3 (fun w' => w'.cell? ⟨w.heap.size, 0, none⟩ = some (.slice U1 m.uses.length u1) ∧ w'.cell? ⟨w.heap.size, 1, none⟩ = some (.slice T1 m.types.length e1) ∧ w'.cell? ⟨w.heap.size, 2, none⟩ = some (.slice T2 m.funcs.length e2) ∧ w'.cell? ⟨w.heap.size + 1, 0, none⟩ = some (.slice T3 own.types.length e3) ∧ w'.cell? ⟨w.heap.size + 1, 1, none⟩ = some (.slice T4 own.funcs.length e4) ∧ w'.cell? ⟨w.heap.size + 1 + 1, 4, none⟩ = some (.slice (some ⟨b1, off, none⟩) args.length c) ∧ w'.cell? ⟨b1, off + jj * 5, none⟩ = some (.int .i64 a.kind) ∧ w'.cell? ⟨b1, off + jj * 5 + 1, none⟩ = some (.int .i64 a.n) ∧ w'.cell? ⟨b1, off + jj * 5 + 2, none⟩ = some (.string a.of_) ∧ w'.cell? ⟨b1, off + jj * 5 + 3, none⟩ = some (.string a.s) ∧ w'.cell? ⟨b1, off + jj * 5 + 4, none⟩ = some (.slice A2 a.args.length c2))
              (exact HS4.out _ (by first | exact HBk.out | exact HBk.out.alloc HBk.out.size _ | (go_grown; done) | exact (HBk.out.alloc HBk.out.size _).alloc (HBk.out.alloc HBk.out.size _).size _ | exact HBk.out.setCell (Nat.le_refl _) _ | exact (HBk.out.setCell (Nat.le_refl _) _).setCell (Nat.le_refl _) _))
              ((go_at_call 42; (with_reducible refine (HRC.out _ HBk.out).mono ?_); rintro e w7 ⟨rfl, hb9⟩; have hb8 := below_step HBk.out hb9; have HBk := Lib.hid hb8; clear hb8 hb9))
            all_goals
              go_wp2_with fail
              go_ret2
              exact ⟨rfl, below_step HBw.out HBk.out⟩
        · have hltz : ¬ (jj : Int) < (args.length : Int) := by omega
          obtain rfl : jj = args.length := by omega
          obtain ⟨W7, rfl⟩ : ∃ W, W = wr := ⟨_, rfl⟩
          have he := HGOOD.out hz.out
          have hL2 : L = args.map fun a => (f a).1 := by rw [hL.out, List.take_length]
          have hLl : L.length = args.length := by rw [hL2, List.length_map]
          rw [← hL2] at he
          have hLok : ∀ s ∈ L, okS s := fun s hs => by rw [hL2] at hs; obtain ⟨a, _, rfl⟩ := List.mem_map.1 hs; exact HOK.out a
          have hsl := hO.out.slice StrR.stays (by_ := 16) (F' := old W7.heap.size) (fun k hk => hk.elim) (fun k h1 h2 => h2) (by omega) (by omega)
          have hBS7 := HBS.out.later BW.out HBS.out.lt
          have s1 := hBS7.at_ 1 _ rfl
          have s2 := hBS7.at_ 2 _ rfl
          have hSp7 := HSP.out.stays StrR.stays (fun _ h => h) (keeps_heap fun k hk => (hbw.block k (hF k hk)).trans (HBW5.out.block k (hF k hk)).symm)
          have hao := allOf_any S.params L S.result _ _ F (old W7.heap.size) W7 (foot_up hF hbw) old_lt hSp7 hsl hSres
          have he2 : E = if (allR S.params L S.result).2 ≠ 0 then (⟨#[]⟩, 8) else ((allR S.params L S.result).1, 0) := he
          generalize (allR S.params L S.result).1 = R at hao he2
          generalize (allR S.params L S.result).2 = zr at hao he2
          have HAO := Lib.hid hao; have HBW := Lib.hid hbw
          clear hao hbw
          clear hsl hSp7 hBS7 hB1 hB2 hB3 hL2 hLl hLok hz hO he
          by_cases hr0 : zr = 0
          · subst hr0
            rw [if_neg (by simp)] at he2
            subst he2
            go_wp2_with fail
            refine HAO.out.mono ?_
            rintro e w8 ⟨rfl, hb9⟩
            have hbx := below_step HBW.out hb9
            have HBX := Lib.hid hbx
            clear hbx
            clear hb9
            go_wp2_with fail
            go_ret2
            exact ⟨rfl, HBX.out⟩
          · rw [if_pos hr0] at he2
            subst he2
            have hrb : (zr == 0) = false := by simp [hr0]
            go_wp2_with fail
            refine HAO.out.mono ?_
            rintro e w8 ⟨rfl, hb9⟩
            have hbx := below_step HBW.out hb9
            have HBX := Lib.hid hbx
            clear hbx
            clear hb9
            go_wp2_with fail
            go_ret2
            exact ⟨rfl, HBX.out⟩
    · rw [if_pos hcnt] at hE
      have hcz : ((S.params.length : Int) == (args.length : Int)) = false := by simp; omega
      subst hE
      have HB6 := Lib.hid hb6
      clear hb6
      clear hB1 hB2 hB3 hBg hBk hbk
      go_wp2_with fail
      go_ret2
      exact ⟨rfl, HB6.out⟩
  · rw [if_pos hz0] at hE
    have hzb : (z0 == 0) = false := by simp [hz0]
    subst hE
    have HB6 := Lib.hid hb6
    clear hb6
    clear hB1 hB2 hB3 hBg hBk hbk
    go_wp2_with fail
    go_ret2
    exact ⟨rfl, HB6.out⟩

end Go.Proofs.YthedfpcdibhfpaaDoor

/- What expressions are: the reference's isOf, whatever the expression. -/
namespace Go.Proofs.YthedfpcdibhfpaaDoor
open Go.RowKit Go.Shelf

theorem isOf_any {m : Module} {l : List Import} {own : Face} {ps : List Known} (hps : ∀ p ∈ ps, okS p.is_) : ∀ n : Nat, IsOfAt n (isR m l own ps n) m l own ps
  | 0 => fun _ _ _ _ _ _ _ _ h => by cases h
  | n + 1 => by
    have ih := isOf_any hps n (m := m) (l := l) (own := own)
    have hok := isR_ok hps n (m := m) (l := l) (own := own)
    intro x ms lv os pv cs F w h hF hm hl ho hp hx
    obtain ⟨A, c, rfl⟩ := ExR.form hx
    obtain ⟨k, v, o, s, args⟩ := x
    simp only [Ex.kind, Ex.n, Ex.of_, Ex.s, Ex.args] at *
    obtain ⟨h8, hall, hc⟩ := ex_cases h
    have hA := (ex_args rfl hx).1
    rcases hc with ⟨rfl, _⟩ | ⟨rfl, _⟩ | ⟨rfl, _⟩ | ⟨rfl, _⟩ | ⟨rfl, h2⟩ | ⟨rfl, h2⟩ | ⟨rfl, h2⟩
    · exact isOf_num m own v o s args.length ms lv os pv A c F w hm ho
    · exact isOf_txt m own v o s args.length ms lv os pv A c F w hm ho
    · exact isOf_par m own ps v o s args.length ms lv os pv A c F w hF hm ho hp
    · exact isOf_call n _ m l own ps ih hok v o s args h8 hall ms lv os pv A c F w hF hm hl ho hp hA _ rfl
    · exact isOf_sum n _ m l own ps ih hok v o s args h8 hall h2 ms lv os pv A c F w hF hm hl ho hp hA
    · exact isOf_items n _ m l own ps ih hok v o s args h8 hall h2 ms lv os pv A c F w hF hm hl ho hp hA
    · exact isOf_at n _ m l own ps ih hok v o s args h8 hall h2 ms lv os pv A c F w hF hm hl ho hp hA

end Go.Proofs.YthedfpcdibhfpaaDoor

/- What expressions are: the closures of body's 'of'. -/
namespace Go.Proofs.YthedfpcdibhfpaaDoor
open Go.RowKit Go.Shelf

set_option maxHeartbeats 400000 in
theorem of1_any (x : Known) (cs : List Value) (F : Foot) (s : ByteArray) (b : Nat) (W : World) (hx : KnownR W F cs x) (ha : W.cell? ⟨b, 3, none⟩ = some (.string s)) :
    Calls Tryd.prog 76 #[.agg cs.toArray, .pointer (some ⟨b, 0, none⟩)] W fun e w' => e = .returned (.bool (eqB x.name s)) ∧ Below W.heap.size W w' := by
  have hlt := World.block_lt_of_cell? W _ ha
  obtain ⟨rfl, _, _⟩ := hx
  unfold eqB
  go_enter Tryd.func76, Tryd.ntmps76
  cases hq : (x.name.toList == s.toList)
  all_goals (go_wp2; go_ret; exact ⟨by simp, by go_grown⟩)

set_option maxHeartbeats 400000 in
theorem of2_any (y p : ByteArray) (b b1 off n c : Nat) (W : World) (hn : 0 < n) (ha : W.cell? ⟨b, 0, none⟩ = some (.slice (some ⟨b1, off, none⟩) n c)) (h1 : W.cell? ⟨b1, off, none⟩ = some (.string p)) :
    Calls Tryd.prog 80 #[.string y, .pointer (some ⟨b, 0, none⟩)] W fun e w' => e = .returned (.bool (!eqB y p)) ∧ W = w' := by
  have hnz : (0 : Int) < (n : Int) := by omega
  unfold eqB
  go_enter Tryd.func80, Tryd.ntmps80
  cases hq : (y.toList == p.toList)
  all_goals (go_wp2; go_ret; exact ⟨by simp, rfl⟩)

end Go.Proofs.YthedfpcdibhfpaaDoor

/- What expressions are: body's 'of' at numbers, texts, parameters. -/
namespace Go.Proofs.YthedfpcdibhfpaaDoor
open Go.RowKit Go.Shelf

/-- A scope in the memory, at a block: its module, imports, face, parameters. -/
structure ScopeR (w : World) (b : Nat) (F : Foot) (m : Module) (l : List Import) (own : Face) (ps : List Known) (U1 : Option Addr) (u1 : Nat) (T1 : Option Addr) (e1 : Nat) (T2 : Option Addr) (e2 : Nat) (L1 : Option Addr) (l1 : Nat) (T3 : Option Addr) (e3 : Nat) (T4 : Option Addr) (e4 : Nat) (P1 : Option Addr) (p1 : Nat) : Prop where
  box : Box w b 82 #[.slice U1 m.uses.length u1, .slice T1 m.types.length e1, .slice T2 m.funcs.length e2, .slice L1 l.length l1, .slice T3 own.types.length e3, .slice T4 own.funcs.length e4, .slice P1 ps.length p1]
  mod : ModuleR w F [.slice U1 m.uses.length u1, .slice T1 m.types.length e1, .slice T2 m.funcs.length e2] m
  imps : SliceOf ImportR 4 72 w F (.slice L1 l.length l1) l
  face : FaceR w F [.slice T3 own.types.length e3, .slice T4 own.funcs.length e4] own
  pars : SliceOf KnownR 2 32 w F (.slice P1 ps.length p1) ps
  low : ∀ k, F k → k < w.heap.size

/-- What 'of' tells of an expression that may be so deep: f. -/
def OfAt (n : Nat) (f : Ex → ByteArray × Int) (mx : Int) (m : Module) (l : List Import) (own : Face) (ps : List Known) : Prop :=
  ∀ (x : Ex) (b : Nat) (cs : List Value) (F : Foot) (w : World) (U1 : Option Addr) (u1 : Nat) (T1 : Option Addr) (e1 : Nat) (T2 : Option Addr) (e2 : Nat) (L1 : Option Addr) (l1 : Nat) (T3 : Option Addr) (e3 : Nat) (T4 : Option Addr) (e4 : Nat) (P1 : Option Addr) (p1 : Nat), exErr n x = 0 → ScopeR w b F m l own ps U1 u1 T1 e1 T2 e2 L1 l1 T3 e3 T4 e4 P1 p1 → ExR w F cs x → w.cell? ⟨1, 0, none⟩ = some (.int .i64 mx) →
    Calls Tryd.prog 40 #[.pointer (some ⟨b, 0, none⟩), .agg cs.toArray] w fun e w' => e = .returned (.tuple #[.string (f x).1, .int .i64 (f x).2]) ∧ Below w.heap.size w w'

section
variable {w U : World} {b : Nat} {F : Foot} {m : Module} {l : List Import} {own : Face} {ps : List Known} {U1 : Option Addr} {u1 : Nat} {T1 : Option Addr} {e1 : Nat} {T2 : Option Addr} {e2 : Nat} {L1 : Option Addr} {l1 : Nat} {T3 : Option Addr} {e3 : Nat} {T4 : Option Addr} {e4 : Nat} {P1 : Option Addr} {p1 : Nat}
theorem ScopeR.later (h : ScopeR w b F m l own ps U1 u1 T1 e1 T2 e2 L1 l1 T3 e3 T4 e4 P1 p1) (hU : Below w.heap.size w U) : ScopeR U b F m l own ps U1 u1 T1 e1 T2 e2 L1 l1 T3 e3 T4 e4 P1 p1 :=
  ⟨h.box.later hU h.box.lt, ModuleR.stays.later h.mod hU h.low, h.imps.up ImportR.stays h.low hU, FaceR.stays.later h.face hU h.low, h.pars.up KnownR.stays h.low hU, foot_up h.low hU⟩

variable (v : Int) (o s : ByteArray) (na : Nat) (A : Option Addr) (c : Nat)
set_option maxRecDepth 100000 in
set_option maxHeartbeats 1000000 in
theorem of_num : Calls Tryd.prog 40 #[.pointer (some ⟨b, 0, none⟩), .agg #[.int .i64 1, .int .i64 v, .string o, .string s, .slice A na c]] w fun e w' =>
      e = .returned (.tuple #[.string intT, .int .i64 0]) ∧ Below w.heap.size w w' := by
  go_enter Tryd.func40, Tryd.ntmps40
  go_upto_region 1 with fail
  have hBe := Box.made w 88 #[.int .i64 1, .int .i64 v, .string o, .string s, .slice A na c]
  have hbe : Below w.heap.size w (w.alloc (.cells #[.int .i64 1, .int .i64 v, .string o, .string s, .slice A na c] 88)) := by go_grown
  have hze : (w.alloc (.cells #[.int .i64 1, .int .i64 v, .string o, .string s, .slice A na c] 88)).heap.size = w.heap.size + 1 := by simp
  generalize w.alloc (.cells #[.int .i64 1, .int .i64 v, .string o, .string s, .slice A na c] 88) = W1 at hBe hbe hze ⊢
  have x0 := hBe.at_ 0 _ rfl
  go_wp2_with fail
  go_ret2
  exact ⟨rfl, hbe⟩

set_option maxRecDepth 100000 in
set_option maxHeartbeats 1000000 in
theorem of_txt : Calls Tryd.prog 40 #[.pointer (some ⟨b, 0, none⟩), .agg #[.int .i64 2, .int .i64 v, .string o, .string s, .slice A na c]] w fun e w' =>
      e = .returned (.tuple #[.string textT, .int .i64 0]) ∧ Below w.heap.size w w' := by
  go_enter Tryd.func40, Tryd.ntmps40
  go_upto_region 1 with fail
  have hBe := Box.made w 88 #[.int .i64 2, .int .i64 v, .string o, .string s, .slice A na c]
  have hbe : Below w.heap.size w (w.alloc (.cells #[.int .i64 2, .int .i64 v, .string o, .string s, .slice A na c] 88)) := by go_grown
  have hze : (w.alloc (.cells #[.int .i64 2, .int .i64 v, .string o, .string s, .slice A na c] 88)).heap.size = w.heap.size + 1 := by simp
  generalize w.alloc (.cells #[.int .i64 2, .int .i64 v, .string o, .string s, .slice A na c] 88) = W1 at hBe hbe hze ⊢
  have x0 := hBe.at_ 0 _ rfl
  go_wp2_with fail
  go_ret2
  exact ⟨rfl, hbe⟩

set_option maxRecDepth 100000 in
set_option maxHeartbeats 2000000 in
theorem of_par (hS : ScopeR w b F m l own ps U1 u1 T1 e1 T2 e2 L1 l1 T3 e3 T4 e4 P1 p1) :
    Calls Tryd.prog 40 #[.pointer (some ⟨b, 0, none⟩), .agg #[.int .i64 3, .int .i64 v, .string o, .string s, .slice A na c]] w fun e w' =>
      e = .returned (.tuple #[.string (knownIs ps s).1, .int .i64 (knownIs ps s).2]) ∧ Below w.heap.size w w' := by
  obtain ⟨E, hE⟩ : ∃ z, knownIs ps s = z := ⟨_, rfl⟩
  rw [hE]
  have HS := Lib.hid hS; have HE := Lib.hid hE
  clear hS hE
  go_enter Tryd.func40, Tryd.ntmps40
  go_upto_region 1 with fail
  have hBe := Box.made w 88 #[.int .i64 3, .int .i64 v, .string o, .string s, .slice A na c]
  have hbe : Below w.heap.size w (w.alloc (.cells #[.int .i64 3, .int .i64 v, .string o, .string s, .slice A na c] 88)) := by go_grown
  have hze : (w.alloc (.cells #[.int .i64 3, .int .i64 v, .string o, .string s, .slice A na c] 88)).heap.size = w.heap.size + 1 := by simp
  generalize w.alloc (.cells #[.int .i64 3, .int .i64 v, .string o, .string s, .slice A na c] 88) = W1 at hBe hbe hze ⊢
  have x0 := hBe.at_ 0 _ rfl
  have hS1 := HS.out.later hbe
  have hcell := fun (U : World) (hU : Below W1.heap.size W1 U) => (hBe.later hU hBe.lt).at_ 3 (.string s) rfl
  have hidx := indexFunc_knowns (.slice P1 ps.length p1) ps F 76 #[.pointer (some ⟨w.heap.size, 0, none⟩)] (fun x => eqB x.name s) W1 (enters_of Tryd.func76 (by kernel_rfl) rfl) hS1.low hS1.pars (fun U x cs _ hU hr => by
    have h := of1_any x cs F s w.heap.size U hr (hcell U hU)
    obtain ⟨rfl, _, _⟩ := hr
    exact h)
  have hk := fidx_cases (fun x => eqB x.name s) ps
  generalize fidx (fun x => eqB x.name s) ps = z at hidx hk
  have hBs := hS1.box
  have y6 := hBs.at_ 6 _ rfl
  have HK := Lib.hid hk; have HI := Lib.hid hidx; have HS1 := Lib.hid hS1; have Hb := Lib.hid hbe
  clear hk hidx hS1 hbe
  clear hcell hBe hBs hze
  go_wp2_with fail
  refine HI.out.mono ?_
  rintro e W2 ⟨rfl, hb2⟩
  have hbw := below_step Hb.out hb2
  have hS2 := HS1.out.later hb2
  have hBs := hS2.box
  clear x0 y6
  have y6 := hBs.at_ 6 _ rfl
  rcases HK.out with ⟨rfl, hall⟩ | ⟨k, x, rfl, hx, hfx, hall⟩
  · have he := HE.out.symm.trans (known_miss hall)
    subst he
    have HBW := Lib.hid hbw
    clear hbw
    clear hS2 hBs hall hb2
    go_wp2_with fail
    go_ret2
    exact ⟨rfl, HBW.out⟩
  · have hk2 : k < ps.length := (List.getElem?_eq_some_iff.1 hx).1
    have hkz : ¬ (k : Int) < 0 := by omega
    have hkz2 : (k : Int) < (ps.length : Int) := by omega
    have he := HE.out.symm.trans (known_hit hx hfx hall)
    subst he
    obtain ⟨b1, off, ds, rfl, hbF, hds, ⟨rfl, _⟩, hcell⟩ := hS2.pars.at_ (k := k) hk2
    have hc0 := hcell 0 _ rfl
    have hc1 := hcell 1 _ rfl
    simp only [Nat.add_zero] at hc0
    rw [(List.getElem?_eq_some_iff.1 hx).2] at hc1
    have HBW := Lib.hid hbw
    clear hbw
    clear hS2 hBs hall hb2 hx hfx hc0 hcell hds
    go_wp2_with fail
    go_ret2
    exact ⟨rfl, HBW.out⟩
end

end Go.Proofs.YthedfpcdibhfpaaDoor

/- What expressions are: body's 'call'. -/
namespace Go.Proofs.YthedfpcdibhfpaaDoor
open Go.RowKit Go.Shelf

/-- All that lies below a bound, but one block. -/
def allBut (n m : Nat) : Foot := fun k => k < m ∧ k ≠ n

set_option maxRecDepth 100000 in
set_option maxHeartbeats 16000000 in
theorem call_any (n : Nat) (f : Ex → ByteArray × Int) (mx : Int) (m : Module) (l : List Import) (own : Face) (ps : List Known) (ih : OfAt n f mx m l own ps) (hok : ∀ a, okS (f a).1)
    (v : Int) (o s : ByteArray) (args : List Ex) (h8 : args.length ≤ 8) (hall : ∀ a ∈ args, exErr n a = 0)
    (b : Nat) (A : Option Addr) (c : Nat) (F : Foot) (w : World) {U1 : Option Addr} {u1 : Nat} {T1 : Option Addr} {e1 : Nat} {T2 : Option Addr} {e2 : Nat} {L1 : Option Addr} {l1 : Nat} {T3 : Option Addr} {e3 : Nat} {T4 : Option Addr} {e4 : Nat} {P1 : Option Addr} {p1 : Nat}
    (hS : ScopeR w b F m l own ps U1 u1 T1 e1 T2 e2 L1 l1 T3 e3 T4 e4 P1 p1) (hA : SliceOf ExR 5 72 w F (.slice A args.length c) args) (hM : w.cell? ⟨1, 0, none⟩ = some (.int .i64 mx))
    (hRis : Rising Sig.name (calledFace m l own o).funcs) (E : ByteArray × Int)
    (hE : E = if funcCode (calledFace m l own o).funcs s ≠ 0 then (⟨#[]⟩, 6) else if (funcIn (calledFace m l own o).funcs s).params.length ≠ args.length then (⟨#[]⟩, 7) else isArgs f (putAll (funcIn (calledFace m l own o).funcs s)) args) :
    Calls Tryd.prog 77 #[.pointer (some ⟨b, 0, none⟩), .agg #[.int .i64 4, .int .i64 v, .string o, .string s, .slice A args.length c]] w fun e w' =>
      e = .returned (.tuple #[.string E.1, .int .i64 E.2]) ∧ Below w.heap.size w w' := by
  have hrec := fun a (ha : a ∈ args) ds U (hU : Below w.heap.size w U) (hr : ExR U F ds a) => ih a b ds F U _ _ _ _ _ _ _ _ _ _ _ _ _ _ (hall a ha) (hS.later hU) hr ((hU.cell (World.block_lt_of_cell? w _ hM)).trans hM)
  have hfo := fun U (hU : Below w.heap.size w U) => aliasFrom_any m l o _ _ F F U (foot_up hS.low hU) (foot_up hS.low hU) (hS.later hU).mod (hS.later hU).imps
  have hX0 := called_own (m := m) (l := l) (own := own) (o := o)
  have hX1 := called_from (m := m) (l := l) (own := own) (o := o)
  generalize calledFace m l own o = X at hE hX0 hX1 hRis
  have hF := hS.low
  have hAc : args.length ≤ c ∧ c ≤ 9223372036854775807 := by
    obtain ⟨A', c', e, h1, h2, _⟩ := hA
    injection e with e1 e2 e3
    subst e3
    exact ⟨h1, by unfold maxLen at h2; omega⟩
  have hfi := fun (G : Foot) (U : World) (cs : List Value) (hG : ∀ k, G k → k < U.heap.size) (hr : FaceR U G cs X) => faceFunc_any X s cs G U hG hr hRis
  generalize fromIs m l o = zf at hfo
  obtain ⟨z0, hz0⟩ : ∃ z, funcCode X.funcs s = z := ⟨_, rfl⟩
  obtain ⟨S, hS0⟩ : ∃ z, funcIn X.funcs s = z := ⟨_, rfl⟩
  rw [hz0, hS0] at hfi hE
  have hbad := fun (k : Nat) (a : Ex) (z : Int) => isArgs_bad (f := f) (fin := putAll S) (args := args) (k := k) (a := a) (z := z)
  have hgood := isArgs_good (f := f) (fin := putAll S) (args := args)
  obtain ⟨zo, hzo⟩ : ∃ z, o.toList.isEmpty = z := ⟨_, rfl⟩
  have HREC := Lib.hid hrec; have HA := Lib.hid hA; have HBAD := Lib.hid hbad; have HGOOD := Lib.hid hgood; have HOK := Lib.hid hok; have HFO := Lib.hid hfo; have HFI := Lib.hid hfi; have HX0 := Lib.hid hX0; have HX1 := Lib.hid hX1; have HE := Lib.hid hE; have HS := Lib.hid hS; have HM0 := Lib.hid hM
  clear hrec hA hbad hgood hok hfo hfi hX0 hX1 hE hS hM
  clear ih hall hz0 hS0 hRis
  go_enter Tryd.func77, Tryd.ntmps77
  go_upto_region 1 with fail
  have hBe := Box.made w 88 #[.int .i64 4, .int .i64 v, .string o, .string s, .slice A args.length c]
  have hbe : Below w.heap.size w (w.alloc (.cells #[.int .i64 4, .int .i64 v, .string o, .string s, .slice A args.length c] 88)) := by go_grown
  have hze : (w.alloc (.cells #[.int .i64 4, .int .i64 v, .string o, .string s, .slice A args.length c] 88)).heap.size = w.heap.size + 1 := by simp
  generalize w.alloc (.cells #[.int .i64 4, .int .i64 v, .string o, .string s, .slice A args.length c] 88) = W1 at hBe hbe hze ⊢
  have hS1 := HS.out.later hbe
  have hSb := hS1.box
  have y4 := hSb.at_ 4 _ rfl
  have y5 := hSb.at_ 5 _ rfl
  clear hze
  go_upto_region 2 with fail
  have hBj := Box.made W1 31 #[.slice T3 own.types.length e3, .slice T4 own.funcs.length e4]
  have hbj : Below W1.heap.size W1 (W1.alloc (.cells #[.slice T3 own.types.length e3, .slice T4 own.funcs.length e4] 31)) := by go_grown
  have hzj : (W1.alloc (.cells #[.slice T3 own.types.length e3, .slice T4 own.funcs.length e4] 31)).heap.size = W1.heap.size + 1 := by simp
  generalize W1.alloc (.cells #[.slice T3 own.types.length e3, .slice T4 own.funcs.length e4] 31) = V3 at hBj hbj hzj ⊢
  clear y4 y5
  have hSb3 := hSb.later hbj hSb.lt
  have hBe3 := hBe.later hbj hBe.lt
  have hb3 := below_step hbe hbj
  have hne : w.heap.size < W1.heap.size := hBe.lt
  have hbl := hSb.lt
  have y0 := hSb3.at_ 0 _ rfl
  have y1 := hSb3.at_ 1 _ rfl
  have y2 := hSb3.at_ 2 _ rfl
  have y3 := hSb3.at_ 3 _ rfl
  have x2 := hBe3.at_ 2 _ rfl
  have HB3 := Lib.hid hb3; have HBJ := Lib.hid hBj; have HE1 := Lib.hid hBe; have HB1 := Lib.hid hbe; have HBJB := Lib.hid hbj; have HS1 := Lib.hid hS1; have HNE := Lib.hid hne
  clear hb3 hBj hBe hbe hbj hS1 hne
  clear hSb3 hBe3 hzj
  go_upto_if 21 with (fail)
  go_cut [] (fun wc => ∃ T5 e5 T6 e6, Aside (Box wc W1.heap.size 31 #[.slice T5 X.types.length e5, .slice T6 X.funcs.length e6]) ∧ Aside (FaceR wc (allBut W1.heap.size wc.heap.size) [.slice T5 X.types.length e5, .slice T6 X.funcs.length e6] X) ∧ Aside (Below W1.heap.size W1 wc))
  case first =>
    cases zo with
    | true =>
      have he := HX0.out hzo
      subst he
      go_wp2_with fail
      go_meet
      exact ⟨_, _, _, _, aside HBJ.out, aside (FaceR.stays.wider (HS1.out.later HBJB.out).face (fun k hk => ⟨by have := HS1.out.low k hk; have := HBJB.out.size; omega, by have := HS1.out.low k hk; omega⟩)), aside HBJB.out⟩
    | false =>
      have he := HX1.out hzo
      have hdr : Below W1.heap.size W1 V3.drew := HBJB.out.trans (by go_grown)
      have hdq : Below V3.heap.size V3 V3.drew := by go_grown
      have hfo3 := fun U (hU : Below V3.heap.size V3 U) => HFO.out U (below_step HB3.out hU)
      have hSb := HS1.out.box
      have hBe := HE1.out
      have a0 := hSb.at_ 0 _ rfl
      have a1 := hSb.at_ 1 _ rfl
      have a2 := hSb.at_ 2 _ rfl
      have a3 := hSb.at_ 3 _ rfl
      have c2 := hBe.at_ 2 _ rfl
      have hlt := hSb.lt
      have hne := HNE.out
      have HS4 := Lib.hid (show ∀ w', Below W1.heap.size W1 w' → (w'.cell? ⟨b, 0, none⟩ = some (.slice U1 m.uses.length u1) ∧ w'.cell? ⟨b, 1, none⟩ = some (.slice T1 m.types.length e1) ∧ w'.cell? ⟨b, 2, none⟩ = some (.slice T2 m.funcs.length e2) ∧ w'.cell? ⟨b, 3, none⟩ = some (.slice L1 l.length l1) ∧ w'.cell? ⟨w.heap.size, 2, none⟩ = some (.string o)) from fun w' h => ⟨(h.cell (p := ⟨b, 0, none⟩) hlt).trans a0, (h.cell (p := ⟨b, 1, none⟩) hlt).trans a1, (h.cell (p := ⟨b, 2, none⟩) hlt).trans a2, (h.cell (p := ⟨b, 3, none⟩) hlt).trans a3, (h.cell (p := ⟨w.heap.size, 2, none⟩) hne).trans c2⟩)
      have HEX := Lib.hid he
      have HFO3 := Lib.hid hfo3
      have HBk := Lib.hid hdr; have HBq := Lib.hid hdq
      clear hdr hdq
      clear he hfo3 hSb hBe a0 a1 a2 a3 c2
      go_upto_region 3 with fail
      clear y0 y1 y2 y3 x2
      go_region_held3 (fun w' => w'.cell? ⟨b, 0, none⟩ = some (.slice U1 m.uses.length u1) ∧ w'.cell? ⟨b, 1, none⟩ = some (.slice T1 m.types.length e1) ∧ w'.cell? ⟨b, 2, none⟩ = some (.slice T2 m.funcs.length e2) ∧ w'.cell? ⟨b, 3, none⟩ = some (.slice L1 l.length l1) ∧ w'.cell? ⟨w.heap.size, 2, none⟩ = some (.string o))
        (exact HS4.out _ (by first | exact HBk.out | exact HBk.out.alloc HBk.out.size _ | (go_grown; done) | exact (HBk.out.alloc HBk.out.size _).alloc (HBk.out.alloc HBk.out.size _).size _ | exact HBk.out.setCell (Nat.le_refl _) _ | exact (HBk.out.setCell (Nat.le_refl _) _).setCell (Nat.le_refl _) _))
        ((go_at_call 130; (with_reducible refine (HFO3.out _ HBq.out).mono ?_); rintro e w7 ⟨ds, rfl, hb9, hfr⟩; rw [← HEX.out] at hfr; obtain ⟨T5, e5, T6, e6, rfl⟩ := FaceR.form hfr; have hb7 := HBq.out.trans (hb9.mono HBq.out.size); have hB7 := HBJ.out.later hb7 HBJ.out.lt; have r0 := hB7.at_ 0 _ rfl; have r1 := hB7.at_ 1 _ rfl; have g0 := hB7.free 0; have g1 := hB7.free 1; have hbk := HBJB.out.trans (hb7.mono HBJB.out.size); have HBk := Lib.hid hbk; have HB7 := Lib.hid hB7; have HFR := Lib.hid hfr; have HSZ := Lib.hid hb7.size; clear hb9 hb7 hB7 hbk hfr))
      all_goals
        have hBX : Box ((w7.setCell ⟨W1.heap.size, 0, none⟩ (.slice T5 X.types.length e5)).setCell ⟨W1.heap.size, 1, none⟩ (.slice T6 X.funcs.length e6)) W1.heap.size 31 #[.slice T5 X.types.length e5, .slice T6 X.funcs.length e6] := (HB7.out.put 0 _).put 1 _
        have hj := HBJ.out.lt
        have hno : ¬ fresh V3.heap.size w7.heap.size W1.heap.size := fun h => by have := h.1; omega
        have hFX := FaceR.stays.wider (F' := allBut W1.heap.size w7.heap.size) (FaceR.stays.set (p := ⟨W1.heap.size, 1, none⟩) (FaceR.stays.set (p := ⟨W1.heap.size, 0, none⟩) HFR.out hno (.slice T5 X.types.length e5)) hno (.slice T6 X.funcs.length e6)) (fun k hk => ⟨hk.2, by have h1 : V3.heap.size ≤ k := hk.1; omega⟩)
        have hbX := (HBk.out.setCell (p := ⟨W1.heap.size, 0, none⟩) (Nat.le_refl _) (.slice T5 X.types.length e5)).setCell (p := ⟨W1.heap.size, 1, none⟩) (Nat.le_refl _) (.slice T6 X.funcs.length e6)
        have HBX := Lib.hid hBX; have HFX := Lib.hid hFX; have HbX := Lib.hid hbX
        clear hBX hFX hbX
        clear hj
        go_wp2_with fail
        go_meet
        exact ⟨_, _, _, _, aside HBX.out, aside (by simpa only [size_set] using HFX.out), aside HbX.out⟩
  case rest =>
  obtain ⟨T5, e5, T6, e6, hBX, hFX, hbX⟩ := hcut
  obtain ⟨W4, rfl⟩ : ∃ W, W = wc := ⟨_, rfl⟩
  have hb4 := below_step HB1.out hbX.out
  have hBe4 := HE1.out.later hbX.out HE1.out.lt
  have hBX4 := hBX.out
  clear y0 y1 y2 y3 x2
  have r0 := hBX4.at_ 0 _ rfl
  have r1 := hBX4.at_ 1 _ rfl
  have x3 := hBe4.at_ 3 _ rfl
  have hfi := HFI.out _ W4 _ (fun k hk => hk.1) hFX.out
  have HFI4 := Lib.hid hfi; have HE4 := Lib.hid hBe4; have HBW4 := Lib.hid hb4
  clear hfi hBe4 hb4
  clear hBX hFX hbX hBX4
  go_wp2_with fail
  refine (HFI4.out).mono ?_
  rintro e W5 ⟨ds, rfl, hb5, hSr⟩
  obtain ⟨pv, rfl, hSn, hSres, hSp⟩ := hSr
  obtain ⟨A7, c7, rfl, _, _, hSl, _⟩ := hSp.form
  have hBe5 := HE4.out.later hb5 HE4.out.lt
  have hb5w := below_step HBW4.out hb5
  have HE5 := Lib.hid hBe5; have HBW5 := Lib.hid hb5w; have HSP := Lib.hid hSp
  clear hBe5 hb5w hSp
  clear hb5 r0 r1 x3
  go_upto_region 5 with fail
  have hBk := Box.made W5 77 #[.string S.name, .slice A7 S.params.length c7, .string S.result]
  have hbk : Below W5.heap.size W5 (W5.alloc (.cells #[.string S.name, .slice A7 S.params.length c7, .string S.result] 77)) := by go_grown
  have hzk : (W5.alloc (.cells #[.string S.name, .slice A7 S.params.length c7, .string S.result] 77)).heap.size = W5.heap.size + 1 := by simp
  generalize W5.alloc (.cells #[.string S.name, .slice A7 S.params.length c7, .string S.result] 77) = W2 at hBk hbk hzk ⊢
  have hBe2 := HE5.out.later hbk HE5.out.lt
  have hb2 := below_step HBW5.out hbk
  have hSp2 := HSP.out.up StrR.stays (fun _ h => fresh_lt _ h) hbk
  have hE := HE.out
  by_cases hz0 : z0 = 0
  · subst hz0
    rw [if_neg (by simp)] at hE
    have k0 := hBk.at_ 0 _ rfl
    have k1 := hBk.at_ 1 _ rfl
    have k2 := hBk.at_ 2 _ rfl
    have x4 := hBe2.at_ 4 _ rfl
    by_cases hcnt : S.params.length = args.length
    · rw [if_neg (by simp [hcnt])] at hE
      have hcz : ((S.params.length : Int) == (args.length : Int)) = true := by simp [hcnt]
      have hcn : ((S.params.length : Int) != (args.length : Int)) = false := by simp [hcnt]
      have hbad := fun (k : Nat) (a : Ex) (z : Int) h1 h2 h3 h4 => hE.trans (HBAD.out k a z h1 h2 h3 h4)
      have hgood := fun h => hE.trans (HGOOD.out h)
      clear HBAD HGOOD
      have HCNT := Lib.hid hcnt; have HBAD := Lib.hid hbad; have HGOOD := Lib.hid hgood; have HBK := Lib.hid hBk; have HE2 := Lib.hid hBe2; have HBW2 := Lib.hid hb2; have HSP2 := Lib.hid hSp2
      clear hcnt hbad hgood hBk hBe2 hb2 hSp2
      clear hE hzk
      go_wp2_with fail
      clear x4
      go_loopg [9, 11, 12, 13, 55] args.length (fun gg s9 _ _ _ s55 wr => ∃ (jj c : Nat) (B : Option Addr) (L : List ByteArray), jj ≤ args.length ∧ args.length - jj ≤ gg ∧ s55 = .int .i64 jj ∧ s9 = .slice B L.length c ∧ Aside (L = (args.take jj).map fun a => (f a).1) ∧ Aside (∀ j, j < jj → ∀ y, args[j]? = some y → (f y).2 = 0) ∧
        Aside (Owns StrR 1 9 W2.heap.size wr none_ (.slice B L.length c) L) ∧ Aside (Below W2.heap.size W2 wr))
      case atStart => exact ⟨0, 0, none, [], Nat.zero_le _, by omega, rfl, rfl, aside rfl, aside (fun j hj => absurd hj (Nat.not_lt_zero _)), aside Owns.nil_, aside (Below.refl _ _)⟩
      case round =>
        obtain ⟨jj, c', B, L, hjj, hg, rfl, rfl, hL, hz, hO, BW⟩ := hrel
        have hbw := below_step HBW2.out BW.out
        by_cases hlt : jj < args.length
        · have hltz : (jj : Int) < (args.length : Int) := by omega
          have hLl : L.length = jj := by rw [hL.out]; simp; omega
          obtain ⟨b1, off, ds, rfl, hbF, hds, hr, hcell⟩ := (HA.out.up ExR.stays hF hbw).at_ (k := jj) hlt
          have hx := List.getElem?_eq_getElem hlt
          have hxm := List.getElem_mem hlt
          generalize args[jj] = a at hx hxm hr
          obtain ⟨A2, c2, rfl⟩ := ExR.form hr
          have hc0 := hcell 0 _ rfl
          have hc1 := hcell 1 _ rfl
          have hc2 := hcell 2 _ rfl
          have hc3 := hcell 3 _ rfl
          have hc4 := hcell 4 _ rfl
          simp only [Nat.add_zero] at hc0
          have hoT := HOK.out a
          obtain ⟨T, hT⟩ : ∃ z, (f a).1 = z := ⟨_, rfl⟩
          obtain ⟨z, hzz⟩ : ∃ z, (f a).2 = z := ⟨_, rfl⟩
          rw [hT] at hoT
          have HX := Lib.hid hx; have HT := Lib.hid hT; have HZ := Lib.hid hzz; have HBw := Lib.hid hbw; have HLl := Lib.hid hLl; have HR := Lib.hid hr; have HXM := Lib.hid hxm
          clear hx hT hzz hbw hLl hr hxm
          clear hcell hds hbF
          go_upto_region 13 with fail
          have hBy := Box.made wr 88 #[.int .i64 a.kind, .int .i64 a.n, .string a.of_, .string a.s, .slice A2 a.args.length c2]
          have hby : Below wr.heap.size wr (wr.alloc (.cells #[.int .i64 a.kind, .int .i64 a.n, .string a.of_, .string a.s, .slice A2 a.args.length c2] 88)) := by go_grown
          have hzy : (wr.alloc (.cells #[.int .i64 a.kind, .int .i64 a.n, .string a.of_, .string a.s, .slice A2 a.args.length c2] 88)).heap.size = wr.heap.size + 1 := by simp
          generalize wr.alloc (.cells #[.int .i64 a.kind, .int .i64 a.n, .string a.of_, .string a.s, .slice A2 a.args.length c2] 88) = WA at hBy hby hzy ⊢
          have y0 := hBy.at_ 0 _ rfl
          have y1 := hBy.at_ 1 _ rfl
          have y2 := hBy.at_ 2 _ rfl
          have y3 := hBy.at_ 3 _ rfl
          have y4 := hBy.at_ 4 _ rfl
          have hrc := HREC.out a HXM.out _ WA (below_step HBw.out hby) (ExR.stays.later HR.out hby (foot_up hF HBw.out))
          rw [HT.out, HZ.out] at hrc
          have hO4 := hO.out.below StrR.stays hby
          have hb4 := BW.out.trans (hby.mono BW.out.size)
          have HRC := Lib.hid hrc; have HO4 := Lib.hid hO4; have HB4 := Lib.hid hb4
          clear hrc hO4 hb4
          clear hc0 hc1 hc2 hc3 hc4 hBy hby hzy
          by_cases hz0 : z = 0
          · subst hz0
            go_wp2_with fail
            refine HRC.out.mono ?_
            rintro e W6 ⟨rfl, hb5⟩
            have hO5 := HO4.out.below StrR.stays hb5
            have hb15 := HB4.out.trans (hb5.mono HB4.out.size)
            clear y0 y1 y2 y3 y4
            have HO5 := Lib.hid hO5; have HB5 := Lib.hid hb15
            clear hO5 hb15
            clear hb5
            go_wp2_with (at_builtin; go_must ((refine wpList_push StrR.stays (.string ⟨#[]⟩) [.string T] T rfl rfl Tryd.underlying22 (bytes := 16) (by kernel_rfl) HO5.out rfl rfl (by decide) rfl rfl (show StrR W6 none_ _ _ from ⟨rfl, hoT⟩) (StrR.one (w := W6) (F := none_) _ _ ⟨rfl, hoT⟩) (fun k hk => hk.elim) (by unfold maxLen; have := HLl.out; omega) (by have := HLl.out; omega) HB5.out.size ?_); (intro A6 c6 W7 hO6 hgr _; have hb6 := HB5.out.trans (hgr.below (B := W2.heap.size) (Nat.le_refl _) HB5.out.size); have HO6 := Lib.hid hO6; have HB6 := Lib.hid hb6; clear hO6 hgr hb6)))
            go_roundg (args.length - (jj + 1))
            case measure => omega
            case rel =>
              refine ⟨jj + 1, c6, A6, L ++ [T], by omega, by omega, by go_num, by simp, aside ?_, aside (good_succ (g := fun a => (f a).2) HX.out HZ.out hz.out), aside ?_, aside HB6.out⟩
              · rw [List.take_add_one, HX.out, List.map_append, hL.out]
                simp [HT.out]
              · have h := Owns.wider StrR.stays HO6.out (F' := none_) (fun k hk => hk.elim id id) (fun k hk => hk.elim)
                simpa using h
          · have hzb : (z == 0) = false := by simp [hz0]
            have he := HBAD.out jj a z HX.out HZ.out hz0 hz.out
            subst he
            go_wp2_with fail
            refine HRC.out.mono ?_
            rintro e W6 ⟨rfl, hb5⟩
            have hbx := below_step HBW2.out (HB4.out.trans (hb5.mono HB4.out.size))
            have HBX := Lib.hid hbx
            clear hbx
            clear hb5
            go_wp2_with fail
            go_ret2
            exact ⟨rfl, HBX.out⟩
        · have hltz : ¬ (jj : Int) < (args.length : Int) := by omega
          obtain rfl : jj = args.length := by omega
          obtain ⟨W7, rfl⟩ : ∃ W, W = wr := ⟨_, rfl⟩
          have he := HGOOD.out hz.out
          have hL2 : L = args.map fun a => (f a).1 := by rw [hL.out, List.take_length]
          have hLl : L.length = args.length := by rw [hL2, List.length_map]
          rw [← hL2] at he
          have hsl := hO.out.slice StrR.stays (by_ := 16) (F' := old W7.heap.size) (fun k hk => hk.elim) (fun k h1 h2 => h2) (by omega) (by omega)
          have hBk7 := HBK.out.later BW.out HBK.out.lt
          clear k0 k1 k2
          have k1 := hBk7.at_ 1 _ rfl
          have k2 := hBk7.at_ 2 _ rfl
          have hSp7 := HSP2.out.up StrR.stays (fun k h => by have h1 := h.2; have := hbk.size; omega) BW.out
          have hM7 := (hbw.cell (World.block_lt_of_cell? w _ HM0.out)).trans HM0.out
          have hao := all_any S.params L S.result _ _ _ (old W7.heap.size) mx W7 (fun k h => by have h1 := h.2; have := hbk.size; have := BW.out.size; omega) old_lt hSp7 hsl hSres hM7
          have he2 : E = if (allR S.params L S.result).2 ≠ 0 then (⟨#[]⟩, 8) else ((allR S.params L S.result).1, 0) := he
          generalize (allR S.params L S.result).1 = R at hao he2
          generalize (allR S.params L S.result).2 = zr at hao he2
          have HAO := Lib.hid hao; have HBW := Lib.hid hbw
          clear hao hbw
          clear hsl hSp7 hBk7 hL2 hLl hz hO he hbk
          by_cases hr0 : zr = 0
          · subst hr0
            rw [if_neg (by simp)] at he2
            subst he2
            go_wp2_with fail
            refine HAO.out.mono ?_
            rintro e w8 ⟨rfl, hb9⟩
            have hbx := below_step HBW.out hb9
            have HBX := Lib.hid hbx
            clear hbx
            clear hb9
            go_wp2_with fail
            go_ret2
            exact ⟨rfl, HBX.out⟩
          · rw [if_pos hr0] at he2
            subst he2
            have hrb : (zr == 0) = false := by simp [hr0]
            go_wp2_with fail
            refine HAO.out.mono ?_
            rintro e w8 ⟨rfl, hb9⟩
            have hbx := below_step HBW.out hb9
            have HBX := Lib.hid hbx
            clear hbx
            clear hb9
            go_wp2_with fail
            go_ret2
            exact ⟨rfl, HBX.out⟩
    · rw [if_pos hcnt] at hE
      have hcz : ((S.params.length : Int) == (args.length : Int)) = false := by simp; omega
      subst hE
      have HB6 := Lib.hid hb2
      clear hb2
      clear hBe2 hBk hbk
      go_wp2_with fail
      go_ret2
      exact ⟨rfl, HB6.out⟩
  · rw [if_pos hz0] at hE
    have hzb : (z0 == 0) = false := by simp [hz0]
    subst hE
    have HB6 := Lib.hid hb2
    clear hb2
    clear hBe2 hBk hbk
    go_wp2_with fail
    go_ret2
    exact ⟨rfl, HB6.out⟩

end Go.Proofs.YthedfpcdibhfpaaDoor

/- What expressions are: body's 'of' at sums. -/
namespace Go.Proofs.YthedfpcdibhfpaaDoor
open Go.RowKit Go.Shelf

set_option maxRecDepth 100000 in
set_option maxHeartbeats 8000000 in
theorem of_sum (n : Nat) (f : Ex → ByteArray × Int) (mx : Int) (m : Module) (l : List Import) (own : Face) (ps : List Known) (ih : OfAt n f mx m l own ps) (hok : ∀ a, okS (f a).1)
    (v : Int) (o s : ByteArray) (args : List Ex) (h8 : args.length ≤ 8) (hall : ∀ a ∈ args, exErr n a = 0) (h2 : args.length = 2)
    (b : Nat) (A : Option Addr) (c : Nat) (F : Foot) (w : World) {U1 : Option Addr} {u1 : Nat} {T1 : Option Addr} {e1 : Nat} {T2 : Option Addr} {e2 : Nat} {L1 : Option Addr} {l1 : Nat} {T3 : Option Addr} {e3 : Nat} {T4 : Option Addr} {e4 : Nat} {P1 : Option Addr} {p1 : Nat}
    (hS : ScopeR w b F m l own ps U1 u1 T1 e1 T2 e2 L1 l1 T3 e3 T4 e4 P1 p1) (hA : SliceOf ExR 5 72 w F (.slice A args.length c) args) (hM : w.cell? ⟨1, 0, none⟩ = some (.int .i64 mx)) :
    Calls Tryd.prog 40 #[.pointer (some ⟨b, 0, none⟩), .agg #[.int .i64 5, .int .i64 v, .string o, .string s, .slice A args.length c]] w fun e w' =>
      e = .returned (.tuple #[.string (isArgs f sumR args).1, .int .i64 (isArgs f sumR args).2]) ∧ Below w.heap.size w w' := by
  have hrec := fun a (ha : a ∈ args) ds U (hU : Below w.heap.size w U) (hr : ExR U F ds a) => ih a b ds F U _ _ _ _ _ _ _ _ _ _ _ _ _ _ (hall a ha) (hS.later hU) hr ((hU.cell (World.block_lt_of_cell? w _ hM)).trans hM)
  have hF := hS.low
  have hAc : args.length ≤ c ∧ c ≤ 9223372036854775807 := by
    obtain ⟨A', c', e, h1, h2, _⟩ := hA
    injection e with e1 e2 e3
    subst e3
    exact ⟨h1, by unfold maxLen at h2; omega⟩
  have hbad := fun (k : Nat) (a : Ex) (z : Int) => isArgs_bad (f := f) (fin := sumR) (args := args) (k := k) (a := a) (z := z)
  have hgood := isArgs_good (f := f) (fin := sumR) (args := args)
  generalize isArgs f sumR args = E at hbad hgood ⊢
  have H2 := Lib.hid h2; have HREC := Lib.hid hrec; have HA := Lib.hid hA; have HBAD := Lib.hid hbad; have HGOOD := Lib.hid hgood; have HOK := Lib.hid hok
  clear h2 hrec hA hbad hgood hok
  clear hS hM ih hall
  go_enter Tryd.func40, Tryd.ntmps40
  go_upto_region 1 with fail
  have hBe := Box.made w 88 #[.int .i64 5, .int .i64 v, .string o, .string s, .slice A args.length c]
  have hbe : Below w.heap.size w (w.alloc (.cells #[.int .i64 5, .int .i64 v, .string o, .string s, .slice A args.length c] 88)) := by go_grown
  have hze : (w.alloc (.cells #[.int .i64 5, .int .i64 v, .string o, .string s, .slice A args.length c] 88)).heap.size = w.heap.size + 1 := by simp
  generalize w.alloc (.cells #[.int .i64 5, .int .i64 v, .string o, .string s, .slice A args.length c] 88) = W1 at hBe hbe hze ⊢
  have x0 := hBe.at_ 0 _ rfl
  clear hze
  go_upto_region 14 with fail
  have hBt := Box.made W1 22 #[.slice none 0 0]
  have hbt : Below W1.heap.size W1 (W1.alloc (.cells #[.slice none 0 0] 22)) := by go_grown
  have hzt : (W1.alloc (.cells #[.slice none 0 0] 22)).heap.size = W1.heap.size + 1 := by simp
  generalize W1.alloc (.cells #[.slice none 0 0] 22) = W2 at hBt hbt hzt ⊢
  have hB2 := hBe.later hbt hBe.lt
  clear x0
  have x4 := hB2.at_ 4 _ rfl
  have HE1 := Lib.hid hBe; have HB1 := Lib.hid hbe; have HBT := Lib.hid hBt; have HBB := Lib.hid hbt; have HZT := Lib.hid hzt
  clear hBe hbe hBt hbt hzt
  clear hB2
  go_wp2_with fail
  clear x4
  go_loopg [9, 10, 11, 50] args.length (fun gg _ _ _ s50 wr => ∃ (jj c : Nat) (B : Option Addr) (L : List ByteArray), jj ≤ args.length ∧ args.length - jj ≤ gg ∧ s50 = .int .i64 jj ∧ Aside (L = (args.take jj).map fun a => (f a).1) ∧ Aside (∀ j, j < jj → ∀ y, args[j]? = some y → (f y).2 = 0) ∧
    Aside (Box wr W1.heap.size 22 #[.slice B L.length c]) ∧ Aside (Owns StrR 1 9 W2.heap.size wr none_ (.slice B L.length c) L) ∧ Aside (Below W1.heap.size W1 wr))
  case atStart => exact ⟨0, 0, none, [], Nat.zero_le _, by omega, rfl, aside rfl, aside (fun j hj => absurd hj (Nat.not_lt_zero _)), aside HBT.out, aside Owns.nil_, aside HBB.out⟩
  case round =>
    obtain ⟨jj, c', B, L, hjj, hg, rfl, hL, hz, hBt, hO, BW⟩ := hrel
    have hbw := below_step HB1.out BW.out
    by_cases hlt : jj < args.length
    · have hltz : (jj : Int) < (args.length : Int) := by omega
      have hLl : L.length = jj := by rw [hL.out]; simp; omega
      obtain ⟨b1, off, ds, rfl, hbF, hds, hr, hcell⟩ := (HA.out.up ExR.stays hF hbw).at_ (k := jj) hlt
      have hx := List.getElem?_eq_getElem hlt
      have hxm := List.getElem_mem hlt
      generalize args[jj] = a at hx hxm hr
      obtain ⟨A2, c2, rfl⟩ := ExR.form hr
      have hc0 := hcell 0 _ rfl
      have hc1 := hcell 1 _ rfl
      have hc2 := hcell 2 _ rfl
      have hc3 := hcell 3 _ rfl
      have hc4 := hcell 4 _ rfl
      simp only [Nat.add_zero] at hc0
      have hoT := HOK.out a
      obtain ⟨T, hT⟩ : ∃ z, (f a).1 = z := ⟨_, rfl⟩
      obtain ⟨z, hzz⟩ : ∃ z, (f a).2 = z := ⟨_, rfl⟩
      rw [hT] at hoT
      have HX := Lib.hid hx; have HT := Lib.hid hT; have HZ := Lib.hid hzz; have HBw := Lib.hid hbw; have HLl := Lib.hid hLl; have HR := Lib.hid hr; have HM := Lib.hid hxm
      clear hx hT hzz hbw hLl hr hxm
      clear hcell hds hbF
      go_upto_region 17 with fail
      have hBy := Box.made wr 88 #[.int .i64 a.kind, .int .i64 a.n, .string a.of_, .string a.s, .slice A2 a.args.length c2]
      have hby : Below wr.heap.size wr (wr.alloc (.cells #[.int .i64 a.kind, .int .i64 a.n, .string a.of_, .string a.s, .slice A2 a.args.length c2] 88)) := by go_grown
      have hzy : (wr.alloc (.cells #[.int .i64 a.kind, .int .i64 a.n, .string a.of_, .string a.s, .slice A2 a.args.length c2] 88)).heap.size = wr.heap.size + 1 := by simp
      generalize wr.alloc (.cells #[.int .i64 a.kind, .int .i64 a.n, .string a.of_, .string a.s, .slice A2 a.args.length c2] 88) = W4 at hBy hby hzy ⊢
      have y0 := hBy.at_ 0 _ rfl
      have y1 := hBy.at_ 1 _ rfl
      have y2 := hBy.at_ 2 _ rfl
      have y3 := hBy.at_ 3 _ rfl
      have y4 := hBy.at_ 4 _ rfl
      have hrc := HREC.out a HM.out _ W4 (below_step HBw.out hby) (ExR.stays.later HR.out hby (foot_up hF HBw.out))
      rw [HT.out, HZ.out] at hrc
      have hO4 := hO.out.below StrR.stays hby
      have hBt4 := hBt.out.later hby hBt.out.lt
      have hb4 := BW.out.trans (hby.mono BW.out.size)
      have HRC := Lib.hid hrc; have HO4 := Lib.hid hO4; have HBT4 := Lib.hid hBt4; have HB4 := Lib.hid hb4
      clear hrc hO4 hBt4 hb4
      clear hc0 hc1 hc2 hc3 hc4 hBy hby hzy
      by_cases hz0 : z = 0
      · subst hz0
        go_wp2_with fail
        refine HRC.out.mono ?_
        rintro e W5 ⟨rfl, hb5⟩
        have hO5 := HO4.out.below StrR.stays hb5
        have hBt5 := HBT4.out.later hb5 HBT4.out.lt
        have hb15 := HB4.out.trans (hb5.mono HB4.out.size)
        have n0 := hBt5.at_ 0 _ rfl
        have nf := hBt5.free 0
        have hb5s := hBt5.lt
        clear y0 y1 y2 y3 y4
        have HO5 := Lib.hid hO5; have HBT5 := Lib.hid hBt5; have HB5 := Lib.hid hb15; have HS5 := Lib.hid hb5s
        clear hO5 hBt5 hb15 hb5s
        clear hb5
        go_wp2_with (at_builtin; go_must ((refine wpList_push StrR.stays (.string ⟨#[]⟩) [.string T] T rfl rfl Tryd.underlying22 (bytes := 16) (by kernel_rfl) HO5.out rfl rfl (by decide) rfl rfl (show StrR W5 none_ _ _ from ⟨rfl, hoT⟩) (StrR.one (w := W5) (F := none_) _ _ ⟨rfl, hoT⟩) (fun k hk => hk.elim) (by unfold maxLen; have := HLl.out; omega) (by have := HLl.out; omega) (by have := HS5.out; have := HZT.out; omega) ?_); (intro A6 c6 W6 hO6 hgr _; have hb6 := HB5.out.trans (hgr.below (B := W1.heap.size) (by have := HZT.out; omega) HB5.out.size); have hB6 := hgr.box HBT5.out (by have := HZT.out; omega); clear n0 nf; have n0 := hB6.at_ 0 _ rfl; have nf := hB6.free 0; have HO6 := Lib.hid hO6; have HB6 := Lib.hid hb6; have HBT6 := Lib.hid hB6; clear hO6 hgr hb6 hB6)))
        go_roundg (args.length - (jj + 1))
        case measure => omega
        case rel =>
          refine ⟨jj + 1, c6, A6, L ++ [T], by omega, by omega, by go_num, aside ?_, aside (good_succ (g := fun a => (f a).2) HX.out HZ.out hz.out), aside ?_, aside ?_, aside (HB6.out.setCell (by simp) _)⟩
          · rw [List.take_add_one, HX.out, List.map_append, hL.out]
            simp [HT.out]
          · have h := HBT6.out.put 0 (.slice A6 (L.length + 1) c6)
            simpa using h
          · have h := (HO6.out.wider StrR.stays (F' := none_) (fun k hk => hk.elim id id) (fun k hk => hk.elim)).set StrR.stays (p := ⟨W1.heap.size, 0, none⟩) (by have := HZT.out; simp; omega) (fun k hk => hk.elim) (.slice A6 (L.length + 1) c6)
            simpa using h
      · have hzb : (z == 0) = false := by simp [hz0]
        have he := HBAD.out jj a z HX.out HZ.out hz0 hz.out
        subst he
        go_wp2_with fail
        refine HRC.out.mono ?_
        rintro e W5 ⟨rfl, hb5⟩
        have hbx := below_step HB1.out (HB4.out.trans (hb5.mono HB4.out.size))
        have HBX := Lib.hid hbx
        clear hbx
        clear hb5
        go_wp2_with fail
        go_ret2
        exact ⟨rfl, HBX.out⟩
    · have hltz : ¬ (jj : Int) < (args.length : Int) := by omega
      obtain rfl : jj = args.length := by omega
      obtain ⟨W7, rfl⟩ : ∃ W, W = wr := ⟨_, rfl⟩
      have he := HGOOD.out hz.out
      have hL2 : L = args.map fun a => (f a).1 := by rw [hL.out, List.take_length]
      have hLl : L.length = args.length := by rw [hL2, List.length_map]
      rw [← hL2] at he
      have hLok : ∀ s ∈ L, okS s := fun s hs => by rw [hL2] at hs; obtain ⟨a, _, rfl⟩ := List.mem_map.1 hs; exact HOK.out a
      have hsl := hO.out.slice StrR.stays (by_ := 16) (F' := old W7.heap.size) (fun k hk => hk.elim) (fun k h1 h2 => h2) (by omega) (by omega)
      have hB1 := HE1.out.later BW.out HE1.out.lt
      have hBt7 := hBt.out
      have hB2 := hBt7
      have hB3 := hBt7
      have x0 := hB1.at_ 0 _ rfl
      have n0 := hBt7.at_ 0 _ rfl
      obtain ⟨p, q, rfl⟩ := two_of (hLl.trans H2.out)
      have hop := hLok p (by simp)
      have hoq := hLok q (by simp)
      obtain ⟨b1, off, ds, hB, hbF, hds, ⟨rfl, _⟩, hcell⟩ := hsl.at_ (k := 0) (by simp)
      have hp0 := hcell 0 _ rfl
      obtain ⟨b2, off2, ds2, hB', hbF2, hds2, ⟨rfl, _⟩, hcell2⟩ := hsl.at_ (k := 1) (by simp)
      have hq0 := hcell2 0 _ rfl
      subst hB
      injection hB' with hB'
      injection hB' with e1 e2
      subst e1; subst e2
      simp only [Nat.zero_mul, Nat.one_mul, Nat.add_zero, List.getElem_cons_zero, List.getElem_cons_succ] at hp0 hq0
      have HE := Lib.hid he; have HBW := Lib.hid hbw
      clear he hbw
      clear hcell hcell2 hds hds2 hsl hL2 hLl hLok hz hO hB1 hB2 hB3
      have he : E = if (p.toList == q.toList) = true ∧ ((p.toList == [105, 110, 116]) = true ∨ (p.toList == [116, 101, 120, 116]) = true) then (p, 0) else (⟨#[]⟩, 8) := by rw [HE.out]; unfold sumR nth eqB; rw [intT_list, textT_list]; rfl
      simp only [List.length_cons, List.length_nil, Nat.zero_add] at *
      cases h1 : (p.toList == q.toList)
      all_goals cases h3 : (p.toList == [105, 110, 116])
      all_goals cases h4 : (p.toList == [116, 101, 120, 116])
      all_goals
        have hE2 := he
        rw [h1, h3, h4] at hE2
        simp at hE2
        subst hE2
        clear he hBt7 hBt
        go_upto_region 24 with fail
        go_quiet (fail)
        go_wp2_with fail
        go_ret2
        exact ⟨rfl, below_drewN HBW.out _⟩

end Go.Proofs.YthedfpcdibhfpaaDoor

/- What expressions are: body's 'of' at lists. -/
namespace Go.Proofs.YthedfpcdibhfpaaDoor
open Go.RowKit Go.Shelf

set_option maxRecDepth 100000 in
set_option maxHeartbeats 8000000 in
theorem of_items (n : Nat) (f : Ex → ByteArray × Int) (mx : Int) (m : Module) (l : List Import) (own : Face) (ps : List Known) (ih : OfAt n f mx m l own ps) (hok : ∀ a, okS (f a).1)
    (v : Int) (o s : ByteArray) (args : List Ex) (h8 : args.length ≤ 8) (hall : ∀ a ∈ args, exErr n a = 0) (h2 : 1 ≤ args.length)
    (b : Nat) (A : Option Addr) (c : Nat) (F : Foot) (w : World) {U1 : Option Addr} {u1 : Nat} {T1 : Option Addr} {e1 : Nat} {T2 : Option Addr} {e2 : Nat} {L1 : Option Addr} {l1 : Nat} {T3 : Option Addr} {e3 : Nat} {T4 : Option Addr} {e4 : Nat} {P1 : Option Addr} {p1 : Nat}
    (hS : ScopeR w b F m l own ps U1 u1 T1 e1 T2 e2 L1 l1 T3 e3 T4 e4 P1 p1) (hA : SliceOf ExR 5 72 w F (.slice A args.length c) args) (hM : w.cell? ⟨1, 0, none⟩ = some (.int .i64 mx)) :
    Calls Tryd.prog 40 #[.pointer (some ⟨b, 0, none⟩), .agg #[.int .i64 6, .int .i64 v, .string o, .string s, .slice A args.length c]] w fun e w' =>
      e = .returned (.tuple #[.string (isArgs f itemsR args).1, .int .i64 (isArgs f itemsR args).2]) ∧ Below w.heap.size w w' := by
  have hrec := fun a (ha : a ∈ args) ds U (hU : Below w.heap.size w U) (hr : ExR U F ds a) => ih a b ds F U _ _ _ _ _ _ _ _ _ _ _ _ _ _ (hall a ha) (hS.later hU) hr ((hU.cell (World.block_lt_of_cell? w _ hM)).trans hM)
  have hF := hS.low
  have hAc : args.length ≤ c ∧ c ≤ 9223372036854775807 := by
    obtain ⟨A', c', e, h1, h2, _⟩ := hA
    injection e with e1 e2 e3
    subst e3
    exact ⟨h1, by unfold maxLen at h2; omega⟩
  have hbad := fun (k : Nat) (a : Ex) (z : Int) => isArgs_bad (f := f) (fin := itemsR) (args := args) (k := k) (a := a) (z := z)
  have hgood := isArgs_good (f := f) (fin := itemsR) (args := args)
  generalize isArgs f itemsR args = E at hbad hgood ⊢
  have H2 := Lib.hid h2; have HREC := Lib.hid hrec; have HA := Lib.hid hA; have HBAD := Lib.hid hbad; have HGOOD := Lib.hid hgood; have HOK := Lib.hid hok
  clear h2 hrec hA hbad hgood hok
  clear hS hM ih hall
  go_enter Tryd.func40, Tryd.ntmps40
  go_upto_region 1 with fail
  have hBe := Box.made w 88 #[.int .i64 6, .int .i64 v, .string o, .string s, .slice A args.length c]
  have hbe : Below w.heap.size w (w.alloc (.cells #[.int .i64 6, .int .i64 v, .string o, .string s, .slice A args.length c] 88)) := by go_grown
  have hze : (w.alloc (.cells #[.int .i64 6, .int .i64 v, .string o, .string s, .slice A args.length c] 88)).heap.size = w.heap.size + 1 := by simp
  generalize w.alloc (.cells #[.int .i64 6, .int .i64 v, .string o, .string s, .slice A args.length c] 88) = W1 at hBe hbe hze ⊢
  have x0 := hBe.at_ 0 _ rfl
  clear hze
  go_upto_region 14 with fail
  have hBt := Box.made W1 22 #[.slice none 0 0]
  have hbt : Below W1.heap.size W1 (W1.alloc (.cells #[.slice none 0 0] 22)) := by go_grown
  have hzt : (W1.alloc (.cells #[.slice none 0 0] 22)).heap.size = W1.heap.size + 1 := by simp
  generalize W1.alloc (.cells #[.slice none 0 0] 22) = W2 at hBt hbt hzt ⊢
  have hB2 := hBe.later hbt hBe.lt
  clear x0
  have x4 := hB2.at_ 4 _ rfl
  have HE1 := Lib.hid hBe; have HB1 := Lib.hid hbe; have HBT := Lib.hid hBt; have HBB := Lib.hid hbt; have HZT := Lib.hid hzt
  clear hBe hbe hBt hbt hzt
  clear hB2
  go_wp2_with fail
  clear x4
  go_loopg [9, 10, 11, 50] args.length (fun gg _ _ _ s50 wr => ∃ (jj c : Nat) (B : Option Addr) (L : List ByteArray), jj ≤ args.length ∧ args.length - jj ≤ gg ∧ s50 = .int .i64 jj ∧ Aside (L = (args.take jj).map fun a => (f a).1) ∧ Aside (∀ j, j < jj → ∀ y, args[j]? = some y → (f y).2 = 0) ∧
    Aside (Box wr W1.heap.size 22 #[.slice B L.length c]) ∧ Aside (Owns StrR 1 9 W2.heap.size wr none_ (.slice B L.length c) L) ∧ Aside (Below W1.heap.size W1 wr))
  case atStart => exact ⟨0, 0, none, [], Nat.zero_le _, by omega, rfl, aside rfl, aside (fun j hj => absurd hj (Nat.not_lt_zero _)), aside HBT.out, aside Owns.nil_, aside HBB.out⟩
  case round =>
    obtain ⟨jj, c', B, L, hjj, hg, rfl, hL, hz, hBt, hO, BW⟩ := hrel
    have hbw := below_step HB1.out BW.out
    by_cases hlt : jj < args.length
    · have hltz : (jj : Int) < (args.length : Int) := by omega
      have hLl : L.length = jj := by rw [hL.out]; simp; omega
      obtain ⟨b1, off, ds, rfl, hbF, hds, hr, hcell⟩ := (HA.out.up ExR.stays hF hbw).at_ (k := jj) hlt
      have hx := List.getElem?_eq_getElem hlt
      have hxm := List.getElem_mem hlt
      generalize args[jj] = a at hx hxm hr
      obtain ⟨A2, c2, rfl⟩ := ExR.form hr
      have hc0 := hcell 0 _ rfl
      have hc1 := hcell 1 _ rfl
      have hc2 := hcell 2 _ rfl
      have hc3 := hcell 3 _ rfl
      have hc4 := hcell 4 _ rfl
      simp only [Nat.add_zero] at hc0
      have hoT := HOK.out a
      obtain ⟨T, hT⟩ : ∃ z, (f a).1 = z := ⟨_, rfl⟩
      obtain ⟨z, hzz⟩ : ∃ z, (f a).2 = z := ⟨_, rfl⟩
      rw [hT] at hoT
      have HX := Lib.hid hx; have HT := Lib.hid hT; have HZ := Lib.hid hzz; have HBw := Lib.hid hbw; have HLl := Lib.hid hLl; have HR := Lib.hid hr; have HM := Lib.hid hxm
      clear hx hT hzz hbw hLl hr hxm
      clear hcell hds hbF
      go_upto_region 17 with fail
      have hBy := Box.made wr 88 #[.int .i64 a.kind, .int .i64 a.n, .string a.of_, .string a.s, .slice A2 a.args.length c2]
      have hby : Below wr.heap.size wr (wr.alloc (.cells #[.int .i64 a.kind, .int .i64 a.n, .string a.of_, .string a.s, .slice A2 a.args.length c2] 88)) := by go_grown
      have hzy : (wr.alloc (.cells #[.int .i64 a.kind, .int .i64 a.n, .string a.of_, .string a.s, .slice A2 a.args.length c2] 88)).heap.size = wr.heap.size + 1 := by simp
      generalize wr.alloc (.cells #[.int .i64 a.kind, .int .i64 a.n, .string a.of_, .string a.s, .slice A2 a.args.length c2] 88) = W4 at hBy hby hzy ⊢
      have y0 := hBy.at_ 0 _ rfl
      have y1 := hBy.at_ 1 _ rfl
      have y2 := hBy.at_ 2 _ rfl
      have y3 := hBy.at_ 3 _ rfl
      have y4 := hBy.at_ 4 _ rfl
      have hrc := HREC.out a HM.out _ W4 (below_step HBw.out hby) (ExR.stays.later HR.out hby (foot_up hF HBw.out))
      rw [HT.out, HZ.out] at hrc
      have hO4 := hO.out.below StrR.stays hby
      have hBt4 := hBt.out.later hby hBt.out.lt
      have hb4 := BW.out.trans (hby.mono BW.out.size)
      have HRC := Lib.hid hrc; have HO4 := Lib.hid hO4; have HBT4 := Lib.hid hBt4; have HB4 := Lib.hid hb4
      clear hrc hO4 hBt4 hb4
      clear hc0 hc1 hc2 hc3 hc4 hBy hby hzy
      by_cases hz0 : z = 0
      · subst hz0
        go_wp2_with fail
        refine HRC.out.mono ?_
        rintro e W5 ⟨rfl, hb5⟩
        have hO5 := HO4.out.below StrR.stays hb5
        have hBt5 := HBT4.out.later hb5 HBT4.out.lt
        have hb15 := HB4.out.trans (hb5.mono HB4.out.size)
        have n0 := hBt5.at_ 0 _ rfl
        have nf := hBt5.free 0
        have hb5s := hBt5.lt
        clear y0 y1 y2 y3 y4
        have HO5 := Lib.hid hO5; have HBT5 := Lib.hid hBt5; have HB5 := Lib.hid hb15; have HS5 := Lib.hid hb5s
        clear hO5 hBt5 hb15 hb5s
        clear hb5
        go_wp2_with (at_builtin; go_must ((refine wpList_push StrR.stays (.string ⟨#[]⟩) [.string T] T rfl rfl Tryd.underlying22 (bytes := 16) (by kernel_rfl) HO5.out rfl rfl (by decide) rfl rfl (show StrR W5 none_ _ _ from ⟨rfl, hoT⟩) (StrR.one (w := W5) (F := none_) _ _ ⟨rfl, hoT⟩) (fun k hk => hk.elim) (by unfold maxLen; have := HLl.out; omega) (by have := HLl.out; omega) (by have := HS5.out; have := HZT.out; omega) ?_); (intro A6 c6 W6 hO6 hgr _; have hb6 := HB5.out.trans (hgr.below (B := W1.heap.size) (by have := HZT.out; omega) HB5.out.size); have hB6 := hgr.box HBT5.out (by have := HZT.out; omega); clear n0 nf; have n0 := hB6.at_ 0 _ rfl; have nf := hB6.free 0; have HO6 := Lib.hid hO6; have HB6 := Lib.hid hb6; have HBT6 := Lib.hid hB6; clear hO6 hgr hb6 hB6)))
        go_roundg (args.length - (jj + 1))
        case measure => omega
        case rel =>
          refine ⟨jj + 1, c6, A6, L ++ [T], by omega, by omega, by go_num, aside ?_, aside (good_succ (g := fun a => (f a).2) HX.out HZ.out hz.out), aside ?_, aside ?_, aside (HB6.out.setCell (by simp) _)⟩
          · rw [List.take_add_one, HX.out, List.map_append, hL.out]
            simp [HT.out]
          · have h := HBT6.out.put 0 (.slice A6 (L.length + 1) c6)
            simpa using h
          · have h := (HO6.out.wider StrR.stays (F' := none_) (fun k hk => hk.elim id id) (fun k hk => hk.elim)).set StrR.stays (p := ⟨W1.heap.size, 0, none⟩) (by have := HZT.out; simp; omega) (fun k hk => hk.elim) (.slice A6 (L.length + 1) c6)
            simpa using h
      · have hzb : (z == 0) = false := by simp [hz0]
        have he := HBAD.out jj a z HX.out HZ.out hz0 hz.out
        subst he
        go_wp2_with fail
        refine HRC.out.mono ?_
        rintro e W5 ⟨rfl, hb5⟩
        have hbx := below_step HB1.out (HB4.out.trans (hb5.mono HB4.out.size))
        have HBX := Lib.hid hbx
        clear hbx
        clear hb5
        go_wp2_with fail
        go_ret2
        exact ⟨rfl, HBX.out⟩
    · have hltz : ¬ (jj : Int) < (args.length : Int) := by omega
      obtain rfl : jj = args.length := by omega
      obtain ⟨W7, rfl⟩ : ∃ W, W = wr := ⟨_, rfl⟩
      have he := HGOOD.out hz.out
      have hL2 : L = args.map fun a => (f a).1 := by rw [hL.out, List.take_length]
      have hLl : L.length = args.length := by rw [hL2, List.length_map]
      rw [← hL2] at he
      have hLok : ∀ s ∈ L, okS s := fun s hs => by rw [hL2] at hs; obtain ⟨a, _, rfl⟩ := List.mem_map.1 hs; exact HOK.out a
      have hsl := hO.out.slice StrR.stays (by_ := 16) (F' := old W7.heap.size) (fun k hk => hk.elim) (fun k h1 h2 => h2) (by omega) (by omega)
      have hB1 := HE1.out.later BW.out HE1.out.lt
      have hBt7 := hBt.out
      have hB2 := hBt7
      have hB3 := hBt7
      have x0 := hB1.at_ 0 _ rfl
      have n0 := hBt7.at_ 0 _ rfl
      have hl0 : 0 < L.length := by have := H2.out; omega
      obtain ⟨b1, off, ds, hB, hbF, hds, ⟨rfl, _⟩, hcell⟩ := hsl.at_ (k := 0) hl0
      have hp0 := hcell 0 _ rfl
      simp only [Nat.zero_mul, Nat.add_zero] at hp0
      subst hB
      obtain ⟨p, hpe⟩ : ∃ z, L[0] = z := ⟨_, rfl⟩
      have hn0 : nth L 0 = p := by unfold nth; rw [List.getD_eq_getElem?_getD, List.getElem?_eq_getElem hl0, hpe]; rfl
      rw [hpe] at hp0
      have hop : okS p := hLok p (by rw [← hpe]; exact List.getElem_mem _)
      unfold itemsR at he
      rw [hn0] at he
      have hkl := fun U => listOf_any p U hop
      have hco := containsFunc_strs (.slice (some ⟨b1, off, none⟩) L.length c') L (old W7.heap.size) 80 #[.pointer (some ⟨W1.heap.size, 0, none⟩)] (fun y => !eqB y p) W7 (enters_of Tryd.func80 (by kernel_rfl) rfl) old_lt hsl (fun U y cs _ hU hr => by
        obtain ⟨rfl, _⟩ := hr
        refine (of2_any y p W1.heap.size b1 off L.length c' U hl0 ((hU.cell (p := ⟨W1.heap.size, 0, none⟩) hBt7.lt).trans n0) ((hU.cell (p := ⟨b1, off, none⟩) hbF).trans hp0)).mono ?_
        rintro e w' ⟨rfl, rfl⟩
        exact ⟨rfl, Below.refl _ _⟩)
      generalize listTxt p = R at hkl he
      generalize listErr p = z at hkl he
      have hl0z : (0 : Int) < (L.length : Int) := by omega
      have hcL : L.length ≤ c' := by
        obtain ⟨A', c'', e, h1, h2, _⟩ := hsl
        injection e with e1 e2 e3
        subst e3
        exact h1
      have hall2 : L.all (fun t => eqB t p) = !(L.any fun y => !eqB y p) := by rw [List.not_any_eq_all_not]; simp
      rw [hall2] at he
      generalize (L.any fun y => !eqB y p) = za at hco he
      have HBW := Lib.hid hbw; have HKL := Lib.hid hkl; have HCO := Lib.hid hco
      clear hbw hkl hco
      clear hcell hds hL2 hLok hz hO hB1 hB2 hB3 hpe hn0 hbF hBt7 hBt hall2 hsl hLl
      by_cases hz0 : z = 0
      · subst hz0
        cases za with
        | true =>
          rw [if_neg (by simp)] at he
          subst he
          go_wp2_with fail
          refine (HKL.out _).mono ?_
          rintro e w' ⟨rfl, rfl⟩
          go_wp2_with fail
          refine HCO.out.mono ?_
          rintro e w' ⟨rfl, hb9⟩
          have hbx := below_step HBW.out hb9
          have HBX := Lib.hid hbx
          clear hbx
          clear hb9
          go_wp2_with fail
          go_ret2
          exact ⟨rfl, HBX.out⟩
        | false =>
          rw [if_pos ⟨rfl, rfl⟩] at he
          subst he
          go_wp2_with fail
          refine (HKL.out _).mono ?_
          rintro e w' ⟨rfl, rfl⟩
          go_wp2_with fail
          refine HCO.out.mono ?_
          rintro e w' ⟨rfl, hb9⟩
          have hbx := below_step HBW.out hb9
          have HBX := Lib.hid hbx
          clear hbx
          clear hb9
          go_wp2_with fail
          go_ret2
          exact ⟨rfl, HBX.out⟩
      · rw [if_neg (fun h => hz0 h.1)] at he
        subst he
        have hzb : (z == 0) = false := by simp [hz0]
        go_wp2_with fail
        refine (HKL.out _).mono ?_
        rintro e w' ⟨rfl, rfl⟩
        go_wp2_with fail
        go_ret2
        exact ⟨rfl, HBW.out⟩

end Go.Proofs.YthedfpcdibhfpaaDoor

/- What expressions are: body's 'of' at elements. -/
namespace Go.Proofs.YthedfpcdibhfpaaDoor
open Go.RowKit Go.Shelf

set_option maxRecDepth 100000 in
set_option maxHeartbeats 8000000 in
theorem of_at (n : Nat) (f : Ex → ByteArray × Int) (mx : Int) (m : Module) (l : List Import) (own : Face) (ps : List Known) (ih : OfAt n f mx m l own ps) (hok : ∀ a, okS (f a).1)
    (v : Int) (o s : ByteArray) (args : List Ex) (h8 : args.length ≤ 8) (hall : ∀ a ∈ args, exErr n a = 0) (h2 : args.length = 2)
    (b : Nat) (A : Option Addr) (c : Nat) (F : Foot) (w : World) {U1 : Option Addr} {u1 : Nat} {T1 : Option Addr} {e1 : Nat} {T2 : Option Addr} {e2 : Nat} {L1 : Option Addr} {l1 : Nat} {T3 : Option Addr} {e3 : Nat} {T4 : Option Addr} {e4 : Nat} {P1 : Option Addr} {p1 : Nat}
    (hS : ScopeR w b F m l own ps U1 u1 T1 e1 T2 e2 L1 l1 T3 e3 T4 e4 P1 p1) (hA : SliceOf ExR 5 72 w F (.slice A args.length c) args) (hM : w.cell? ⟨1, 0, none⟩ = some (.int .i64 mx)) :
    Calls Tryd.prog 40 #[.pointer (some ⟨b, 0, none⟩), .agg #[.int .i64 7, .int .i64 v, .string o, .string s, .slice A args.length c]] w fun e w' =>
      e = .returned (.tuple #[.string (isArgs f atR args).1, .int .i64 (isArgs f atR args).2]) ∧ Below w.heap.size w w' := by
  have hrec := fun a (ha : a ∈ args) ds U (hU : Below w.heap.size w U) (hr : ExR U F ds a) => ih a b ds F U _ _ _ _ _ _ _ _ _ _ _ _ _ _ (hall a ha) (hS.later hU) hr ((hU.cell (World.block_lt_of_cell? w _ hM)).trans hM)
  have hF := hS.low
  have hAc : args.length ≤ c ∧ c ≤ 9223372036854775807 := by
    obtain ⟨A', c', e, h1, h2, _⟩ := hA
    injection e with e1 e2 e3
    subst e3
    exact ⟨h1, by unfold maxLen at h2; omega⟩
  have hbad := fun (k : Nat) (a : Ex) (z : Int) => isArgs_bad (f := f) (fin := atR) (args := args) (k := k) (a := a) (z := z)
  have hgood := isArgs_good (f := f) (fin := atR) (args := args)
  generalize isArgs f atR args = E at hbad hgood ⊢
  have H2 := Lib.hid h2; have HREC := Lib.hid hrec; have HA := Lib.hid hA; have HBAD := Lib.hid hbad; have HGOOD := Lib.hid hgood; have HOK := Lib.hid hok
  clear h2 hrec hA hbad hgood hok
  clear hS hM ih hall
  go_enter Tryd.func40, Tryd.ntmps40
  go_upto_region 1 with fail
  have hBe := Box.made w 88 #[.int .i64 7, .int .i64 v, .string o, .string s, .slice A args.length c]
  have hbe : Below w.heap.size w (w.alloc (.cells #[.int .i64 7, .int .i64 v, .string o, .string s, .slice A args.length c] 88)) := by go_grown
  have hze : (w.alloc (.cells #[.int .i64 7, .int .i64 v, .string o, .string s, .slice A args.length c] 88)).heap.size = w.heap.size + 1 := by simp
  generalize w.alloc (.cells #[.int .i64 7, .int .i64 v, .string o, .string s, .slice A args.length c] 88) = W1 at hBe hbe hze ⊢
  have x0 := hBe.at_ 0 _ rfl
  clear hze
  go_upto_region 14 with fail
  have hBt := Box.made W1 22 #[.slice none 0 0]
  have hbt : Below W1.heap.size W1 (W1.alloc (.cells #[.slice none 0 0] 22)) := by go_grown
  have hzt : (W1.alloc (.cells #[.slice none 0 0] 22)).heap.size = W1.heap.size + 1 := by simp
  generalize W1.alloc (.cells #[.slice none 0 0] 22) = W2 at hBt hbt hzt ⊢
  have hB2 := hBe.later hbt hBe.lt
  clear x0
  have x4 := hB2.at_ 4 _ rfl
  have HE1 := Lib.hid hBe; have HB1 := Lib.hid hbe; have HBT := Lib.hid hBt; have HBB := Lib.hid hbt; have HZT := Lib.hid hzt
  clear hBe hbe hBt hbt hzt
  clear hB2
  go_wp2_with fail
  clear x4
  go_loopg [9, 10, 11, 50] args.length (fun gg _ _ _ s50 wr => ∃ (jj c : Nat) (B : Option Addr) (L : List ByteArray), jj ≤ args.length ∧ args.length - jj ≤ gg ∧ s50 = .int .i64 jj ∧ Aside (L = (args.take jj).map fun a => (f a).1) ∧ Aside (∀ j, j < jj → ∀ y, args[j]? = some y → (f y).2 = 0) ∧
    Aside (Box wr W1.heap.size 22 #[.slice B L.length c]) ∧ Aside (Owns StrR 1 9 W2.heap.size wr none_ (.slice B L.length c) L) ∧ Aside (Below W1.heap.size W1 wr))
  case atStart => exact ⟨0, 0, none, [], Nat.zero_le _, by omega, rfl, aside rfl, aside (fun j hj => absurd hj (Nat.not_lt_zero _)), aside HBT.out, aside Owns.nil_, aside HBB.out⟩
  case round =>
    obtain ⟨jj, c', B, L, hjj, hg, rfl, hL, hz, hBt, hO, BW⟩ := hrel
    have hbw := below_step HB1.out BW.out
    by_cases hlt : jj < args.length
    · have hltz : (jj : Int) < (args.length : Int) := by omega
      have hLl : L.length = jj := by rw [hL.out]; simp; omega
      obtain ⟨b1, off, ds, rfl, hbF, hds, hr, hcell⟩ := (HA.out.up ExR.stays hF hbw).at_ (k := jj) hlt
      have hx := List.getElem?_eq_getElem hlt
      have hxm := List.getElem_mem hlt
      generalize args[jj] = a at hx hxm hr
      obtain ⟨A2, c2, rfl⟩ := ExR.form hr
      have hc0 := hcell 0 _ rfl
      have hc1 := hcell 1 _ rfl
      have hc2 := hcell 2 _ rfl
      have hc3 := hcell 3 _ rfl
      have hc4 := hcell 4 _ rfl
      simp only [Nat.add_zero] at hc0
      have hoT := HOK.out a
      obtain ⟨T, hT⟩ : ∃ z, (f a).1 = z := ⟨_, rfl⟩
      obtain ⟨z, hzz⟩ : ∃ z, (f a).2 = z := ⟨_, rfl⟩
      rw [hT] at hoT
      have HX := Lib.hid hx; have HT := Lib.hid hT; have HZ := Lib.hid hzz; have HBw := Lib.hid hbw; have HLl := Lib.hid hLl; have HR := Lib.hid hr; have HM := Lib.hid hxm
      clear hx hT hzz hbw hLl hr hxm
      clear hcell hds hbF
      go_upto_region 17 with fail
      have hBy := Box.made wr 88 #[.int .i64 a.kind, .int .i64 a.n, .string a.of_, .string a.s, .slice A2 a.args.length c2]
      have hby : Below wr.heap.size wr (wr.alloc (.cells #[.int .i64 a.kind, .int .i64 a.n, .string a.of_, .string a.s, .slice A2 a.args.length c2] 88)) := by go_grown
      have hzy : (wr.alloc (.cells #[.int .i64 a.kind, .int .i64 a.n, .string a.of_, .string a.s, .slice A2 a.args.length c2] 88)).heap.size = wr.heap.size + 1 := by simp
      generalize wr.alloc (.cells #[.int .i64 a.kind, .int .i64 a.n, .string a.of_, .string a.s, .slice A2 a.args.length c2] 88) = W4 at hBy hby hzy ⊢
      have y0 := hBy.at_ 0 _ rfl
      have y1 := hBy.at_ 1 _ rfl
      have y2 := hBy.at_ 2 _ rfl
      have y3 := hBy.at_ 3 _ rfl
      have y4 := hBy.at_ 4 _ rfl
      have hrc := HREC.out a HM.out _ W4 (below_step HBw.out hby) (ExR.stays.later HR.out hby (foot_up hF HBw.out))
      rw [HT.out, HZ.out] at hrc
      have hO4 := hO.out.below StrR.stays hby
      have hBt4 := hBt.out.later hby hBt.out.lt
      have hb4 := BW.out.trans (hby.mono BW.out.size)
      have HRC := Lib.hid hrc; have HO4 := Lib.hid hO4; have HBT4 := Lib.hid hBt4; have HB4 := Lib.hid hb4
      clear hrc hO4 hBt4 hb4
      clear hc0 hc1 hc2 hc3 hc4 hBy hby hzy
      by_cases hz0 : z = 0
      · subst hz0
        go_wp2_with fail
        refine HRC.out.mono ?_
        rintro e W5 ⟨rfl, hb5⟩
        have hO5 := HO4.out.below StrR.stays hb5
        have hBt5 := HBT4.out.later hb5 HBT4.out.lt
        have hb15 := HB4.out.trans (hb5.mono HB4.out.size)
        have n0 := hBt5.at_ 0 _ rfl
        have nf := hBt5.free 0
        have hb5s := hBt5.lt
        clear y0 y1 y2 y3 y4
        have HO5 := Lib.hid hO5; have HBT5 := Lib.hid hBt5; have HB5 := Lib.hid hb15; have HS5 := Lib.hid hb5s
        clear hO5 hBt5 hb15 hb5s
        clear hb5
        go_wp2_with (at_builtin; go_must ((refine wpList_push StrR.stays (.string ⟨#[]⟩) [.string T] T rfl rfl Tryd.underlying22 (bytes := 16) (by kernel_rfl) HO5.out rfl rfl (by decide) rfl rfl (show StrR W5 none_ _ _ from ⟨rfl, hoT⟩) (StrR.one (w := W5) (F := none_) _ _ ⟨rfl, hoT⟩) (fun k hk => hk.elim) (by unfold maxLen; have := HLl.out; omega) (by have := HLl.out; omega) (by have := HS5.out; have := HZT.out; omega) ?_); (intro A6 c6 W6 hO6 hgr _; have hb6 := HB5.out.trans (hgr.below (B := W1.heap.size) (by have := HZT.out; omega) HB5.out.size); have hB6 := hgr.box HBT5.out (by have := HZT.out; omega); clear n0 nf; have n0 := hB6.at_ 0 _ rfl; have nf := hB6.free 0; have HO6 := Lib.hid hO6; have HB6 := Lib.hid hb6; have HBT6 := Lib.hid hB6; clear hO6 hgr hb6 hB6)))
        go_roundg (args.length - (jj + 1))
        case measure => omega
        case rel =>
          refine ⟨jj + 1, c6, A6, L ++ [T], by omega, by omega, by go_num, aside ?_, aside (good_succ (g := fun a => (f a).2) HX.out HZ.out hz.out), aside ?_, aside ?_, aside (HB6.out.setCell (by simp) _)⟩
          · rw [List.take_add_one, HX.out, List.map_append, hL.out]
            simp [HT.out]
          · have h := HBT6.out.put 0 (.slice A6 (L.length + 1) c6)
            simpa using h
          · have h := (HO6.out.wider StrR.stays (F' := none_) (fun k hk => hk.elim id id) (fun k hk => hk.elim)).set StrR.stays (p := ⟨W1.heap.size, 0, none⟩) (by have := HZT.out; simp; omega) (fun k hk => hk.elim) (.slice A6 (L.length + 1) c6)
            simpa using h
      · have hzb : (z == 0) = false := by simp [hz0]
        have he := HBAD.out jj a z HX.out HZ.out hz0 hz.out
        subst he
        go_wp2_with fail
        refine HRC.out.mono ?_
        rintro e W5 ⟨rfl, hb5⟩
        have hbx := below_step HB1.out (HB4.out.trans (hb5.mono HB4.out.size))
        have HBX := Lib.hid hbx
        clear hbx
        clear hb5
        go_wp2_with fail
        go_ret2
        exact ⟨rfl, HBX.out⟩
    · have hltz : ¬ (jj : Int) < (args.length : Int) := by omega
      obtain rfl : jj = args.length := by omega
      obtain ⟨W7, rfl⟩ : ∃ W, W = wr := ⟨_, rfl⟩
      have he := HGOOD.out hz.out
      have hL2 : L = args.map fun a => (f a).1 := by rw [hL.out, List.take_length]
      have hLl : L.length = args.length := by rw [hL2, List.length_map]
      rw [← hL2] at he
      have hLok : ∀ s ∈ L, okS s := fun s hs => by rw [hL2] at hs; obtain ⟨a, _, rfl⟩ := List.mem_map.1 hs; exact HOK.out a
      have hsl := hO.out.slice StrR.stays (by_ := 16) (F' := old W7.heap.size) (fun k hk => hk.elim) (fun k h1 h2 => h2) (by omega) (by omega)
      have hB1 := HE1.out.later BW.out HE1.out.lt
      have hBt7 := hBt.out
      have hB2 := hBt7
      have hB3 := hBt7
      have x0 := hB1.at_ 0 _ rfl
      have n0 := hBt7.at_ 0 _ rfl
      obtain ⟨p, q, rfl⟩ := two_of (hLl.trans H2.out)
      have hop := hLok p (by simp)
      have hoq := hLok q (by simp)
      obtain ⟨b1, off, ds, hB, hbF, hds, ⟨rfl, _⟩, hcell⟩ := hsl.at_ (k := 0) (by simp)
      have hp0 := hcell 0 _ rfl
      obtain ⟨b2, off2, ds2, hB', hbF2, hds2, ⟨rfl, _⟩, hcell2⟩ := hsl.at_ (k := 1) (by simp)
      have hq0 := hcell2 0 _ rfl
      subst hB
      injection hB' with hB'
      injection hB' with e1 e2
      subst e1; subst e2
      simp only [Nat.zero_mul, Nat.one_mul, Nat.add_zero, List.getElem_cons_zero, List.getElem_cons_succ] at hp0 hq0
      have HE := Lib.hid he; have HBW := Lib.hid hbw
      clear he hbw
      clear hcell hcell2 hds hds2 hsl hL2 hLl hLok hz hO hB1 hB2 hB3
      have hel := fun U => elem_any p U hop
      have he : E = if (elemOf p).isSome = true ∧ (q.toList == [105, 110, 116]) = true then ((elemOf p).getD ⟨#[]⟩, 0) else (⟨#[]⟩, 8) := by rw [HE.out]; unfold atR nth eqB; rw [intT_list]; rfl
      simp only [List.length_cons, List.length_nil, Nat.zero_add] at *
      generalize (elemOf p).getD ⟨#[]⟩ = R at hel he
      generalize (elemOf p).isSome = z1 at hel he
      have HEL := Lib.hid hel
      clear hel hBt7 hBt
      cases z1
      all_goals cases h3 : (q.toList == [105, 110, 116])
      all_goals
        have hE2 := he
        rw [h3] at hE2
        simp at hE2
        subst hE2
        clear he
        go_wp2_with fail
        refine (HEL.out _).mono ?_
        rintro e w' ⟨rfl, rfl⟩
        go_wp2_with fail
        go_ret2
        exact ⟨rfl, HBW.out⟩

end Go.Proofs.YthedfpcdibhfpaaDoor

/- What expressions are: body's 'of', whatever the expression. -/
namespace Go.Proofs.YthedfpcdibhfpaaDoor
open Go.RowKit Go.Shelf

set_option maxRecDepth 100000 in
set_option maxHeartbeats 2000000 in
theorem of_call (b : Nat) (v : Int) (o s : ByteArray) (na : Nat) (A : Option Addr) (c : Nat) (E : ByteArray × Int) (w : World)
    (hc : ∀ U, Below w.heap.size w U → Calls Tryd.prog 77 #[.pointer (some ⟨b, 0, none⟩), .agg #[.int .i64 4, .int .i64 v, .string o, .string s, .slice A na c]] U fun e w' => e = .returned (.tuple #[.string E.1, .int .i64 E.2]) ∧ Below U.heap.size U w') :
    Calls Tryd.prog 40 #[.pointer (some ⟨b, 0, none⟩), .agg #[.int .i64 4, .int .i64 v, .string o, .string s, .slice A na c]] w fun e w' =>
      e = .returned (.tuple #[.string E.1, .int .i64 E.2]) ∧ Below w.heap.size w w' := by
  have HC := Lib.hid hc
  clear hc
  go_enter Tryd.func40, Tryd.ntmps40
  go_upto_region 1 with fail
  have hBe := Box.made w 88 #[.int .i64 4, .int .i64 v, .string o, .string s, .slice A na c]
  have hbe : Below w.heap.size w (w.alloc (.cells #[.int .i64 4, .int .i64 v, .string o, .string s, .slice A na c] 88)) := by go_grown
  have hze : (w.alloc (.cells #[.int .i64 4, .int .i64 v, .string o, .string s, .slice A na c] 88)).heap.size = w.heap.size + 1 := by simp
  generalize w.alloc (.cells #[.int .i64 4, .int .i64 v, .string o, .string s, .slice A na c] 88) = W1 at hBe hbe hze ⊢
  have x0 := hBe.at_ 0 _ rfl
  have x1 := hBe.at_ 1 _ rfl
  have x2 := hBe.at_ 2 _ rfl
  have x3 := hBe.at_ 3 _ rfl
  have x4 := hBe.at_ 4 _ rfl
  have Hb := Lib.hid hbe
  clear hbe
  clear hBe hze
  go_wp2_with fail
  refine (HC.out _ Hb.out).mono ?_
  rintro e W2 ⟨rfl, hb2⟩
  have hbw := below_step Hb.out hb2
  have HBW := Lib.hid hbw
  clear hbw
  clear hb2 x0 x1 x2 x3 x4
  go_wp2_with fail
  go_ret2
  exact ⟨rfl, HBW.out⟩

theorem of_any {m : Module} {l : List Import} {own : Face} {ps : List Known} {mx : Int} (hps : ∀ p ∈ ps, okS p.is_) (hR : ∀ o, Rising Sig.name (calledFace m l own o).funcs) : ∀ n : Nat, OfAt n (isR m l own ps n) mx m l own ps
  | 0 => fun _ _ _ _ _ _ _ _ _ _ _ _ _ _ _ _ _ _ _ h => by cases h
  | n + 1 => by
    have ih := of_any hps hR n (m := m) (l := l) (own := own) (mx := mx)
    have hok := isR_ok hps n (m := m) (l := l) (own := own)
    intro x b cs F w U1 u1 T1 e1 T2 e2 L1 l1 T3 e3 T4 e4 P1 p1 h hS hx hM
    obtain ⟨A, c, rfl⟩ := ExR.form hx
    obtain ⟨k, v, o, s, args⟩ := x
    simp only [Ex.kind, Ex.n, Ex.of_, Ex.s, Ex.args] at *
    obtain ⟨h8, hall, hc⟩ := ex_cases h
    have hA := (ex_args rfl hx).1
    rcases hc with ⟨rfl, _⟩ | ⟨rfl, _⟩ | ⟨rfl, _⟩ | ⟨rfl, _⟩ | ⟨rfl, h2⟩ | ⟨rfl, h2⟩ | ⟨rfl, h2⟩
    · exact of_num v o s args.length A c
    · exact of_txt v o s args.length A c
    · exact of_par v o s args.length A c hS
    · exact of_call b v o s args.length A c _ w fun U hU => call_any n _ mx m l own ps ih hok v o s args h8 hall b A c F U (hS.later hU) (hA.up ExR.stays hS.low hU) ((hU.cell (World.block_lt_of_cell? w _ hM)).trans hM) (hR o) _ rfl
    · exact of_sum n _ mx m l own ps ih hok v o s args h8 hall h2 b A c F w hS hA hM
    · exact of_items n _ mx m l own ps ih hok v o s args h8 hall h2 b A c F w hS hA hM
    · exact of_at n _ mx m l own ps ih hok v o s args h8 hall h2 b A c F w hS hA hM

end Go.Proofs.YthedfpcdibhfpaaDoor
