/- Names: tree.Ident and the reference's NameMay. -/
import Derived.Test.YtjaladhdnbhliaaGreatDoorWord
import Derived.Test.YtjaladhdnbhliaaGreatDoorStrs
namespace Go.Proofs.YtjaladhdnbhliaaGreatDoor
open Go.RowKit Go.Shelf

def kwUse : ByteArray := ⟨#[117, 115, 101]⟩
def kwType : ByteArray := ⟨#[116, 121, 112, 101]⟩
def kwFunc : ByteArray := ⟨#[102, 117, 110, 99]⟩
def kwInt : ByteArray := ⟨#[105, 110, 116]⟩
def kwText : ByteArray := ⟨#[116, 101, 120, 116]⟩
def keywords : List ByteArray := [kwUse, kwType, kwFunc, kwInt, kwText]
/-- May it be a name? -/
def nameOk (s : ByteArray) : Bool := wordOk s && !(hasS keywords s)

theorem kw_one (s : ByteArray) (l : List UInt8) : decide ((⟨l.toArray⟩ : ByteArray) = s) = (s.toList == l) := by
  rw [ByteArray.toList_eq, Bool.eq_iff_iff, beq_iff_eq, decide_eq_true_eq]
  constructor
  · intro h; rw [← h]
  · intro h; exact Go.WideShapes.bytes_inj h.symm
theorem kw_all (s : ByteArray) : hasS keywords s = ((s.toList == [117, 115, 101]) || ((s.toList == [116, 121, 112, 101]) || ((s.toList == [102, 117, 110, 99]) || ((s.toList == [105, 110, 116]) || ((s.toList == [116, 101, 120, 116]) || false))))) := by
  rw [← kw_one s [117, 115, 101], ← kw_one s [116, 121, 112, 101], ← kw_one s [102, 117, 110, 99], ← kw_one s [105, 110, 116], ← kw_one s [116, 101, 120, 116]]
  rfl
theorem kw_small : ∀ s ∈ keywords, s.size ≤ 140737488355328 := by
  intro s hs
  simp only [keywords, List.mem_cons, List.not_mem_nil, or_false] at hs
  rcases hs with rfl | rfl | rfl | rfl | rfl <;> simp [kwUse, kwType, kwFunc, kwInt, kwText, ByteArray.size]

/-- A block of texts reads as a list of them. -/
theorem strs_block (W : World) (ss : List ByteArray) (e : TypeId) (m : Nat × Nat) (cap : Nat) (hs : ∀ s ∈ ss, s.size ≤ 140737488355328) (hl : ss.length * 16 ≤ 140737488355328) (hc : ss.length ≤ cap) (hm : cap ≤ maxLen) :
    SliceOf StrR 1 16 (W.alloc (.cells (ss.map Value.string).toArray e m)) (fun k => k = W.heap.size) (.slice (some ⟨W.heap.size, 0, none⟩) ss.length cap) ss := by
  refine ⟨_, cap, rfl, hc, hm, hl, by omega, fun _ => ⟨W.heap.size, 0, rfl, rfl, fun i x hi => ⟨[.string x], rfl, ⟨rfl, hs _ (List.mem_of_getElem? hi)⟩, fun j u hj => ?_⟩⟩⟩
  have hj0 : j = 0 := by
    have := (List.getElem?_eq_some_iff.1 hj).1
    simp at this; exact this
  subst hj0
  simp only [List.getElem?_cons_zero, Option.some.injEq] at hj
  subst hj
  have hh : (W.alloc (.cells (ss.map Value.string).toArray e m)).heap[W.heap.size]? = some (.cells (ss.map Value.string).toArray e m) := heap_alloc_new W _
  rw [cell_of_row _ _ _ _ _ _ hh]
  simp [hi]

set_option maxRecDepth 100000 in
set_option maxHeartbeats 400000 in
theorem ident_any (s : ByteArray) (w : World) (hs : s.size ≤ 140737488355328) : Calls Tryz.prog 61 #[.string s] w fun e w' => e = .returned (.bool (nameOk s)) ∧ Below w.heap.size w w' := by
  have hword := word_any s w hs
  unfold nameOk
  cases hq : wordOk s with
  | false =>
    rw [hq] at hword
    have HW := Lib.hid hword; clear hword hq
    go_enter Tryz.func61, Tryz.ntmps61
    go_wp2_with fail
    refine HW.out.mono ?_
    rintro e w' ⟨rfl, hb⟩
    go_wp2
    go_ret
    exact ⟨rfl, hb⟩
  | true =>
    rw [hq] at hword
    have HW := Lib.hid hword; clear hword hq
    go_enter Tryz.func61, Tryz.ntmps61
    go_wp2_with fail
    refine HW.out.mono ?_
    rintro e w' ⟨rfl, hb⟩
    go_wp2_with fail
    refine (contains_strs _ keywords _ s _ (strs_block w' keywords 9 (0, 0) 5 kw_small (by decide) (by decide) (by decide))).mono ?_
    rintro e w2 ⟨rfl, rfl⟩
    go_wp2
    go_ret
    exact ⟨rfl, hb.alloc hb.size _⟩

set_option maxRecDepth 100000 in
set_option maxHeartbeats 400000 in
theorem nameMay_any (s : ByteArray) (w : World) (hs : s.size ≤ 140737488355328) : Calls Tryz.prog 98 #[.string s] w fun e w' => e = .returned (.bool (nameOk s)) ∧ w = w' := by
  go_enter Tryz.func98, Tryz.ntmps98
  go_wp2_with (go_at_call 164; refine (wordMay_any _ _ hs).mono ?_; rintro e w' ⟨rfl, rfl⟩)
  all_goals go_ret
  all_goals (go_tidy; refine ⟨ret_bool ?_, rfl⟩; unfold nameOk; rw [kw_all]; simp_all; try (simp only [Bool.and_assoc]))

end Go.Proofs.YtjaladhdnbhliaaGreatDoor
