/- Where a node of a name is: graph.find; the nodes that one uses, as bits: graph.direct. -/
import Derived.Test.YtafhepilcmimlaaDoorSearch
import Derived.Test.YtafhepilcmimlaaDoorShelf
import Derived.Test.YtafhepilcmimlaaDoorFaceFind
import Derived.Test.YtafhepilcmimlaaDoorGraphPlain2
namespace Go.Proofs.YtafhepilcmimlaaDoor
open Go.RowKit Go.Shelf

/-- The place of a name; -1: there is none. -/
def placeI (l : List Node) (t : ByteArray) : Int := match placeOf l t with | some k => (k : Int) | none => -1
theorem place_hit {l : List Node} {t : ByteArray} {i : Nat} (hR : Rising Node.name l) (h : hitB Node.name l t i = true) : placeOf l t = some i ∧ placeI l t = (i : Int) := by
  obtain ⟨x, hx, hd⟩ := hitB_true h
  have hp := (placeOf_some hR).2 ⟨x, hx, of_decide_eq_true hd⟩
  exact ⟨hp, by unfold placeI; rw [hp]⟩
theorem place_miss {l : List Node} {t : ByteArray} {i : Nat} (hR : Rising Node.name l) (hP : Parts Node.name l t i) (h : hitB Node.name l t i = false) : placeOf l t = none ∧ placeI l t = -1 := by
  have hn := hP.miss hR (hitB_false h)
  unfold named at hn
  rw [List.find?_eq_none] at hn
  have hp : placeOf l t = none := by
    cases hk : placeOf l t with
    | none => rfl
    | some k =>
      obtain ⟨x, hx, rfl⟩ := (placeOf_some hR).1 hk
      exact absurd (decide_eq_true rfl) (hn x (List.mem_of_getElem? hx))
  exact ⟨hp, by unfold placeI; rw [hp]⟩

set_option maxRecDepth 100000 in
set_option maxHeartbeats 1000000 in
theorem find1_any (x : Node) (t : ByteArray) (cs : List Value) (F : Foot) (w : World) (h : NodeR w F cs x) : Calls Tryd.prog 57 #[.agg cs.toArray, .string t] w fun e w' => e = .returned (.int .i64 (Lib.compareBytes x.name.data.toList t.data.toList)) ∧ Below w.heap.size w w' := by
  obtain ⟨pv, rfl, _, hp⟩ := h
  obtain ⟨P1, p1, rfl, _⟩ := hp.form
  have hc := fun W => Tryd.strings_Compare x.name t W
  generalize Lib.compareBytes x.name.data.toList t.data.toList = z at hc ⊢
  have HC := Lib.hid hc
  clear hc hp
  go_enter Tryd.func57, Tryd.ntmps57
  go_wp2_with (go_at_call 7; refine (HC.out _).mono ?_; rintro e w' ⟨rfl, rfl⟩)
  go_ret
  exact ⟨rfl, by go_grown⟩

set_option maxRecDepth 100000 in
set_option maxHeartbeats 1000000 in
theorem find_any (v : Value) (l : List Node) (t : ByteArray) (F : Foot) (w : World) (hF : ∀ k, F k → k < w.heap.size) (hv : SliceOf NodeR 2 40 w F v l) (hR : Rising Node.name l) :
    Calls Tryd.prog 38 #[v, .string t] w fun e w' => e = .returned (.int .i64 (placeI l t)) ∧ Below w.heap.size w w' := by
  have hs := search_nodes v l F t 57 #[] w (enters_of Tryd.func57 (by kernel_rfl) rfl) hF hv (fun W x cs _ _ hx => find1_any x t cs F W hx)
  obtain ⟨A, cap, rfl, _⟩ := hv.form
  have hhit := fun i => place_hit (t := t) (i := i) hR
  have hmiss := fun i => place_miss (t := t) (i := i) hR
  generalize placeI l t = z at *
  have HS := Lib.hid hs; have HH := Lib.hid hhit; have HM := Lib.hid hmiss
  clear hs hhit hmiss
  clear hv hR
  go_enter Tryd.func38, Tryd.ntmps38
  go_wp2_with fail
  refine HS.out.mono ?_
  rintro e w' ⟨i, hP, rfl, hb⟩
  cases hh : hitB Node.name l t i with
  | true =>
    have hz := (HH.out i hh).2
    subst hz
    have HB := Lib.hid hb
    clear hb
    clear hh hP
    go_wp2_with fail
    go_ret
    exact ⟨rfl, HB.out⟩
  | false =>
    have hz := (HM.out i hP hh).2
    subst hz
    have HB := Lib.hid hb
    clear hb
    clear hh hP
    go_wp2_with fail
    go_ret
    exact ⟨rfl, HB.out⟩

end Go.Proofs.YtafhepilcmimlaaDoor
