/- face.Same answers as the document says (SameFace), at all faces. No condition. -/
import Derived.Test.YtamkgphamffdcaaFaceRef
import Derived.Test.YtamkgphamffdcaaOpen
import Derived.Test.YtamkgphamffdcaaFrame
namespace Go.Proofs.Ytamkgphamffdcaa
open Go.ChangeShapes Go.WideShapes Go.ChangeAt Go.RowKit
open Go.ChangeMaps (open_string)

set_option maxRecDepth 100000 in
set_option maxHeartbeats 1000000 in
theorem faceSames_calls (cs : List Value) (a : Face) (ds : List Value) (b : Face) (W : World) (ha : FaceR W (old W.heap.size) cs a) (hb : FaceR W (old W.heap.size) ds b) :
    Calls Try.prog 10 #[.agg cs.toArray, .agg ds.toArray] W fun e w' => e = .returned (.bool true) ∧ Below W.heap.size W w' := by
  have hO : ∀ k, old W.heap.size k → k < W.heap.size := fun _ h => h
  have hca := fun U hK => FaceR.stays W U _ _ cs a ha (fun _ h => h) hK
  have hcb := fun U hK => FaceR.stays W U _ _ ds b hb (fun _ h => h) hK
  obtain ⟨tv, fv, rfl, _, _⟩ := ha
  obtain ⟨tu, fu, rfl, _, _⟩ := hb
  have hB := boxed2 W 32 tv fv tu fu
  have hc := fun U (hU : Below W.heap.size W U) => same_any a b _ _ _ _ U (lt_below hO hU) (lt_below hO hU) (hca U (Keeps.of_below hU hO)) (hcb U (Keeps.of_below hU hO))
  have hd := fun U (hU : Below W.heap.size W U) => sameFace_any a b _ _ _ _ U (lt_below hO hU) (lt_below hO hU) (hca U (Keeps.of_below hU hO)) (hcb U (Keeps.of_below hU hO))
  generalize faceEq a b = z at hc hd
  have HC := Lib.hid hc
  have HD := Lib.hid hd
  clear hc hd hca hcb
  go_enter Try.func10, Try.ntmps10
  go_wp2_with fail
  have HBl := Lib.hid hB
  refine (HC.out _ hB.below).mono ?_
  rintro e w' ⟨rfl, hb1⟩
  have hB1 := HBl.out.later (hb1.mono hB.size)
  have ha0 := hB1.ca0
  have ha1 := hB1.ca1
  have hb0 := hB1.cb0
  have hb1' := hB1.cb1
  have HB1 := Lib.hid hB1
  clear hB1 hB HBl hb1
  go_wp2_with fail
  refine (HD.out _ HB1.out.below).mono ?_
  rintro e w2 ⟨rfl, hb2⟩
  go_wp2
  go_ret
  exact ⟨ret_bool (by simp), HB1.out.below.trans (hb2.mono HB1.out.below.size)⟩

set_option maxRecDepth 100000 in
theorem faceSames_opened {H : Type} {enc : TypeId × Value → H} (W : World) (base : Nat) (args : Array Value) (ds : List (DataW H)) (ps : List MemPlace)
    (hval : ∀ (j : Nat) t v, Try.f10.params[j]? = some t → args[j]? = some v → Value.okWide Try.checked.prog W .any base t v)
    (hA : DataW.TrodAll enc Try.checked.prog W 0 (fun _ => true) true Try.f10.params.toList args.toList ds ps) (hlt : ∀ x ∈ ps, x.block < W.heap.size)
    (hsz : (DataW.weightsEach Try.checked.prog Try.f10.params.toList ds).all (· ≤ reachBytes) = true) :
    Calls Try.checked.prog 10 args W fun e W' => e = .returned (.bool true) ∧ Below W.heap.size W W' := by
  rw [Try.params10] at hA hval hsz
  obtain ⟨v0, v1, d0, d1, p0, p1, rfl, rfl, rfl, h0, h1⟩ := trodAll_two hA
  obtain ⟨c0, a, rfl, hr0⟩ := arg_struct Try.underlying32 (fun N => opens_face) (hval 0 _ v0 rfl rfl) h0 (fun x hx => hlt x (by simp [hx])) (weights_of hsz (j := 0) rfl rfl)
  obtain ⟨c1, b, rfl, hr1⟩ := arg_struct Try.underlying32 (fun N => opens_face) (hval 1 _ v1 rfl rfl) h1 (fun x hx => hlt x (by simp [hx])) (weights_of hsz (j := 1) rfl rfl)
  exact faceSames_calls c0 a c1 b W hr0 hr1

theorem faceSames_facts : joinedFacts Try.prog 10 Try.f10 Rows.faceSamesSpec Rows.faceSamesRow = true := by
  unfold joinedFacts
  exact and32 (by as_aux_lemma => kernel_rfl) Try.laidOut Try.mapsRowed (by as_aux_lemma => kernel_rfl) (by as_aux_lemma => kernel_rfl) (by as_aux_lemma => kernel_rfl) (by as_aux_lemma => kernel_rfl) (by as_aux_lemma => kernel_rfl) (by as_aux_lemma => kernel_rfl) (by as_aux_lemma => kernel_rfl) (by as_aux_lemma => kernel_rfl) (by as_aux_lemma => kernel_rfl) (by as_aux_lemma => kernel_rfl) (by as_aux_lemma => kernel_rfl) (by as_aux_lemma => kernel_rfl) (by as_aux_lemma => kernel_rfl) (by as_aux_lemma => kernel_rfl) (by as_aux_lemma => kernel_rfl) (by as_aux_lemma => kernel_rfl) (by as_aux_lemma => kernel_rfl) (by as_aux_lemma => kernel_rfl) (by as_aux_lemma => kernel_rfl) (by as_aux_lemma => kernel_rfl) (by as_aux_lemma => kernel_rfl) Try.stopsHeard Try.mayEnter (by rw [Try.liftsFinal]; kernel_rfl) (by rw [Try.make]; kernel_rfl) (by as_aux_lemma => kernel_rfl) (by as_aux_lemma => kernel_rfl) (by as_aux_lemma => kernel_rfl) (by as_aux_lemma => kernel_rfl)

theorem faceSames_start {os : Os} {H : Type} {enc : TypeId × Value → H} : ∃ (w : World) (tape : Tape) (i : Input), w.os = os ∧ (w.forCall tape i).Shaped Try.checked.prog ∧ i.vars = [] ∧ Input.okWide Try.checked.prog (w.forCall tape i) .any w.heap.size 10 i ∧
      Rows.faceSamesSpec.pre6 enc Try.checked.prog Try.f10 Rows.faceSamesRow.domain false (w.forCall tape i).memory i.args ∧ ({} : Assume).holds Try.checked.prog (lone (Frame.enter Try.checked.prog 10 i.args .normal) [] (w.forCall tape i)) :=
  ChangeSpec.witness6 (enc := enc) (C := Try.checked) false ⟨#[], #[.agg #[.slice none 0 0, .slice none 0 0], .agg #[.slice none 0 0, .slice none 0 0]], []⟩ 8 (by as_aux_lemma => kernel_rfl) (by as_aux_lemma => kernel_rfl) (by as_aux_lemma => kernel_rfl) (by as_aux_lemma => kernel_rfl) (by as_aux_lemma => kernel_rfl)

theorem faceSames_lifted (os : Os) (started : os.Started) (H : Type) (enc : TypeId × Value → H) :
    ReturnsInHanded {} Try.checked os 10 .any (Rows.faceSamesSpec.pre6 enc Try.prog Try.f10 Rows.faceSamesRow.domain false) (Rows.faceSamesSpec.post enc Try.prog Try.f10 false true false false) :=
  law_lifted (C := Try.checked) started Try.own Try.laidOut (by as_aux_lemma => kernel_rfl) Try.func10 faceSames_start
    (by as_aux_lemma => kernel_rfl) rfl Try.underlying4 rfl
    (fun ds hd => match ds, hd with | [d0, d1], _ => ⟨rfl, rfl, rfl⟩)
    faceSames_opened

theorem faceSames_holds : Rows.FaceSamesSaid :=
  OpenClaim.holds_of_wide 10 Try.f10 rfl rfl rfl rfl rfl rfl rfl ⟨rfl, rfl, rfl, rfl, rfl⟩ rfl rfl rfl rfl rfl (by as_aux_lemma => kernel_rfl) Try.func10 faceSames_facts
    (of_decide_eq_true (by as_aux_lemma => kernel_rfl)) (by unfold Func.isWrapper; first | (rw [if_pos (by decide +kernel)]; kernel_rfl) | (rw [if_neg (by decide +kernel)]; exact ⟨rfl, rfl⟩))
    (fun os started H enc _ => faceSames_lifted os started H enc)
#print axioms faceSames_holds

end Go.Proofs.Ytamkgphamffdcaa
