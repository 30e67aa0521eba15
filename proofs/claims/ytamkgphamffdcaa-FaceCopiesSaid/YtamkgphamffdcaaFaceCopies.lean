/- face.Copy answers as the document says: the copy is the same face (SameFace), at all faces. No condition. -/
import Derived.Test.YtamkgphamffdcaaFaceCopy
import Derived.Test.YtamkgphamffdcaaOpen
import Derived.Test.YtamkgphamffdcaaFrame
namespace Go.Proofs.Ytamkgphamffdcaa
open Go.ChangeShapes Go.WideShapes Go.ChangeAt Go.RowKit
open Go.ChangeMaps (open_string)

theorem eqB_refl (a : ByteArray) : eqB a a = true := by simp [eqB]
theorem knownEq_refl (a : Known) : knownEq a a = true := by simp [knownEq, eqB_refl]
theorem sigEq_refl (a : Sig) : sigEq a a = true := by simp [sigEq, eqB_refl, listEq_refl eqB_refl]
theorem faceEq_refl (a : Face) : faceEq a a = true := by simp [faceEq, listEq_refl knownEq_refl, listEq_refl sigEq_refl]

set_option maxRecDepth 100000 in
set_option maxHeartbeats 1000000 in
theorem faceCopies_calls (cs : List Value) (a : Face) (W : World) (ha : FaceR W (old W.heap.size) cs a) :
    Calls Try.prog 7 #[.agg cs.toArray] W fun e w' => e = .returned (.bool true) ∧ Below W.heap.size W w' := by
  have hO : ∀ k, old W.heap.size k → k < W.heap.size := fun _ h => h
  have hca := fun U (hU : Below W.heap.size W U) => FaceR.stays W U _ _ cs a ha (fun _ h => h) (Keeps.of_below hU hO)
  obtain ⟨tv, fv, rfl, _, _⟩ := ha
  have hc := fun U (hU : Below W.heap.size W U) => copyFace_any a [tv, fv] (old W.heap.size) U (lt_below hO hU) (hca U hU)
  have hd := fun U ds G (hU : Below W.heap.size W U) hG hf => sameFace_any a a ds [tv, fv] G (old W.heap.size) U hG (lt_below hO hU) hf (hca U hU)
  rw [faceEq_refl] at hd
  have HC := Lib.hid hc
  have HD := Lib.hid hd
  clear hc hd hca
  go_enter Try.func7, Try.ntmps7
  go_wp2_with fail
  have hB := Box.made W 32 #[tv, fv]
  have hb0 : Below W.heap.size W (W.alloc (.cells #[tv, fv] 32)) := by go_grown
  generalize W.alloc (.cells #[tv, fv] 32) = W1 at hB hb0 ⊢
  refine (HC.out _ hb0).mono ?_
  rintro e w' ⟨ds, rfl, hb, hfr⟩
  have hB1 := hB.later hb hB.lt
  have hb1 := hb0.trans (hb.mono hb0.size)
  obtain ⟨tu, fu, rfl, hk, hs⟩ := hfr
  obtain ⟨T1, e1, rfl, _⟩ := hk.form
  obtain ⟨T2, e2, rfl, _⟩ := hs.form
  have ha0 := hB1.at_ 0 tv rfl
  have ha1 := hB1.at_ 1 fv rfl
  have hsz := hB1.lt
  have HF := Lib.hid (FaceR.stays w' (w'.alloc (.cells #[.slice T1 a.types.length e1, .slice T2 a.funcs.length e2] 32)) _ _ [.slice T1 a.types.length e1, .slice T2 a.funcs.length e2] a ⟨_, _, rfl, hk, hs⟩ (fun _ h => h) (Keeps.alloc (Keeps.refl _ _) (fun k hk => hk.2) _))
  have HB := Lib.hid hb1
  clear hB hB1 hb hk hs hb1 hb0
  go_wp2_with fail
  refine (HD.out _ _ _ (HB.out.alloc HB.out.size _) (fun k hk => by have := hk.2; simp; omega) HF.out).mono ?_
  rintro e w2 ⟨rfl, hb2⟩
  go_wp2
  go_ret
  exact ⟨rfl, (HB.out.alloc HB.out.size _).trans (hb2.mono (by have := HB.out.size; simp; omega))⟩

set_option maxRecDepth 100000 in
theorem faceCopies_opened {H : Type} {enc : TypeId × Value → H} (W : World) (base : Nat) (args : Array Value) (ds : List (DataW H)) (ps : List MemPlace)
    (hval : ∀ (j : Nat) t v, Try.f7.params[j]? = some t → args[j]? = some v → Value.okWide Try.checked.prog W .any base t v)
    (hA : DataW.TrodAll enc Try.checked.prog W 0 (fun _ => true) true Try.f7.params.toList args.toList ds ps) (hlt : ∀ x ∈ ps, x.block < W.heap.size)
    (hsz : (DataW.weightsEach Try.checked.prog Try.f7.params.toList ds).all (· ≤ reachBytes) = true) :
    Calls Try.checked.prog 7 args W fun e W' => e = .returned (.bool true) ∧ Below W.heap.size W W' := by
  rw [Try.params7] at hA hval hsz
  obtain ⟨v0, d0, rfl, rfl, h0⟩ := trodAll_one hA
  obtain ⟨c0, a, rfl, hr0⟩ := arg_struct Try.underlying32 (fun N => opens_face) (hval 0 _ v0 rfl rfl) h0 (fun x hx => hlt x (by simp [hx])) (weights_of hsz (j := 0) rfl rfl)
  exact faceCopies_calls c0 a W hr0

theorem faceCopies_facts : joinedFacts Try.prog 7 Try.f7 Rows.faceCopiesSpec Rows.faceCopiesRow = true := by
  unfold joinedFacts
  exact and32 (by as_aux_lemma => kernel_rfl) Try.laidOut Try.mapsRowed (by as_aux_lemma => kernel_rfl) (by as_aux_lemma => kernel_rfl) (by as_aux_lemma => kernel_rfl) (by as_aux_lemma => kernel_rfl) (by as_aux_lemma => kernel_rfl) (by as_aux_lemma => kernel_rfl) (by as_aux_lemma => kernel_rfl) (by as_aux_lemma => kernel_rfl) (by as_aux_lemma => kernel_rfl) (by as_aux_lemma => kernel_rfl) (by as_aux_lemma => kernel_rfl) (by as_aux_lemma => kernel_rfl) (by as_aux_lemma => kernel_rfl) (by as_aux_lemma => kernel_rfl) (by as_aux_lemma => kernel_rfl) (by as_aux_lemma => kernel_rfl) (by as_aux_lemma => kernel_rfl) (by as_aux_lemma => kernel_rfl) (by as_aux_lemma => kernel_rfl) (by as_aux_lemma => kernel_rfl) (by as_aux_lemma => kernel_rfl) Try.stopsHeard Try.mayEnter (by rw [Try.liftsFinal]; kernel_rfl) (by rw [Try.make]; kernel_rfl) (by as_aux_lemma => kernel_rfl) (by as_aux_lemma => kernel_rfl) (by as_aux_lemma => kernel_rfl) (by as_aux_lemma => kernel_rfl)

theorem faceCopies_start {os : Os} {H : Type} {enc : TypeId × Value → H} : ∃ (w : World) (tape : Tape) (i : Input), w.os = os ∧ (w.forCall tape i).Shaped Try.checked.prog ∧ i.vars = [] ∧ Input.okWide Try.checked.prog (w.forCall tape i) .any w.heap.size 7 i ∧
      Rows.faceCopiesSpec.pre6 enc Try.checked.prog Try.f7 Rows.faceCopiesRow.domain false (w.forCall tape i).memory i.args ∧ ({} : Assume).holds Try.checked.prog (lone (Frame.enter Try.checked.prog 7 i.args .normal) [] (w.forCall tape i)) :=
  ChangeSpec.witness6 (enc := enc) (C := Try.checked) false ⟨#[], #[.agg #[.slice none 0 0, .slice none 0 0]], []⟩ 8 (by as_aux_lemma => kernel_rfl) (by as_aux_lemma => kernel_rfl) (by as_aux_lemma => kernel_rfl) (by as_aux_lemma => kernel_rfl) (by as_aux_lemma => kernel_rfl)

theorem faceCopies_lifted (os : Os) (started : os.Started) (H : Type) (enc : TypeId × Value → H) :
    ReturnsInHanded {} Try.checked os 7 .any (Rows.faceCopiesSpec.pre6 enc Try.prog Try.f7 Rows.faceCopiesRow.domain false) (Rows.faceCopiesSpec.post enc Try.prog Try.f7 false true false false) :=
  law_lifted (C := Try.checked) started Try.own Try.laidOut (by as_aux_lemma => kernel_rfl) Try.func7 faceCopies_start
    (by as_aux_lemma => kernel_rfl) rfl Try.underlying4 rfl
    (fun ds hd => match ds, hd with | [d0], _ => ⟨rfl, rfl, rfl⟩)
    faceCopies_opened

theorem faceCopies_holds : Rows.FaceCopiesSaid :=
  OpenClaim.holds_of_wide 7 Try.f7 rfl rfl rfl rfl rfl rfl rfl ⟨rfl, rfl, rfl, rfl, rfl⟩ rfl rfl rfl rfl rfl (by as_aux_lemma => kernel_rfl) Try.func7 faceCopies_facts
    (of_decide_eq_true (by as_aux_lemma => kernel_rfl)) (by unfold Func.isWrapper; first | (rw [if_pos (by decide +kernel)]; kernel_rfl) | (rw [if_neg (by decide +kernel)]; exact ⟨rfl, rfl⟩))
    (fun os started H enc _ => faceCopies_lifted os started H enc)
#print axioms faceCopies_holds

end Go.Proofs.Ytamkgphamffdcaa
