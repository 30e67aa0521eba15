/- alias.Solve answers as the document says (SolvedOf), at all modules and imports that may be, at every name and place. No condition. -/
import Derived.Test.YtejiaimcgmpliaaAliasSolvesW
import Derived.Test.YtejiaimcgmpliaaOpen
import Derived.Test.YtejiaimcgmpliaaFrame
namespace Go.Proofs.Ytejiaimcgmpliaa
open Go.ChangeShapes Go.WideShapes Go.ChangeAt Go.RowKit
open Go.ChangeMaps (open_string)

set_option maxRecDepth 100000 in
theorem aliasSolves_opened {H : Type} {enc : TypeId × Value → H} (W : World) (base : Nat) (args : Array Value) (ds : List (DataW H)) (ps : List MemPlace)
    (hval : ∀ (j : Nat) t v, Try.f4.params[j]? = some t → args[j]? = some v → Value.okWide Try.checked.prog W .any base t v)
    (hA : DataW.TrodAll enc Try.checked.prog W 0 (fun _ => true) true Try.f4.params.toList args.toList ds ps) (hlt : ∀ x ∈ ps, x.block < W.heap.size)
    (hsz : (DataW.weightsEach Try.checked.prog Try.f4.params.toList ds).all (· ≤ reachBytes) = true) :
    Calls Try.checked.prog 4 args W fun e W' => e = .returned (.bool true) ∧ Below W.heap.size W W' := by
  rw [Try.params4] at hA hval hsz
  obtain ⟨v0, v1, v2, v3, d0, d1, d2, d3, p0, p1, p2, p3, rfl, rfl, rfl, h0, h1, h2, h3⟩ := trodAll_four hA
  obtain ⟨c0, m, rfl, hr0⟩ := arg_struct Try.underlying32 (fun N => opens_module) (hval 0 _ v0 rfl rfl) h0 (fun x hx => hlt x (by simp [hx])) (weights_of hsz (j := 0) rfl rfl)
  obtain ⟨l, hr1⟩ := arg_slice Try.underlying33 (fun N => opens_imports) (hval 1 _ v1 rfl rfl) h1 (fun x hx => hlt x (by simp [hx])) (weights_of hsz (j := 1) rfl rfl)
  obtain ⟨s, rfl, rfl, rfl, _⟩ := open_string Try.underlying9 (hval 2 _ v2 rfl rfl) h2
  obtain ⟨at_, rfl, rfl, rfl, w3⟩ := open_int Try.underlying3 (hval 3 _ v3 rfl rfl) h3
  exact aliasSolves_calls c0 m v1 l s at_ W hr0 hr1 (size_of_reach (sized_string hsz (j := 2) rfl rfl)) (i64_of_wf w3)

set_option maxHeartbeats 8000000 in
theorem aliasSolves_facts : joinedFacts Try.prog 4 Try.f4 Rows.aliasSolvesSpec Rows.aliasSolvesRow = true := by
  unfold joinedFacts
  exact and32 (by as_aux_lemma => kernel_rfl) Try.laidOut Try.mapsRowed (by as_aux_lemma => kernel_rfl) (by as_aux_lemma => kernel_rfl) (by as_aux_lemma => kernel_rfl) (by as_aux_lemma => kernel_rfl) (by as_aux_lemma => kernel_rfl) (by as_aux_lemma => kernel_rfl) (by as_aux_lemma => kernel_rfl) (by as_aux_lemma => kernel_rfl) (by as_aux_lemma => kernel_rfl) (by as_aux_lemma => kernel_rfl) (by as_aux_lemma => kernel_rfl) (by as_aux_lemma => kernel_rfl) (by as_aux_lemma => kernel_rfl) (by as_aux_lemma => kernel_rfl) (by as_aux_lemma => kernel_rfl) (by as_aux_lemma => kernel_rfl) (by as_aux_lemma => kernel_rfl) (by as_aux_lemma => kernel_rfl) (by as_aux_lemma => kernel_rfl) (by as_aux_lemma => kernel_rfl) (by as_aux_lemma => kernel_rfl) Try.stopsHeard Try.mayEnter (by rw [Try.liftsFinal]; kernel_rfl) (by rw [Try.make]; kernel_rfl) (by as_aux_lemma => kernel_rfl) (by as_aux_lemma => kernel_rfl) (by as_aux_lemma => kernel_rfl) (by as_aux_lemma => kernel_rfl)

theorem aliasSolves_start {os : Os} {H : Type} {enc : TypeId × Value → H} : ∃ (w : World) (tape : Tape) (i : Input), w.os = os ∧ (w.forCall tape i).Shaped Try.checked.prog ∧ i.vars = [] ∧ Input.okWide Try.checked.prog (w.forCall tape i) .any w.heap.size 4 i ∧
      Rows.aliasSolvesSpec.pre6 enc Try.checked.prog Try.f4 Rows.aliasSolvesRow.domain false (w.forCall tape i).memory i.args ∧ ({} : Assume).holds Try.checked.prog (lone (Frame.enter Try.checked.prog 4 i.args .normal) [] (w.forCall tape i)) :=
  ChangeSpec.witness6 (enc := enc) (C := Try.checked) false ⟨#[], #[.agg #[.slice none 0 0, .slice none 0 0, .slice none 0 0], .slice none 0 0, .string ⟨#[]⟩, .int .i64 0], []⟩ 8 (by as_aux_lemma => kernel_rfl) (by as_aux_lemma => kernel_rfl) (by as_aux_lemma => kernel_rfl) (by as_aux_lemma => kernel_rfl) (by as_aux_lemma => kernel_rfl)

theorem aliasSolves_lifted (os : Os) (started : os.Started) (H : Type) (enc : TypeId × Value → H) :
    ReturnsInHanded {} Try.checked os 4 .any (Rows.aliasSolvesSpec.pre6 enc Try.prog Try.f4 Rows.aliasSolvesRow.domain false) (Rows.aliasSolvesSpec.post enc Try.prog Try.f4 false true false false) :=
  law_lifted (C := Try.checked) started Try.own Try.laidOut (by as_aux_lemma => kernel_rfl) Try.func4 aliasSolves_start
    (by as_aux_lemma => kernel_rfl) rfl Try.underlying4 rfl
    (fun ds hd => match ds, hd with | [d0, d1, d2, d3], _ => ⟨rfl, rfl, rfl⟩)
    aliasSolves_opened

theorem aliasSolves_holds : Rows.AliasSolvesSaid :=
  OpenClaim.holds_of_wide 4 Try.f4 rfl rfl rfl rfl rfl rfl rfl ⟨rfl, rfl, rfl, rfl, rfl⟩ rfl rfl rfl rfl rfl (by as_aux_lemma => kernel_rfl) Try.func4 aliasSolves_facts
    (of_decide_eq_true (by as_aux_lemma => kernel_rfl)) (by unfold Func.isWrapper; first | (rw [if_pos (by decide +kernel)]; kernel_rfl) | (rw [if_neg (by decide +kernel)]; exact ⟨rfl, rfl⟩))
    (fun os started H enc _ => aliasSolves_lifted os started H enc)
#print axioms aliasSolves_holds

end Go.Proofs.Ytejiaimcgmpliaa
