/- log.Append answers as the document says (AppendedOf), at all logs and records. No condition. -/
import Derived.Test.YtamkgphamffdcaaLogAppendsW
import Derived.Test.YtamkgphamffdcaaOpen
import Derived.Test.YtamkgphamffdcaaFrame
namespace Go.Proofs.Ytamkgphamffdcaa
open Go.ChangeShapes Go.WideShapes Go.ChangeAt Go.RowKit
open Go.ChangeMaps (open_string)

set_option maxRecDepth 100000 in
theorem logAppends_opened {H : Type} {enc : TypeId × Value → H} (W : World) (base : Nat) (args : Array Value) (ds : List (DataW H)) (ps : List MemPlace)
    (hval : ∀ (j : Nat) t v, Try.f32.params[j]? = some t → args[j]? = some v → Value.okWide Try.checked.prog W .any base t v)
    (hA : DataW.TrodAll enc Try.checked.prog W 0 (fun _ => true) true Try.f32.params.toList args.toList ds ps) (hlt : ∀ x ∈ ps, x.block < W.heap.size)
    (hsz : (DataW.weightsEach Try.checked.prog Try.f32.params.toList ds).all (· ≤ reachBytes) = true) :
    Calls Try.checked.prog 32 args W fun e W' => e = .returned (.bool true) ∧ Below W.heap.size W W' := by
  rw [Try.params32] at hA hval hsz
  obtain ⟨v0, v1, d0, d1, p0, p1, rfl, rfl, rfl, h0, h1⟩ := trodAll_two hA
  obtain ⟨s, rfl, rfl, rfl, _⟩ := open_string Try.underlying9 (hval 0 _ v0 rfl rfl) h0
  obtain ⟨c1, r, rfl, hr1⟩ := arg_struct Try.underlying40 (fun N => opens_record) (hval 1 _ v1 rfl rfl) h1 (fun x hx => hlt x (by simp [hx])) (weights_of hsz (j := 1) rfl rfl)
  exact logAppends_calls s c1 r W (size_of_reach (sized_string hsz (j := 0) rfl rfl)) hr1

set_option maxHeartbeats 8000000 in
theorem logAppends_facts : joinedFacts Try.prog 32 Try.f32 Rows.logAppendsSpec Rows.logAppendsRow = true := by
  unfold joinedFacts
  exact and32 (by as_aux_lemma => kernel_rfl) Try.laidOut Try.mapsRowed (by as_aux_lemma => kernel_rfl) (by as_aux_lemma => kernel_rfl) (by as_aux_lemma => kernel_rfl) (by as_aux_lemma => kernel_rfl) (by as_aux_lemma => kernel_rfl) (by as_aux_lemma => kernel_rfl) (by as_aux_lemma => kernel_rfl) (by as_aux_lemma => kernel_rfl) (by as_aux_lemma => kernel_rfl) (by as_aux_lemma => kernel_rfl) (by as_aux_lemma => kernel_rfl) (by as_aux_lemma => kernel_rfl) (by as_aux_lemma => kernel_rfl) (by as_aux_lemma => kernel_rfl) (by as_aux_lemma => kernel_rfl) (by as_aux_lemma => kernel_rfl) (by as_aux_lemma => kernel_rfl) (by as_aux_lemma => kernel_rfl) (by as_aux_lemma => kernel_rfl) (by as_aux_lemma => kernel_rfl) (by as_aux_lemma => kernel_rfl) Try.stopsHeard Try.mayEnter (by rw [Try.liftsFinal]; kernel_rfl) (by rw [Try.make]; kernel_rfl) (by as_aux_lemma => kernel_rfl) (by as_aux_lemma => kernel_rfl) (by as_aux_lemma => kernel_rfl) (by as_aux_lemma => kernel_rfl)

theorem logAppends_start {os : Os} {H : Type} {enc : TypeId × Value → H} : ∃ (w : World) (tape : Tape) (i : Input), w.os = os ∧ (w.forCall tape i).Shaped Try.checked.prog ∧ i.vars = [] ∧ Input.okWide Try.checked.prog (w.forCall tape i) .any w.heap.size 32 i ∧
      Rows.logAppendsSpec.pre6 enc Try.checked.prog Try.f32 Rows.logAppendsRow.domain false (w.forCall tape i).memory i.args ∧ ({} : Assume).holds Try.checked.prog (lone (Frame.enter Try.checked.prog 32 i.args .normal) [] (w.forCall tape i)) :=
  ChangeSpec.witness6 (enc := enc) (C := Try.checked) false ⟨#[], #[.string ⟨#[]⟩, .agg #[.string ⟨#[]⟩, .string ⟨#[]⟩, .slice none 0 0, .slice none 0 0, .slice none 0 0, .slice none 0 0]], []⟩ 8 (by as_aux_lemma => kernel_rfl) (by as_aux_lemma => kernel_rfl) (by as_aux_lemma => kernel_rfl) (by as_aux_lemma => kernel_rfl) (by as_aux_lemma => kernel_rfl)

theorem logAppends_lifted (os : Os) (started : os.Started) (H : Type) (enc : TypeId × Value → H) :
    ReturnsInHanded {} Try.checked os 32 .any (Rows.logAppendsSpec.pre6 enc Try.prog Try.f32 Rows.logAppendsRow.domain false) (Rows.logAppendsSpec.post enc Try.prog Try.f32 false true false false) :=
  law_lifted (C := Try.checked) started Try.own Try.laidOut (by as_aux_lemma => kernel_rfl) Try.func32 logAppends_start
    (by as_aux_lemma => kernel_rfl) rfl Try.underlying4 rfl
    (fun ds hd => match ds, hd with | [d0, d1], _ => ⟨rfl, rfl, rfl⟩)
    logAppends_opened

theorem logAppends_holds : Rows.LogAppendsSaid :=
  OpenClaim.holds_of_wide 32 Try.f32 rfl rfl rfl rfl rfl rfl rfl ⟨rfl, rfl, rfl, rfl, rfl⟩ rfl rfl rfl rfl rfl (by as_aux_lemma => kernel_rfl) Try.func32 logAppends_facts
    (of_decide_eq_true (by as_aux_lemma => kernel_rfl)) (by unfold Func.isWrapper; first | (rw [if_pos (by decide +kernel)]; kernel_rfl) | (rw [if_neg (by decide +kernel)]; exact ⟨rfl, rfl⟩))
    (fun os started H enc _ => logAppends_lifted os started H enc)
#print axioms logAppends_holds

end Go.Proofs.Ytamkgphamffdcaa
