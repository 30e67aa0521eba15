/- Tokens are cut as they were shown; blanks between change nothing: at all texts and numbers. The row lists tables of Go's library, tied to the program's text. -/
import Derived.Test.YthedfpcdibhfpaaDoorTokensBackW
import Derived.Test.YthedfpcdibhfpaaDoorFrame
import Derived.Test.YthedfpcdibhfpaaDoorLawRow
import Derived.Test.YthedfpcdibhfpaaDoorTokWorld
import Derived.Test.YthedfpcdibhfpaaDoorCards
import Derived.Test.YthedfpcdibhfpaaDoorTie
import Derived.SevenTiedAt
namespace Go.Proofs.YthedfpcdibhfpaaDoor
open Go.ChangeShapes Go.WideShapes Go.ChangeAt Go.RowKit
open Go.ChangeMaps (open_string)

set_option maxRecDepth 100000 in
theorem tokensBack_opened {H : Type} {enc : TypeId × Value → H} (W : World) (base : Nat) (args : Array Value) (ds : List (DataW H)) (ps : List MemPlace)
    (hval : ∀ (j : Nat) t v, Tryd.f9.params[j]? = some t → args[j]? = some v → Value.okWide Tryd.checked.prog W .any base t v)
    (hA : DataW.TrodAll enc Tryd.checked.prog W 0 (fun _ => true) true Tryd.f9.params.toList args.toList ds ps) (_hlt : ∀ x ∈ ps, x.block < W.heap.size)
    (hsz : (DataW.weightsEach Tryd.checked.prog Tryd.f9.params.toList ds).all (· ≤ reachBytes) = true) (_hL : laidMetH Tryd.checked.prog Rows.tokensBackRow.laid W) (hsh : W.ShapedOpen Tryd.checked.prog) :
    Calls Tryd.checked.prog 9 args W fun e W' => e = .returned (.bool true) ∧ Below W.heap.size W W' := by
  rw [Tryd.params9] at hA hval hsz
  obtain ⟨v0, v1, d0, d1, p0, p1, rfl, rfl, rfl, h0, h1⟩ := trodAll_two hA
  obtain ⟨s0, rfl, rfl, rfl, _⟩ := open_string Tryd.underlying9 (hval 0 _ v0 rfl rfl) h0
  obtain ⟨n1, rfl, rfl, rfl, w1⟩ := open_int Tryd.underlying3 (hval 1 _ v1 rfl rfl) h1
  have hL : laidMet Tryd.prog Rows.tokensBackRow.laid W := _hL
  obtain ⟨m, hT⟩ := tabs_of (laidMet.tail (laidMet.tail hL)) rfl (laidMet.tail (laidMet.tail (laidMet.tail (laidMet.tail hL)))) (laidMet.tail (laidMet.tail (laidMet.tail (laidMet.tail (laidMet.tail hL))))) hsh
  exact tokensBack_calls s0 n1 m W (size_of_reach (sized_string hsz (j := 0) rfl rfl)) (i64_of_wf w1) hT

set_option maxHeartbeats 8000000 in
theorem tokensBack_facts : joinedFacts Tryd.prog 9 Tryd.f9 Rows.tokensBackSpec Rows.tokensBackRow = true := by
  unfold joinedFacts
  exact and32 (by as_aux_lemma => kernel_rfl) Tryd.laidOut Tryd.mapsRowed (by as_aux_lemma => kernel_rfl) (by as_aux_lemma => kernel_rfl) (by as_aux_lemma => kernel_rfl) (by as_aux_lemma => kernel_rfl) (by as_aux_lemma => kernel_rfl) (by as_aux_lemma => kernel_rfl) (by as_aux_lemma => kernel_rfl) (by as_aux_lemma => kernel_rfl) (by as_aux_lemma => kernel_rfl) (by as_aux_lemma => kernel_rfl) (by as_aux_lemma => kernel_rfl) (by as_aux_lemma => kernel_rfl) (by as_aux_lemma => kernel_rfl) (by as_aux_lemma => kernel_rfl) (by as_aux_lemma => kernel_rfl) (by as_aux_lemma => kernel_rfl) (by as_aux_lemma => kernel_rfl) (by as_aux_lemma => kernel_rfl) (by as_aux_lemma => kernel_rfl) (by as_aux_lemma => kernel_rfl) (by as_aux_lemma => kernel_rfl) Tryd.stopsHeard Tryd.mayEnter (by rw [Tryd.liftsFinal]; kernel_rfl) (by rw [Tryd.make]; kernel_rfl) (by as_aux_lemma => kernel_rfl) (by as_aux_lemma => kernel_rfl) (by as_aux_lemma => kernel_rfl) (by as_aux_lemma => kernel_rfl)

set_option maxRecDepth 1000000 in
theorem tokensBack_met (os : Os) : laidMet Tryd.prog Rows.tokensBackRow.laid ((layTok (World.holding Tryd.prog os ⟨errObjs, #[], []⟩)).forCall (fun _ _ => 0) ⟨#[], #[.string ⟨#[]⟩, .int .i64 0], []⟩).memory :=
  laidMet_of_run' 8 (by kernel_rfl) (by kernel_rfl)
set_option maxRecDepth 1000000 in
theorem tokensBack_reads (os : Os) {H : Type} (enc : TypeId × Value → H) : ∃ places, DataW.whole enc Tryd.prog ((layTok (World.holding Tryd.prog os ⟨errObjs, #[], []⟩)).forCall (fun _ _ => 0) ⟨#[], #[.string ⟨#[]⟩, .int .i64 0], []⟩).memory Tryd.f9.params.toList Rows.tokensBackSpec.vars false #[Value.string ⟨#[]⟩, Value.int .i64 0].toList 8 = some ([.lit (.string []), .lit (.int .i64 0)], [], places) :=
  ⟨[], by kernel_rfl⟩
set_option maxRecDepth 1000000 in
theorem tokensBack_okW (os : Os) : Input.okWideB Tryd.prog ((layTok (World.holding Tryd.prog os ⟨errObjs, #[], []⟩)).forCall (fun _ _ => 0) ⟨#[], #[.string ⟨#[]⟩, .int .i64 0], []⟩) 9 ⟨#[], #[.string ⟨#[]⟩, .int .i64 0], []⟩ = true := by kernel_rfl
set_option maxRecDepth 1000000 in
theorem tokensBack_vars (os : Os) : ((layTok (World.holding Tryd.prog os ⟨errObjs, #[], []⟩)).forCall (fun _ _ => 0) ⟨#[], #[.string ⟨#[]⟩, .int .i64 0], []⟩).variablesB Tryd.prog = true := by kernel_rfl
set_option maxRecDepth 1000000 in
theorem tokensBack_heap (os : Os) : (((layTok (World.holding Tryd.prog os ⟨errObjs, #[], []⟩)).forCall (fun _ _ => 0) ⟨#[], #[.string ⟨#[]⟩, .int .i64 0], []⟩).heap.toList.drop Tryd.prog.globals.size).take ((begin Tryd.prog (fun _ _ => 0) default).world.heap.size - Tryd.prog.globals.size) = (begin Tryd.prog (fun _ _ => 0) default).world.heap.toList.drop Tryd.prog.globals.size := by kernel_rfl

set_option maxRecDepth 1000000 in
theorem tokensBack_lifted (os : Os) (started : os.Started) (H : Type) (enc : TypeId × Value → H) (F : Stop.Interp) :
    ReturnsInHanded {} Tryd.checked os 9 .any ((OpenSpec.ofChange Rows.tokensBackSpec).preRow enc Tryd.prog Tryd.f9 Rows.tokensBackRow.domain false Rows.tokensBackRow.laid) (((OpenSpec.ofChange Rows.tokensBackSpec).at F).post enc Tryd.prog Tryd.f9 false true false false) := by
  obtain ⟨places, hx⟩ := tokensBack_reads os enc
  refine law_row (C := Tryd.checked) (s := Rows.tokensBackSpec) started Tryd.own Tryd.laidOut (by as_aux_lemma => kernel_rfl) Tryd.func9
    (witness_row_at (enc := enc) (C := Tryd.checked) false (layTok (World.holding Tryd.prog os ⟨errObjs, #[], []⟩)) #[.string ⟨#[]⟩, .int .i64 0] rfl (tokensBack_vars os) (tokensBack_heap os) (tokensBack_okW os)
      (OpenSpec.preRow_of_cond 8 hx (by kernel_rfl) (fun k hk => by cases hk) (by kernel_rfl) (tokensBack_met os)))
    (by as_aux_lemma => kernel_rfl) rfl Tryd.underlying4 rfl
    (fun ds hd => match ds, hd with | [d0, d1], _ => ⟨rfl, rfl, rfl⟩)
    tokensBack_opened

set_option maxRecDepth 1000000 in
theorem tokensBack_said : Rows.TokensBackSaid :=
  OpenClaim.holds_of_cond 9 Tryd.f9 rfl rfl rfl rfl rfl rfl rfl ⟨rfl, rfl, rfl, rfl, rfl⟩ rfl rfl rfl rfl rfl (by as_aux_lemma => kernel_rfl) Tryd.func9 tokensBack_facts
    (of_decide_eq_true (by as_aux_lemma => kernel_rfl)) (by unfold Func.isWrapper; first | (rw [if_pos (by decide +kernel)]; kernel_rfl) | (rw [if_neg (by decide +kernel)]; exact ⟨rfl, rfl⟩))
    (fun os started H enc _ F => by rw [OpenClaim.pre_eq_preRow]; exact tokensBack_lifted os started H enc F)

theorem tokensBack_named : Tryd.prog.funcNamed Rows.tokensBackRow.func = some 9 := by kernel_rfl
theorem tokensBack_bare : (Tryd.f9.params.toList.all fun t => !Tryd.prog.wantsStandIn t) = true := by kernel_rfl
theorem tokensBack_looks : Rows.tokensBackCard.stood.looks = Tryd.prog.looks [] := by kernel_rfl
/-- No parameter wants a stand-in; the program's own looks are as the card says. -/
theorem tokensBack_plain (f : FuncId) (fn : Go.Func) (hf : Tryd.pinned.checked.prog.funcNamed Rows.tokensBackRow.func = some f) (hfn : Tryd.pinned.checked.prog.funcs[f]? = some fn) :
    Rows.tokensBackCard.stood.looks = Tryd.pinned.checked.prog.looks [] ∧ ∀ (j : Nat) t, fn.params[j]? = some t → Tryd.pinned.checked.prog.wantsStandIn t = false := by
  obtain rfl : f = 9 := Option.some.inj (hf.symm.trans tokensBack_named)
  obtain rfl : fn = Tryd.f9 := Option.some.inj (hfn.symm.trans Tryd.func9)
  refine ⟨tokensBack_looks, fun j t ht => ?_⟩
  have h := List.all_eq_true.1 tokensBack_bare t (by simpa using Array.mem_of_getElem? ht)
  have h2 : Tryd.prog.wantsStandIn t = false := by simpa using h
  exact h2

theorem tokensBack_holds : Rows.TokensBackCardSaid :=
  Claim7.holds_tied_plain_at .later [] _ _ _ _ tokensBack_said (fun _ h => by cases h) (by kernel_rfl) (fun _ h => by cases h) tokensBack_row_tie rfl ⟨rfl, rfl⟩ (by kernel_rfl) rfl tokensBack_plain (by kernel_rfl)
#print axioms tokensBack_holds

end Go.Proofs.YthedfpcdibhfpaaDoor
