/- token.Cut answers what P1.4 says, at all texts. The row lists tables of Go's library, tied to the program's text. -/
import Derived.Test.YthedfpcdibhfpaaDoorTokenCutsW
import Derived.Test.YthedfpcdibhfpaaDoorFrame
import Derived.Test.YthedfpcdibhfpaaDoorLawRow
import Derived.Test.YthedfpcdibhfpaaDoorTokWorld
import Derived.Test.YthedfpcdibhfpaaDoorCards
import Derived.Test.YthedfpcdibhfpaaDoorTie
import Derived.SevenTiedAt
namespace Go.Proofs.YthedfpcdibhfpaaDoor
open Go.ChangeShapes Go.WideShapes Go.ChangeAt Go.RowKit
open Go.ChangeMaps (open_string)

set_option maxRecDepth 100000 in
theorem tokenCuts_opened {H : Type} {enc : TypeId × Value → H} (W : World) (base : Nat) (args : Array Value) (ds : List (DataW H)) (ps : List MemPlace)
    (hval : ∀ (j : Nat) t v, Tryd.f7.params[j]? = some t → args[j]? = some v → Value.okWide Tryd.checked.prog W .any base t v)
    (hA : DataW.TrodAll enc Tryd.checked.prog W 0 (fun _ => true) true Tryd.f7.params.toList args.toList ds ps) (_hlt : ∀ x ∈ ps, x.block < W.heap.size)
    (hsz : (DataW.weightsEach Tryd.checked.prog Tryd.f7.params.toList ds).all (· ≤ reachBytes) = true) (_hL : laidMetH Tryd.checked.prog Rows.tokenCutsRow.laid W) (hsh : W.ShapedOpen Tryd.checked.prog) :
    Calls Tryd.checked.prog 7 args W fun e W' => e = .returned (.bool true) ∧ Below W.heap.size W W' := by
  rw [Tryd.params7] at hA hval hsz
  obtain ⟨v0, d0, rfl, rfl, h0⟩ := trodAll_one hA
  obtain ⟨s0, rfl, rfl, rfl, _⟩ := open_string Tryd.underlying9 (hval 0 _ v0 rfl rfl) h0
  have hL : laidMet Tryd.prog Rows.tokenCutsRow.laid W := _hL
  obtain ⟨m, hT⟩ := tabs_of (laidMet.tail (laidMet.tail hL)) rfl (laidMet.tail (laidMet.tail (laidMet.tail (laidMet.tail hL)))) (laidMet.tail (laidMet.tail (laidMet.tail (laidMet.tail (laidMet.tail hL))))) hsh
  exact tokenCuts_calls s0 m W (size_of_reach (sized_string hsz (j := 0) rfl rfl)) hT

set_option maxHeartbeats 8000000 in
theorem tokenCuts_facts : joinedFacts Tryd.prog 7 Tryd.f7 Rows.tokenCutsSpec Rows.tokenCutsRow = true := by
  unfold joinedFacts
  exact and32 (by as_aux_lemma => kernel_rfl) Tryd.laidOut Tryd.mapsRowed (by as_aux_lemma => kernel_rfl) (by as_aux_lemma => kernel_rfl) (by as_aux_lemma => kernel_rfl) (by as_aux_lemma => kernel_rfl) (by as_aux_lemma => kernel_rfl) (by as_aux_lemma => kernel_rfl) (by as_aux_lemma => kernel_rfl) (by as_aux_lemma => kernel_rfl) (by as_aux_lemma => kernel_rfl) (by as_aux_lemma => kernel_rfl) (by as_aux_lemma => kernel_rfl) (by as_aux_lemma => kernel_rfl) (by as_aux_lemma => kernel_rfl) (by as_aux_lemma => kernel_rfl) (by as_aux_lemma => kernel_rfl) (by as_aux_lemma => kernel_rfl) (by as_aux_lemma => kernel_rfl) (by as_aux_lemma => kernel_rfl) (by as_aux_lemma => kernel_rfl) (by as_aux_lemma => kernel_rfl) (by as_aux_lemma => kernel_rfl) Tryd.stopsHeard Tryd.mayEnter (by rw [Tryd.liftsFinal]; kernel_rfl) (by rw [Tryd.make]; kernel_rfl) (by as_aux_lemma => kernel_rfl) (by as_aux_lemma => kernel_rfl) (by as_aux_lemma => kernel_rfl) (by as_aux_lemma => kernel_rfl)

set_option maxRecDepth 1000000 in
theorem tokenCuts_met (os : Os) : laidMet Tryd.prog Rows.tokenCutsRow.laid ((layTok (World.holding Tryd.prog os ⟨errObjs, #[], []⟩)).forCall (fun _ _ => 0) ⟨#[], #[.string ⟨#[]⟩], []⟩).memory :=
  laidMet_of_run' 8 (by kernel_rfl) (by kernel_rfl)
set_option maxRecDepth 1000000 in
theorem tokenCuts_reads (os : Os) {H : Type} (enc : TypeId × Value → H) : ∃ places, DataW.whole enc Tryd.prog ((layTok (World.holding Tryd.prog os ⟨errObjs, #[], []⟩)).forCall (fun _ _ => 0) ⟨#[], #[.string ⟨#[]⟩], []⟩).memory Tryd.f7.params.toList Rows.tokenCutsSpec.vars false #[Value.string ⟨#[]⟩].toList 8 = some ([.lit (.string [])], [], places) :=
  ⟨[], by kernel_rfl⟩
set_option maxRecDepth 1000000 in
theorem tokenCuts_okW (os : Os) : Input.okWideB Tryd.prog ((layTok (World.holding Tryd.prog os ⟨errObjs, #[], []⟩)).forCall (fun _ _ => 0) ⟨#[], #[.string ⟨#[]⟩], []⟩) 7 ⟨#[], #[.string ⟨#[]⟩], []⟩ = true := by kernel_rfl
set_option maxRecDepth 1000000 in
theorem tokenCuts_vars (os : Os) : ((layTok (World.holding Tryd.prog os ⟨errObjs, #[], []⟩)).forCall (fun _ _ => 0) ⟨#[], #[.string ⟨#[]⟩], []⟩).variablesB Tryd.prog = true := by kernel_rfl
set_option maxRecDepth 1000000 in
theorem tokenCuts_heap (os : Os) : (((layTok (World.holding Tryd.prog os ⟨errObjs, #[], []⟩)).forCall (fun _ _ => 0) ⟨#[], #[.string ⟨#[]⟩], []⟩).heap.toList.drop Tryd.prog.globals.size).take ((begin Tryd.prog (fun _ _ => 0) default).world.heap.size - Tryd.prog.globals.size) = (begin Tryd.prog (fun _ _ => 0) default).world.heap.toList.drop Tryd.prog.globals.size := by kernel_rfl

set_option maxRecDepth 1000000 in
theorem tokenCuts_lifted (os : Os) (started : os.Started) (H : Type) (enc : TypeId × Value → H) (F : Stop.Interp) :
    ReturnsInHanded {} Tryd.checked os 7 .any ((OpenSpec.ofChange Rows.tokenCutsSpec).preRow enc Tryd.prog Tryd.f7 Rows.tokenCutsRow.domain false Rows.tokenCutsRow.laid) (((OpenSpec.ofChange Rows.tokenCutsSpec).at F).post enc Tryd.prog Tryd.f7 false true false false) := by
  obtain ⟨places, hx⟩ := tokenCuts_reads os enc
  refine law_row (C := Tryd.checked) (s := Rows.tokenCutsSpec) started Tryd.own Tryd.laidOut (by as_aux_lemma => kernel_rfl) Tryd.func7
    (witness_row_at (enc := enc) (C := Tryd.checked) false (layTok (World.holding Tryd.prog os ⟨errObjs, #[], []⟩)) #[.string ⟨#[]⟩] rfl (tokenCuts_vars os) (tokenCuts_heap os) (tokenCuts_okW os)
      (OpenSpec.preRow_of_cond 8 hx (by kernel_rfl) (fun k hk => by cases hk) (by kernel_rfl) (tokenCuts_met os)))
    (by as_aux_lemma => kernel_rfl) rfl Tryd.underlying4 rfl
    (fun ds hd => match ds, hd with | [d0], _ => ⟨rfl, rfl, rfl⟩)
    tokenCuts_opened

set_option maxRecDepth 1000000 in
theorem tokenCuts_said : Rows.TokenCutsSaid :=
  OpenClaim.holds_of_cond 7 Tryd.f7 rfl rfl rfl rfl rfl rfl rfl ⟨rfl, rfl, rfl, rfl, rfl⟩ rfl rfl rfl rfl rfl (by as_aux_lemma => kernel_rfl) Tryd.func7 tokenCuts_facts
    (of_decide_eq_true (by as_aux_lemma => kernel_rfl)) (by unfold Func.isWrapper; first | (rw [if_pos (by decide +kernel)]; kernel_rfl) | (rw [if_neg (by decide +kernel)]; exact ⟨rfl, rfl⟩))
    (fun os started H enc _ F => by rw [OpenClaim.pre_eq_preRow]; exact tokenCuts_lifted os started H enc F)

theorem tokenCuts_named : Tryd.prog.funcNamed Rows.tokenCutsRow.func = some 7 := by kernel_rfl
theorem tokenCuts_bare : (Tryd.f7.params.toList.all fun t => !Tryd.prog.wantsStandIn t) = true := by kernel_rfl
theorem tokenCuts_looks : Rows.tokenCutsCard.stood.looks = Tryd.prog.looks [] := by kernel_rfl
/-- No parameter wants a stand-in; the program's own looks are as the card says. -/
theorem tokenCuts_plain (f : FuncId) (fn : Go.Func) (hf : Tryd.pinned.checked.prog.funcNamed Rows.tokenCutsRow.func = some f) (hfn : Tryd.pinned.checked.prog.funcs[f]? = some fn) :
    Rows.tokenCutsCard.stood.looks = Tryd.pinned.checked.prog.looks [] ∧ ∀ (j : Nat) t, fn.params[j]? = some t → Tryd.pinned.checked.prog.wantsStandIn t = false := by
  obtain rfl : f = 7 := Option.some.inj (hf.symm.trans tokenCuts_named)
  obtain rfl : fn = Tryd.f7 := Option.some.inj (hfn.symm.trans Tryd.func7)
  refine ⟨tokenCuts_looks, fun j t ht => ?_⟩
  have h := List.all_eq_true.1 tokenCuts_bare t (by simpa using Array.mem_of_getElem? ht)
  have h2 : Tryd.prog.wantsStandIn t = false := by simpa using h
  exact h2

theorem tokenCuts_holds : Rows.TokenCutsCardSaid :=
  Claim7.holds_tied_plain_at .later [] _ _ _ _ tokenCuts_said (fun _ h => by cases h) (by kernel_rfl) (fun _ h => by cases h) tokenCuts_row_tie rfl ⟨rfl, rfl⟩ (by kernel_rfl) rfl tokenCuts_plain (by kernel_rfl)
#print axioms tokenCuts_holds

end Go.Proofs.YthedfpcdibhfpaaDoor
