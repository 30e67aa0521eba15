/- token.Show answers what P1.3 says, at all lists of tokens. The row lists tables of Go's library, tied to the program's text. -/
import Derived.Test.YthedfpcdibhfpaaDoorTokenShowsW
import Derived.Test.YthedfpcdibhfpaaDoorOpenT
import Derived.Test.YthedfpcdibhfpaaDoorFrame
import Derived.Test.YthedfpcdibhfpaaDoorLawRow
import Derived.Test.YthedfpcdibhfpaaDoorTokWorld
import Derived.Test.YthedfpcdibhfpaaDoorCards
import Derived.Test.YthedfpcdibhfpaaDoorTie
import Derived.SevenTiedAt
namespace Go.Proofs.YthedfpcdibhfpaaDoor
open Go.ChangeShapes Go.WideShapes Go.ChangeAt Go.RowKit
open Go.ChangeMaps (open_string)

set_option maxRecDepth 100000 in
theorem tokenShows_opened {H : Type} {enc : TypeId × Value → H} (W : World) (base : Nat) (args : Array Value) (ds : List (DataW H)) (ps : List MemPlace)
    (hval : ∀ (j : Nat) t v, Tryd.f5.params[j]? = some t → args[j]? = some v → Value.okWide Tryd.checked.prog W .any base t v)
    (hA : DataW.TrodAll enc Tryd.checked.prog W 0 (fun _ => true) true Tryd.f5.params.toList args.toList ds ps) (hlt : ∀ x ∈ ps, x.block < W.heap.size)
    (hsz : (DataW.weightsEach Tryd.checked.prog Tryd.f5.params.toList ds).all (· ≤ reachBytes) = true) (_hL : laidMetH Tryd.checked.prog Rows.tokenShowsRow.laid W) (hsh : W.ShapedOpen Tryd.checked.prog) :
    Calls Tryd.checked.prog 5 args W fun e W' => e = .returned (.bool true) ∧ Below W.heap.size W W' := by
  rw [Tryd.params5] at hA hval hsz
  obtain ⟨v0, d0, rfl, rfl, h0⟩ := trodAll_one hA
  obtain ⟨l0, hr0⟩ := arg_slice Tryd.underlying37 (fun N => opens_tokens) (hval 0 _ v0 rfl rfl) h0 (fun x hx => hlt x (by simp [hx])) (weights_of hsz (j := 0) rfl rfl)
  have hL : laidMet Tryd.prog Rows.tokenShowsRow.laid W := _hL
  obtain ⟨m, hT⟩ := tabs_of (laidMet.tail (laidMet.tail hL)) rfl (laidMet.tail (laidMet.tail (laidMet.tail hL))) (laidMet.tail (laidMet.tail (laidMet.tail (laidMet.tail hL)))) hsh
  exact tokenShows_calls v0 l0 m W hr0 hT

set_option maxHeartbeats 8000000 in
theorem tokenShows_facts : joinedFacts Tryd.prog 5 Tryd.f5 Rows.tokenShowsSpec Rows.tokenShowsRow = true := by
  unfold joinedFacts
  exact and32 (by as_aux_lemma => kernel_rfl) Tryd.laidOut Tryd.mapsRowed (by as_aux_lemma => kernel_rfl) (by as_aux_lemma => kernel_rfl) (by as_aux_lemma => kernel_rfl) (by as_aux_lemma => kernel_rfl) (by as_aux_lemma => kernel_rfl) (by as_aux_lemma => kernel_rfl) (by as_aux_lemma => kernel_rfl) (by as_aux_lemma => kernel_rfl) (by as_aux_lemma => kernel_rfl) (by as_aux_lemma => kernel_rfl) (by as_aux_lemma => kernel_rfl) (by as_aux_lemma => kernel_rfl) (by as_aux_lemma => kernel_rfl) (by as_aux_lemma => kernel_rfl) (by as_aux_lemma => kernel_rfl) (by as_aux_lemma => kernel_rfl) (by as_aux_lemma => kernel_rfl) (by as_aux_lemma => kernel_rfl) (by as_aux_lemma => kernel_rfl) (by as_aux_lemma => kernel_rfl) (by as_aux_lemma => kernel_rfl) Tryd.stopsHeard Tryd.mayEnter (by rw [Tryd.liftsFinal]; kernel_rfl) (by rw [Tryd.make]; kernel_rfl) (by as_aux_lemma => kernel_rfl) (by as_aux_lemma => kernel_rfl) (by as_aux_lemma => kernel_rfl) (by as_aux_lemma => kernel_rfl)

set_option maxRecDepth 1000000 in
theorem tokenShows_met (os : Os) : laidMet Tryd.prog Rows.tokenShowsRow.laid ((layTok (World.holding Tryd.prog os ⟨errObjs, #[], []⟩)).forCall (fun _ _ => 0) ⟨#[], #[.slice none 0 0], []⟩).memory :=
  laidMet_of_run' 8 (by kernel_rfl) (by kernel_rfl)
set_option maxRecDepth 1000000 in
theorem tokenShows_reads (os : Os) {H : Type} (enc : TypeId × Value → H) : ∃ places, DataW.whole enc Tryd.prog ((layTok (World.holding Tryd.prog os ⟨errObjs, #[], []⟩)).forCall (fun _ _ => 0) ⟨#[], #[.slice none 0 0], []⟩).memory Tryd.f5.params.toList Rows.tokenShowsSpec.vars false #[Value.slice none 0 0].toList 8 = some ([.nil], [], places) :=
  ⟨[], by kernel_rfl⟩
set_option maxRecDepth 1000000 in
theorem tokenShows_okW (os : Os) : Input.okWideB Tryd.prog ((layTok (World.holding Tryd.prog os ⟨errObjs, #[], []⟩)).forCall (fun _ _ => 0) ⟨#[], #[.slice none 0 0], []⟩) 5 ⟨#[], #[.slice none 0 0], []⟩ = true := by kernel_rfl
set_option maxRecDepth 1000000 in
theorem tokenShows_vars (os : Os) : ((layTok (World.holding Tryd.prog os ⟨errObjs, #[], []⟩)).forCall (fun _ _ => 0) ⟨#[], #[.slice none 0 0], []⟩).variablesB Tryd.prog = true := by kernel_rfl
set_option maxRecDepth 1000000 in
theorem tokenShows_heap (os : Os) : (((layTok (World.holding Tryd.prog os ⟨errObjs, #[], []⟩)).forCall (fun _ _ => 0) ⟨#[], #[.slice none 0 0], []⟩).heap.toList.drop Tryd.prog.globals.size).take ((begin Tryd.prog (fun _ _ => 0) default).world.heap.size - Tryd.prog.globals.size) = (begin Tryd.prog (fun _ _ => 0) default).world.heap.toList.drop Tryd.prog.globals.size := by kernel_rfl

set_option maxRecDepth 1000000 in
theorem tokenShows_lifted (os : Os) (started : os.Started) (H : Type) (enc : TypeId × Value → H) (F : Stop.Interp) :
    ReturnsInHanded {} Tryd.checked os 5 .any ((OpenSpec.ofChange Rows.tokenShowsSpec).preRow enc Tryd.prog Tryd.f5 Rows.tokenShowsRow.domain false Rows.tokenShowsRow.laid) (((OpenSpec.ofChange Rows.tokenShowsSpec).at F).post enc Tryd.prog Tryd.f5 false true false false) := by
  obtain ⟨places, hx⟩ := tokenShows_reads os enc
  refine law_row (C := Tryd.checked) (s := Rows.tokenShowsSpec) started Tryd.own Tryd.laidOut (by as_aux_lemma => kernel_rfl) Tryd.func5
    (witness_row_at (enc := enc) (C := Tryd.checked) false (layTok (World.holding Tryd.prog os ⟨errObjs, #[], []⟩)) #[.slice none 0 0] rfl (tokenShows_vars os) (tokenShows_heap os) (tokenShows_okW os)
      (OpenSpec.preRow_of_cond 8 hx (by kernel_rfl) (fun k hk => by cases hk) (by kernel_rfl) (tokenShows_met os)))
    (by as_aux_lemma => kernel_rfl) rfl Tryd.underlying4 rfl
    (fun ds hd => match ds, hd with | [d0], _ => ⟨rfl, rfl, rfl⟩)
    tokenShows_opened

set_option maxRecDepth 1000000 in
theorem tokenShows_said : Rows.TokenShowsSaid :=
  OpenClaim.holds_of_cond 5 Tryd.f5 rfl rfl rfl rfl rfl rfl rfl ⟨rfl, rfl, rfl, rfl, rfl⟩ rfl rfl rfl rfl rfl (by as_aux_lemma => kernel_rfl) Tryd.func5 tokenShows_facts
    (of_decide_eq_true (by as_aux_lemma => kernel_rfl)) (by unfold Func.isWrapper; first | (rw [if_pos (by decide +kernel)]; kernel_rfl) | (rw [if_neg (by decide +kernel)]; exact ⟨rfl, rfl⟩))
    (fun os started H enc _ F => by rw [OpenClaim.pre_eq_preRow]; exact tokenShows_lifted os started H enc F)

theorem tokenShows_named : Tryd.prog.funcNamed Rows.tokenShowsRow.func = some 5 := by kernel_rfl
theorem tokenShows_bare : (Tryd.f5.params.toList.all fun t => !Tryd.prog.wantsStandIn t) = true := by kernel_rfl
theorem tokenShows_looks : Rows.tokenShowsCard.stood.looks = Tryd.prog.looks [] := by kernel_rfl
/-- No parameter wants a stand-in; the program's own looks are as the card says. -/
theorem tokenShows_plain (f : FuncId) (fn : Go.Func) (hf : Tryd.pinned.checked.prog.funcNamed Rows.tokenShowsRow.func = some f) (hfn : Tryd.pinned.checked.prog.funcs[f]? = some fn) :
    Rows.tokenShowsCard.stood.looks = Tryd.pinned.checked.prog.looks [] ∧ ∀ (j : Nat) t, fn.params[j]? = some t → Tryd.pinned.checked.prog.wantsStandIn t = false := by
  obtain rfl : f = 5 := Option.some.inj (hf.symm.trans tokenShows_named)
  obtain rfl : fn = Tryd.f5 := Option.some.inj (hfn.symm.trans Tryd.func5)
  refine ⟨tokenShows_looks, fun j t ht => ?_⟩
  have h := List.all_eq_true.1 tokenShows_bare t (by simpa using Array.mem_of_getElem? ht)
  have h2 : Tryd.prog.wantsStandIn t = false := by simpa using h
  exact h2

theorem tokenShows_holds : Rows.TokenShowsCardSaid :=
  Claim7.holds_tied_plain_at .later [] _ _ _ _ tokenShows_said (fun _ h => by cases h) (by kernel_rfl) (fun _ h => by cases h) tokenShows_row_tie rfl ⟨rfl, rfl⟩ (by kernel_rfl) rfl tokenShows_plain (by kernel_rfl)
#print axioms tokenShows_holds

end Go.Proofs.YthedfpcdibhfpaaDoor
