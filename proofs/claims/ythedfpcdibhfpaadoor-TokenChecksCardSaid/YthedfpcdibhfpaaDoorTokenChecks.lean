/- token.Check answers what P1.2 says, at all lists of tokens. The row lists tables of Go's library, tied to the program's text. -/
import Derived.Test.YthedfpcdibhfpaaDoorTokenChecksW
import Derived.Test.YthedfpcdibhfpaaDoorOpenT
import Derived.Test.YthedfpcdibhfpaaDoorFrame
import Derived.Test.YthedfpcdibhfpaaDoorLawRow
import Derived.Test.YthedfpcdibhfpaaDoorTokWorld
import Derived.Test.YthedfpcdibhfpaaDoorCards
import Derived.Test.YthedfpcdibhfpaaDoorTie
import Derived.SevenTiedAt
namespace Go.Proofs.YthedfpcdibhfpaaDoor
open Go.ChangeShapes Go.WideShapes Go.ChangeAt Go.RowKit
open Go.ChangeMaps (open_string)

set_option maxRecDepth 100000 in
theorem tokenChecks_opened {H : Type} {enc : TypeId × Value → H} (W : World) (base : Nat) (args : Array Value) (ds : List (DataW H)) (ps : List MemPlace)
    (hval : ∀ (j : Nat) t v, Tryd.f4.params[j]? = some t → args[j]? = some v → Value.okWide Tryd.checked.prog W .any base t v)
    (hA : DataW.TrodAll enc Tryd.checked.prog W 0 (fun _ => true) true Tryd.f4.params.toList args.toList ds ps) (hlt : ∀ x ∈ ps, x.block < W.heap.size)
    (hsz : (DataW.weightsEach Tryd.checked.prog Tryd.f4.params.toList ds).all (· ≤ reachBytes) = true) (_hL : laidMetH Tryd.checked.prog Rows.tokenChecksRow.laid W) (hsh : W.ShapedOpen Tryd.checked.prog) :
    Calls Tryd.checked.prog 4 args W fun e W' => e = .returned (.bool true) ∧ Below W.heap.size W W' := by
  rw [Tryd.params4] at hA hval hsz
  obtain ⟨v0, d0, rfl, rfl, h0⟩ := trodAll_one hA
  obtain ⟨l0, hr0⟩ := arg_slice Tryd.underlying37 (fun N => opens_tokens) (hval 0 _ v0 rfl rfl) h0 (fun x hx => hlt x (by simp [hx])) (weights_of hsz (j := 0) rfl rfl)
  have hL : laidMet Tryd.prog Rows.tokenChecksRow.laid W := _hL
  obtain ⟨m, hT⟩ := tabs_of (laidMet.tail (laidMet.tail hL)) rfl (laidMet.tail (laidMet.tail (laidMet.tail hL))) (laidMet.tail (laidMet.tail (laidMet.tail (laidMet.tail hL)))) hsh
  exact tokenChecks_calls v0 l0 m W hr0 hT

set_option maxHeartbeats 8000000 in
theorem tokenChecks_facts : joinedFacts Tryd.prog 4 Tryd.f4 Rows.tokenChecksSpec Rows.tokenChecksRow = true := by
  unfold joinedFacts
  exact and32 (by as_aux_lemma => kernel_rfl) Tryd.laidOut Tryd.mapsRowed (by as_aux_lemma => kernel_rfl) (by as_aux_lemma => kernel_rfl) (by as_aux_lemma => kernel_rfl) (by as_aux_lemma => kernel_rfl) (by as_aux_lemma => kernel_rfl) (by as_aux_lemma => kernel_rfl) (by as_aux_lemma => kernel_rfl) (by as_aux_lemma => kernel_rfl) (by as_aux_lemma => kernel_rfl) (by as_aux_lemma => kernel_rfl) (by as_aux_lemma => kernel_rfl) (by as_aux_lemma => kernel_rfl) (by as_aux_lemma => kernel_rfl) (by as_aux_lemma => kernel_rfl) (by as_aux_lemma => kernel_rfl) (by as_aux_lemma => kernel_rfl) (by as_aux_lemma => kernel_rfl) (by as_aux_lemma => kernel_rfl) (by as_aux_lemma => kernel_rfl) (by as_aux_lemma => kernel_rfl) (by as_aux_lemma => kernel_rfl) Tryd.stopsHeard Tryd.mayEnter (by rw [Tryd.liftsFinal]; kernel_rfl) (by rw [Tryd.make]; kernel_rfl) (by as_aux_lemma => kernel_rfl) (by as_aux_lemma => kernel_rfl) (by as_aux_lemma => kernel_rfl) (by as_aux_lemma => kernel_rfl)

set_option maxRecDepth 1000000 in
theorem tokenChecks_met (os : Os) : laidMet Tryd.prog Rows.tokenChecksRow.laid ((layTok (World.holding Tryd.prog os ⟨errObjs, #[], []⟩)).forCall (fun _ _ => 0) ⟨#[], #[.slice none 0 0], []⟩).memory :=
  laidMet_of_run' 8 (by kernel_rfl) (by kernel_rfl)
set_option maxRecDepth 1000000 in
theorem tokenChecks_reads (os : Os) {H : Type} (enc : TypeId × Value → H) : ∃ places, DataW.whole enc Tryd.prog ((layTok (World.holding Tryd.prog os ⟨errObjs, #[], []⟩)).forCall (fun _ _ => 0) ⟨#[], #[.slice none 0 0], []⟩).memory Tryd.f4.params.toList Rows.tokenChecksSpec.vars false #[Value.slice none 0 0].toList 8 = some ([.nil], [], places) :=
  ⟨[], by kernel_rfl⟩
set_option maxRecDepth 1000000 in
theorem tokenChecks_okW (os : Os) : Input.okWideB Tryd.prog ((layTok (World.holding Tryd.prog os ⟨errObjs, #[], []⟩)).forCall (fun _ _ => 0) ⟨#[], #[.slice none 0 0], []⟩) 4 ⟨#[], #[.slice none 0 0], []⟩ = true := by kernel_rfl
set_option maxRecDepth 1000000 in
theorem tokenChecks_vars (os : Os) : ((layTok (World.holding Tryd.prog os ⟨errObjs, #[], []⟩)).forCall (fun _ _ => 0) ⟨#[], #[.slice none 0 0], []⟩).variablesB Tryd.prog = true := by kernel_rfl
set_option maxRecDepth 1000000 in
theorem tokenChecks_heap (os : Os) : (((layTok (World.holding Tryd.prog os ⟨errObjs, #[], []⟩)).forCall (fun _ _ => 0) ⟨#[], #[.slice none 0 0], []⟩).heap.toList.drop Tryd.prog.globals.size).take ((begin Tryd.prog (fun _ _ => 0) default).world.heap.size - Tryd.prog.globals.size) = (begin Tryd.prog (fun _ _ => 0) default).world.heap.toList.drop Tryd.prog.globals.size := by kernel_rfl

set_option maxRecDepth 1000000 in
theorem tokenChecks_lifted (os : Os) (started : os.Started) (H : Type) (enc : TypeId × Value → H) (F : Stop.Interp) :
    ReturnsInHanded {} Tryd.checked os 4 .any ((OpenSpec.ofChange Rows.tokenChecksSpec).preRow enc Tryd.prog Tryd.f4 Rows.tokenChecksRow.domain false Rows.tokenChecksRow.laid) (((OpenSpec.ofChange Rows.tokenChecksSpec).at F).post enc Tryd.prog Tryd.f4 false true false false) := by
  obtain ⟨places, hx⟩ := tokenChecks_reads os enc
  refine law_row (C := Tryd.checked) (s := Rows.tokenChecksSpec) started Tryd.own Tryd.laidOut (by as_aux_lemma => kernel_rfl) Tryd.func4
    (witness_row_at (enc := enc) (C := Tryd.checked) false (layTok (World.holding Tryd.prog os ⟨errObjs, #[], []⟩)) #[.slice none 0 0] rfl (tokenChecks_vars os) (tokenChecks_heap os) (tokenChecks_okW os)
      (OpenSpec.preRow_of_cond 8 hx (by kernel_rfl) (fun k hk => by cases hk) (by kernel_rfl) (tokenChecks_met os)))
    (by as_aux_lemma => kernel_rfl) rfl Tryd.underlying4 rfl
    (fun ds hd => match ds, hd with | [d0], _ => ⟨rfl, rfl, rfl⟩)
    tokenChecks_opened

set_option maxRecDepth 1000000 in
theorem tokenChecks_said : Rows.TokenChecksSaid :=
  OpenClaim.holds_of_cond 4 Tryd.f4 rfl rfl rfl rfl rfl rfl rfl ⟨rfl, rfl, rfl, rfl, rfl⟩ rfl rfl rfl rfl rfl (by as_aux_lemma => kernel_rfl) Tryd.func4 tokenChecks_facts
    (of_decide_eq_true (by as_aux_lemma => kernel_rfl)) (by unfold Func.isWrapper; first | (rw [if_pos (by decide +kernel)]; kernel_rfl) | (rw [if_neg (by decide +kernel)]; exact ⟨rfl, rfl⟩))
    (fun os started H enc _ F => by rw [OpenClaim.pre_eq_preRow]; exact tokenChecks_lifted os started H enc F)

theorem tokenChecks_named : Tryd.prog.funcNamed Rows.tokenChecksRow.func = some 4 := by kernel_rfl
theorem tokenChecks_bare : (Tryd.f4.params.toList.all fun t => !Tryd.prog.wantsStandIn t) = true := by kernel_rfl
theorem tokenChecks_looks : Rows.tokenChecksCard.stood.looks = Tryd.prog.looks [] := by kernel_rfl
/-- No parameter wants a stand-in; the program's own looks are as the card says. -/
theorem tokenChecks_plain (f : FuncId) (fn : Go.Func) (hf : Tryd.pinned.checked.prog.funcNamed Rows.tokenChecksRow.func = some f) (hfn : Tryd.pinned.checked.prog.funcs[f]? = some fn) :
    Rows.tokenChecksCard.stood.looks = Tryd.pinned.checked.prog.looks [] ∧ ∀ (j : Nat) t, fn.params[j]? = some t → Tryd.pinned.checked.prog.wantsStandIn t = false := by
  obtain rfl : f = 4 := Option.some.inj (hf.symm.trans tokenChecks_named)
  obtain rfl : fn = Tryd.f4 := Option.some.inj (hfn.symm.trans Tryd.func4)
  refine ⟨tokenChecks_looks, fun j t ht => ?_⟩
  have h := List.all_eq_true.1 tokenChecks_bare t (by simpa using Array.mem_of_getElem? ht)
  have h2 : Tryd.prog.wantsStandIn t = false := by simpa using h
  exact h2

theorem tokenChecks_holds : Rows.TokenChecksCardSaid :=
  Claim7.holds_tied_plain_at .later [] _ _ _ _ tokenChecks_said (fun _ h => by cases h) (by kernel_rfl) (fun _ h => by cases h) tokenChecks_row_tie rfl ⟨rfl, rfl⟩ (by kernel_rfl) rfl tokenChecks_plain (by kernel_rfl)
#print axioms tokenChecks_holds

end Go.Proofs.YthedfpcdibhfpaaDoor
