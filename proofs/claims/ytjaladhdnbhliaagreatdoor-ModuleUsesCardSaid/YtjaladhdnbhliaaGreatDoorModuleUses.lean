/- module.Uses answers what P9.1 says, at all texts. The row lists tables of Go's library, tied to the program's text. -/
import Derived.Test.YtjaladhdnbhliaaGreatDoorModuleUsesW
import Derived.Test.YtjaladhdnbhliaaGreatDoorFrame
import Derived.Test.YtjaladhdnbhliaaGreatDoorLawRow
import Derived.Test.YtjaladhdnbhliaaGreatDoorTokWorld
import Derived.Test.YtjaladhdnbhliaaGreatDoorCards
import Derived.Test.YtjaladhdnbhliaaGreatDoorTie
import Derived.SevenTiedAt
namespace Go.Proofs.YtjaladhdnbhliaaGreatDoor
open Go.ChangeShapes Go.WideShapes Go.ChangeAt Go.RowKit
open Go.ChangeMaps (open_string)

set_option maxRecDepth 100000 in
theorem moduleUses_opened {H : Type} {enc : TypeId × Value → H} (W : World) (base : Nat) (args : Array Value) (ds : List (DataW H)) (ps : List MemPlace)
    (hval : ∀ (j : Nat) t v, Tryz.f4.params[j]? = some t → args[j]? = some v → Value.okWide Tryz.checked.prog W .any base t v)
    (hA : DataW.TrodAll enc Tryz.checked.prog W 0 (fun _ => true) true Tryz.f4.params.toList args.toList ds ps) (_hlt : ∀ x ∈ ps, x.block < W.heap.size)
    (hsz : (DataW.weightsEach Tryz.checked.prog Tryz.f4.params.toList ds).all (· ≤ reachBytes) = true) (_hL : laidMetH Tryz.checked.prog Rows.moduleUsesRow.laid W) (hsh : W.ShapedOpen Tryz.checked.prog) :
    Calls Tryz.checked.prog 4 args W fun e W' => e = .returned (.bool true) ∧ Below W.heap.size W W' := by
  rw [Tryz.params4] at hA hval hsz
  obtain ⟨v0, d0, rfl, rfl, h0⟩ := trodAll_one hA
  obtain ⟨s0, rfl, rfl, rfl, _⟩ := open_string Tryz.underlying9 (hval 0 _ v0 rfl rfl) h0
  have hL : laidMet Tryz.prog Rows.moduleUsesRow.laid W := _hL
  obtain ⟨m, hT⟩ := tabs_of (laidMet.tail (laidMet.tail hL)) rfl (laidMet.tail (laidMet.tail (laidMet.tail (laidMet.tail hL)))) (laidMet.tail (laidMet.tail (laidMet.tail (laidMet.tail (laidMet.tail hL))))) hsh
  exact moduleUses_calls s0 m W (size_of_reach (sized_string hsz (j := 0) rfl rfl)) hT

set_option maxHeartbeats 8000000 in
theorem moduleUses_facts : joinedFacts Tryz.prog 4 Tryz.f4 Rows.moduleUsesSpec Rows.moduleUsesRow = true := by
  unfold joinedFacts
  exact and32 (by as_aux_lemma => kernel_rfl) Tryz.laidOut Tryz.mapsRowed (by as_aux_lemma => kernel_rfl) (by as_aux_lemma => kernel_rfl) (by as_aux_lemma => kernel_rfl) (by as_aux_lemma => kernel_rfl) (by as_aux_lemma => kernel_rfl) (by as_aux_lemma => kernel_rfl) (by as_aux_lemma => kernel_rfl) (by as_aux_lemma => kernel_rfl) (by as_aux_lemma => kernel_rfl) (by as_aux_lemma => kernel_rfl) (by as_aux_lemma => kernel_rfl) (by as_aux_lemma => kernel_rfl) (by as_aux_lemma => kernel_rfl) (by as_aux_lemma => kernel_rfl) (by as_aux_lemma => kernel_rfl) (by as_aux_lemma => kernel_rfl) (by as_aux_lemma => kernel_rfl) (by as_aux_lemma => kernel_rfl) (by as_aux_lemma => kernel_rfl) (by as_aux_lemma => kernel_rfl) (by as_aux_lemma => kernel_rfl) Tryz.stopsHeard Tryz.mayEnter (by rw [Tryz.liftsFinal]; kernel_rfl) (by rw [Tryz.make]; kernel_rfl) (by as_aux_lemma => kernel_rfl) (by as_aux_lemma => kernel_rfl) (by as_aux_lemma => kernel_rfl) (by as_aux_lemma => kernel_rfl)

set_option maxRecDepth 1000000 in
theorem moduleUses_met (os : Os) : laidMet Tryz.prog Rows.moduleUsesRow.laid ((layTok (World.holding Tryz.prog os ⟨errObjs, #[], []⟩)).forCall (fun _ _ => 0) ⟨#[], #[.string ⟨#[]⟩], []⟩).memory :=
  laidMet_of_run' 8 (by kernel_rfl) (by kernel_rfl)
set_option maxRecDepth 1000000 in
theorem moduleUses_reads (os : Os) {H : Type} (enc : TypeId × Value → H) : ∃ places, DataW.whole enc Tryz.prog ((layTok (World.holding Tryz.prog os ⟨errObjs, #[], []⟩)).forCall (fun _ _ => 0) ⟨#[], #[.string ⟨#[]⟩], []⟩).memory Tryz.f4.params.toList Rows.moduleUsesSpec.vars false #[Value.string ⟨#[]⟩].toList 8 = some ([.lit (.string [])], [], places) :=
  ⟨[], by kernel_rfl⟩
set_option maxRecDepth 1000000 in
theorem moduleUses_okW (os : Os) : Input.okWideB Tryz.prog ((layTok (World.holding Tryz.prog os ⟨errObjs, #[], []⟩)).forCall (fun _ _ => 0) ⟨#[], #[.string ⟨#[]⟩], []⟩) 4 ⟨#[], #[.string ⟨#[]⟩], []⟩ = true := by kernel_rfl
set_option maxRecDepth 1000000 in
theorem moduleUses_vars (os : Os) : ((layTok (World.holding Tryz.prog os ⟨errObjs, #[], []⟩)).forCall (fun _ _ => 0) ⟨#[], #[.string ⟨#[]⟩], []⟩).variablesB Tryz.prog = true := by kernel_rfl
set_option maxRecDepth 1000000 in
theorem moduleUses_heap (os : Os) : (((layTok (World.holding Tryz.prog os ⟨errObjs, #[], []⟩)).forCall (fun _ _ => 0) ⟨#[], #[.string ⟨#[]⟩], []⟩).heap.toList.drop Tryz.prog.globals.size).take ((begin Tryz.prog (fun _ _ => 0) default).world.heap.size - Tryz.prog.globals.size) = (begin Tryz.prog (fun _ _ => 0) default).world.heap.toList.drop Tryz.prog.globals.size := by kernel_rfl

set_option maxRecDepth 1000000 in
theorem moduleUses_lifted (os : Os) (started : os.Started) (H : Type) (enc : TypeId × Value → H) (F : Stop.Interp) :
    ReturnsInHanded {} Tryz.checked os 4 .any ((OpenSpec.ofChange Rows.moduleUsesSpec).preRow enc Tryz.prog Tryz.f4 Rows.moduleUsesRow.domain false Rows.moduleUsesRow.laid) (((OpenSpec.ofChange Rows.moduleUsesSpec).at F).post enc Tryz.prog Tryz.f4 false true false false) := by
  obtain ⟨places, hx⟩ := moduleUses_reads os enc
  refine law_row (C := Tryz.checked) (s := Rows.moduleUsesSpec) started Tryz.own Tryz.laidOut (by as_aux_lemma => kernel_rfl) Tryz.func4
    (witness_row_at (enc := enc) (C := Tryz.checked) false (layTok (World.holding Tryz.prog os ⟨errObjs, #[], []⟩)) #[.string ⟨#[]⟩] rfl (moduleUses_vars os) (moduleUses_heap os) (moduleUses_okW os)
      (OpenSpec.preRow_of_cond 8 hx (by kernel_rfl) (fun k hk => by cases hk) (by kernel_rfl) (moduleUses_met os)))
    (by as_aux_lemma => kernel_rfl) rfl Tryz.underlying4 rfl
    (fun ds hd => match ds, hd with | [d0], _ => ⟨rfl, rfl, rfl⟩)
    moduleUses_opened

set_option maxRecDepth 1000000 in
theorem moduleUses_said : Rows.ModuleUsesSaid :=
  OpenClaim.holds_of_cond 4 Tryz.f4 rfl rfl rfl rfl rfl rfl rfl ⟨rfl, rfl, rfl, rfl, rfl⟩ rfl rfl rfl rfl rfl (by as_aux_lemma => kernel_rfl) Tryz.func4 moduleUses_facts
    (of_decide_eq_true (by as_aux_lemma => kernel_rfl)) (by unfold Func.isWrapper; first | (rw [if_pos (by decide +kernel)]; kernel_rfl) | (rw [if_neg (by decide +kernel)]; exact ⟨rfl, rfl⟩))
    (fun os started H enc _ F => by rw [OpenClaim.pre_eq_preRow]; exact moduleUses_lifted os started H enc F)

theorem moduleUses_named : Tryz.prog.funcNamed Rows.moduleUsesRow.func = some 4 := by kernel_rfl
theorem moduleUses_bare : (Tryz.f4.params.toList.all fun t => !Tryz.prog.wantsStandIn t) = true := by kernel_rfl
theorem moduleUses_looks : Rows.moduleUsesCard.stood.looks = Tryz.prog.looks [] := by kernel_rfl
/-- No parameter wants a stand-in; the program's own looks are as the card says. -/
theorem moduleUses_plain (f : FuncId) (fn : Go.Func) (hf : Tryz.pinned.checked.prog.funcNamed Rows.moduleUsesRow.func = some f) (hfn : Tryz.pinned.checked.prog.funcs[f]? = some fn) :
    Rows.moduleUsesCard.stood.looks = Tryz.pinned.checked.prog.looks [] ∧ ∀ (j : Nat) t, fn.params[j]? = some t → Tryz.pinned.checked.prog.wantsStandIn t = false := by
  obtain rfl : f = 4 := Option.some.inj (hf.symm.trans moduleUses_named)
  obtain rfl : fn = Tryz.f4 := Option.some.inj (hfn.symm.trans Tryz.func4)
  refine ⟨moduleUses_looks, fun j t ht => ?_⟩
  have h := List.all_eq_true.1 moduleUses_bare t (by simpa using Array.mem_of_getElem? ht)
  have h2 : Tryz.prog.wantsStandIn t = false := by simpa using h
  exact h2

theorem moduleUses_holds : Rows.ModuleUsesCardSaid :=
  Claim7.holds_tied_plain_at .later [] _ _ _ _ moduleUses_said (fun _ h => by cases h) (by kernel_rfl) (fun _ h => by cases h) moduleUses_row_tie rfl ⟨rfl, rfl⟩ (by kernel_rfl) rfl moduleUses_plain (by kernel_rfl)
#print axioms moduleUses_holds

end Go.Proofs.YtjaladhdnbhliaaGreatDoor
