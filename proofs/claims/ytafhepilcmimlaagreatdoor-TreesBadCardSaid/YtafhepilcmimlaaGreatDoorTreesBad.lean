/- What is no declaration is refused, at all numbers. The row lists tables of Go's library, tied to the program's text. -/
import Derived.Test.YtafhepilcmimlaaGreatDoorTreesBadW
import Derived.Test.YtafhepilcmimlaaGreatDoorFrame
import Derived.Test.YtafhepilcmimlaaGreatDoorLawRow
import Derived.Test.YtafhepilcmimlaaGreatDoorTokWorld
import Derived.Test.YtafhepilcmimlaaGreatDoorCards
import Derived.Test.YtafhepilcmimlaaGreatDoorTie
import Derived.SevenTiedAt
namespace Go.Proofs.YtafhepilcmimlaaGreatDoor
open Go.ChangeShapes Go.WideShapes Go.ChangeAt Go.RowKit
open Go.ChangeMaps (open_string)

set_option maxRecDepth 100000 in
theorem treesBad_opened {H : Type} {enc : TypeId × Value → H} (W : World) (base : Nat) (args : Array Value) (ds : List (DataW H)) (ps : List MemPlace)
    (hval : ∀ (j : Nat) t v, Tryz.f5.params[j]? = some t → args[j]? = some v → Value.okWide Tryz.checked.prog W .any base t v)
    (hA : DataW.TrodAll enc Tryz.checked.prog W 0 (fun _ => true) true Tryz.f5.params.toList args.toList ds ps) (_hlt : ∀ x ∈ ps, x.block < W.heap.size)
    (hsz : (DataW.weightsEach Tryz.checked.prog Tryz.f5.params.toList ds).all (· ≤ reachBytes) = true) (_hL : laidMetH Tryz.checked.prog Rows.treesBadRow.laid W) (hsh : W.ShapedOpen Tryz.checked.prog) :
    Calls Tryz.checked.prog 5 args W fun e W' => e = .returned (.bool true) ∧ Below W.heap.size W W' := by
  rw [Tryz.params5] at hA hval hsz
  obtain ⟨v0, d0, rfl, rfl, h0⟩ := trodAll_one hA
  obtain ⟨n0, rfl, rfl, rfl, w0⟩ := open_int Tryz.underlying3 (hval 0 _ v0 rfl rfl) h0
  have hL : laidMet Tryz.prog Rows.treesBadRow.laid W := _hL
  obtain ⟨m, hT⟩ := tabs_of (laidMet.tail (laidMet.tail hL)) rfl (laidMet.tail (laidMet.tail (laidMet.tail (laidMet.tail hL)))) (laidMet.tail (laidMet.tail (laidMet.tail (laidMet.tail (laidMet.tail hL))))) hsh
  exact treesBad_calls n0 m W (i64_of_wf w0) hT

set_option maxHeartbeats 8000000 in
theorem treesBad_facts : joinedFacts Tryz.prog 5 Tryz.f5 Rows.treesBadSpec Rows.treesBadRow = true := by
  unfold joinedFacts
  exact and32 (by as_aux_lemma => kernel_rfl) Tryz.laidOut Tryz.mapsRowed (by as_aux_lemma => kernel_rfl) (by as_aux_lemma => kernel_rfl) (by as_aux_lemma => kernel_rfl) (by as_aux_lemma => kernel_rfl) (by as_aux_lemma => kernel_rfl) (by as_aux_lemma => kernel_rfl) (by as_aux_lemma => kernel_rfl) (by as_aux_lemma => kernel_rfl) (by as_aux_lemma => kernel_rfl) (by as_aux_lemma => kernel_rfl) (by as_aux_lemma => kernel_rfl) (by as_aux_lemma => kernel_rfl) (by as_aux_lemma => kernel_rfl) (by as_aux_lemma => kernel_rfl) (by as_aux_lemma => kernel_rfl) (by as_aux_lemma => kernel_rfl) (by as_aux_lemma => kernel_rfl) (by as_aux_lemma => kernel_rfl) (by as_aux_lemma => kernel_rfl) (by as_aux_lemma => kernel_rfl) (by as_aux_lemma => kernel_rfl) Tryz.stopsHeard Tryz.mayEnter (by rw [Tryz.liftsFinal]; kernel_rfl) (by rw [Tryz.make]; kernel_rfl) (by as_aux_lemma => kernel_rfl) (by as_aux_lemma => kernel_rfl) (by as_aux_lemma => kernel_rfl) (by as_aux_lemma => kernel_rfl)

set_option maxRecDepth 1000000 in
theorem treesBad_met (os : Os) : laidMet Tryz.prog Rows.treesBadRow.laid ((layTok (World.holding Tryz.prog os ⟨errObjs, #[], []⟩)).forCall (fun _ _ => 0) ⟨#[], #[.int .i64 0], []⟩).memory :=
  laidMet_of_run' 8 (by kernel_rfl) (by kernel_rfl)
set_option maxRecDepth 1000000 in
theorem treesBad_reads (os : Os) {H : Type} (enc : TypeId × Value → H) : ∃ places, DataW.whole enc Tryz.prog ((layTok (World.holding Tryz.prog os ⟨errObjs, #[], []⟩)).forCall (fun _ _ => 0) ⟨#[], #[.int .i64 0], []⟩).memory Tryz.f5.params.toList Rows.treesBadSpec.vars false #[Value.int .i64 0].toList 8 = some ([.lit (.int .i64 0)], [], places) :=
  ⟨[], by kernel_rfl⟩
set_option maxRecDepth 1000000 in
theorem treesBad_okW (os : Os) : Input.okWideB Tryz.prog ((layTok (World.holding Tryz.prog os ⟨errObjs, #[], []⟩)).forCall (fun _ _ => 0) ⟨#[], #[.int .i64 0], []⟩) 5 ⟨#[], #[.int .i64 0], []⟩ = true := by kernel_rfl
set_option maxRecDepth 1000000 in
theorem treesBad_vars (os : Os) : ((layTok (World.holding Tryz.prog os ⟨errObjs, #[], []⟩)).forCall (fun _ _ => 0) ⟨#[], #[.int .i64 0], []⟩).variablesB Tryz.prog = true := by kernel_rfl
set_option maxRecDepth 1000000 in
theorem treesBad_heap (os : Os) : (((layTok (World.holding Tryz.prog os ⟨errObjs, #[], []⟩)).forCall (fun _ _ => 0) ⟨#[], #[.int .i64 0], []⟩).heap.toList.drop Tryz.prog.globals.size).take ((begin Tryz.prog (fun _ _ => 0) default).world.heap.size - Tryz.prog.globals.size) = (begin Tryz.prog (fun _ _ => 0) default).world.heap.toList.drop Tryz.prog.globals.size := by kernel_rfl

set_option maxRecDepth 1000000 in
theorem treesBad_lifted (os : Os) (started : os.Started) (H : Type) (enc : TypeId × Value → H) (F : Stop.Interp) :
    ReturnsInHanded {} Tryz.checked os 5 .any ((OpenSpec.ofChange Rows.treesBadSpec).preRow enc Tryz.prog Tryz.f5 Rows.treesBadRow.domain false Rows.treesBadRow.laid) (((OpenSpec.ofChange Rows.treesBadSpec).at F).post enc Tryz.prog Tryz.f5 false true false false) := by
  obtain ⟨places, hx⟩ := treesBad_reads os enc
  refine law_row (C := Tryz.checked) (s := Rows.treesBadSpec) started Tryz.own Tryz.laidOut (by as_aux_lemma => kernel_rfl) Tryz.func5
    (witness_row_at (enc := enc) (C := Tryz.checked) false (layTok (World.holding Tryz.prog os ⟨errObjs, #[], []⟩)) #[.int .i64 0] rfl (treesBad_vars os) (treesBad_heap os) (treesBad_okW os)
      (OpenSpec.preRow_of_cond 8 hx (by kernel_rfl) (fun k hk => by cases hk) (by kernel_rfl) (treesBad_met os)))
    (by as_aux_lemma => kernel_rfl) rfl Tryz.underlying4 rfl
    (fun ds hd => match ds, hd with | [d0], _ => ⟨rfl, rfl, rfl⟩)
    treesBad_opened

set_option maxRecDepth 1000000 in
theorem treesBad_said : Rows.TreesBadSaid :=
  OpenClaim.holds_of_cond 5 Tryz.f5 rfl rfl rfl rfl rfl rfl rfl ⟨rfl, rfl, rfl, rfl, rfl⟩ rfl rfl rfl rfl rfl (by as_aux_lemma => kernel_rfl) Tryz.func5 treesBad_facts
    (of_decide_eq_true (by as_aux_lemma => kernel_rfl)) (by unfold Func.isWrapper; first | (rw [if_pos (by decide +kernel)]; kernel_rfl) | (rw [if_neg (by decide +kernel)]; exact ⟨rfl, rfl⟩))
    (fun os started H enc _ F => by rw [OpenClaim.pre_eq_preRow]; exact treesBad_lifted os started H enc F)

theorem treesBad_named : Tryz.prog.funcNamed Rows.treesBadRow.func = some 5 := by kernel_rfl
theorem treesBad_bare : (Tryz.f5.params.toList.all fun t => !Tryz.prog.wantsStandIn t) = true := by kernel_rfl
theorem treesBad_looks : Rows.treesBadCard.stood.looks = Tryz.prog.looks [] := by kernel_rfl
/-- No parameter wants a stand-in; the program's own looks are as the card says. -/
theorem treesBad_plain (f : FuncId) (fn : Go.Func) (hf : Tryz.pinned.checked.prog.funcNamed Rows.treesBadRow.func = some f) (hfn : Tryz.pinned.checked.prog.funcs[f]? = some fn) :
    Rows.treesBadCard.stood.looks = Tryz.pinned.checked.prog.looks [] ∧ ∀ (j : Nat) t, fn.params[j]? = some t → Tryz.pinned.checked.prog.wantsStandIn t = false := by
  obtain rfl : f = 5 := Option.some.inj (hf.symm.trans treesBad_named)
  obtain rfl : fn = Tryz.f5 := Option.some.inj (hfn.symm.trans Tryz.func5)
  refine ⟨treesBad_looks, fun j t ht => ?_⟩
  have h := List.all_eq_true.1 treesBad_bare t (by simpa using Array.mem_of_getElem? ht)
  have h2 : Tryz.prog.wantsStandIn t = false := by simpa using h
  exact h2

theorem treesBad_holds : Rows.TreesBadCardSaid :=
  Claim7.holds_tied_plain_at .later [] _ _ _ _ treesBad_said (fun _ h => by cases h) (by kernel_rfl) (fun _ h => by cases h) treesBad_row_tie rfl ⟨rfl, rfl⟩ (by kernel_rfl) rfl treesBad_plain (by kernel_rfl)
#print axioms treesBad_holds

end Go.Proofs.YtafhepilcmimlaaGreatDoor
