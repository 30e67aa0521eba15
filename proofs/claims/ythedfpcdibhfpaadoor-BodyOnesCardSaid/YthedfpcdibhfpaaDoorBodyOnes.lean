/- body.One answers as the document says (BodyOf), at all modules, imports, faces and places. The row lists tables of Go's library, tied to the program's text. -/
import Derived.Test.YthedfpcdibhfpaaDoorBodyOneG
import Derived.Test.YthedfpcdibhfpaaDoorOpen
import Derived.Test.YthedfpcdibhfpaaDoorFrame
import Derived.Test.YthedfpcdibhfpaaDoorLawRow
import Derived.Test.YthedfpcdibhfpaaDoorUtfWorld
import Derived.Test.YthedfpcdibhfpaaDoorCards
import Derived.Test.YthedfpcdibhfpaaDoorTie
import Derived.SevenTiedAt
namespace Go.Proofs.YthedfpcdibhfpaaDoor
open Go.ChangeShapes Go.WideShapes Go.ChangeAt Go.RowKit
open Go.ChangeMaps (open_string)

set_option maxRecDepth 100000 in
theorem bodyOnes_opened {H : Type} {enc : TypeId × Value → H} (W : World) (base : Nat) (args : Array Value) (ds : List (DataW H)) (ps : List MemPlace)
    (hval : ∀ (j : Nat) t v, Tryd.f3.params[j]? = some t → args[j]? = some v → Value.okWide Tryd.checked.prog W .any base t v)
    (hA : DataW.TrodAll enc Tryd.checked.prog W 0 (fun _ => true) true Tryd.f3.params.toList args.toList ds ps) (hlt : ∀ x ∈ ps, x.block < W.heap.size)
    (hsz : (DataW.weightsEach Tryd.checked.prog Tryd.f3.params.toList ds).all (· ≤ reachBytes) = true) (_hL : laidMetH Tryd.checked.prog Rows.bodyOnesRow.laid W) (hsh : W.ShapedOpen Tryd.checked.prog) :
    Calls Tryd.checked.prog 3 args W fun e W' => e = .returned (.bool true) ∧ Below W.heap.size W W' := by
  rw [Tryd.params3] at hA hval hsz
  obtain ⟨v0, v1, v2, v3, d0, d1, d2, d3, p0, p1, p2, p3, rfl, rfl, rfl, h0, h1, h2, h3⟩ := trodAll_four hA
  obtain ⟨c0, x0, rfl, hr0⟩ := arg_struct Tryd.underlying26 (fun N => opens_module) (hval 0 _ v0 rfl rfl) h0 (fun x hx => hlt x (by simp [hx])) (weights_of hsz (j := 0) rfl rfl)
  obtain ⟨l1, hr1⟩ := arg_slice Tryd.underlying27 (fun N => opens_imports) (hval 1 _ v1 rfl rfl) h1 (fun x hx => hlt x (by simp [hx])) (weights_of hsz (j := 1) rfl rfl)
  obtain ⟨c2, x2, rfl, hr2⟩ := arg_struct Tryd.underlying31 (fun N => opens_face) (hval 2 _ v2 rfl rfl) h2 (fun x hx => hlt x (by simp [hx])) (weights_of hsz (j := 2) rfl rfl)
  obtain ⟨n3, rfl, rfl, rfl, w3⟩ := open_int Tryd.underlying3 (hval 3 _ v3 rfl rfl) h3
  obtain ⟨m, hm⟩ := maxLen_cell hsh
  exact bodyOnes_calls c0 x0 v1 l1 c2 x2 n3 m W hr0 hr1 hr2 (i64_of_wf w3) hm

set_option maxHeartbeats 8000000 in
theorem bodyOnes_facts : joinedFacts Tryd.prog 3 Tryd.f3 Rows.bodyOnesSpec Rows.bodyOnesRow = true := by
  unfold joinedFacts
  exact and32 (by as_aux_lemma => kernel_rfl) Tryd.laidOut Tryd.mapsRowed (by as_aux_lemma => kernel_rfl) (by as_aux_lemma => kernel_rfl) (by as_aux_lemma => kernel_rfl) (by as_aux_lemma => kernel_rfl) (by as_aux_lemma => kernel_rfl) (by as_aux_lemma => kernel_rfl) (by as_aux_lemma => kernel_rfl) (by as_aux_lemma => kernel_rfl) (by as_aux_lemma => kernel_rfl) (by as_aux_lemma => kernel_rfl) (by as_aux_lemma => kernel_rfl) (by as_aux_lemma => kernel_rfl) (by as_aux_lemma => kernel_rfl) (by as_aux_lemma => kernel_rfl) (by as_aux_lemma => kernel_rfl) (by as_aux_lemma => kernel_rfl) (by as_aux_lemma => kernel_rfl) (by as_aux_lemma => kernel_rfl) (by as_aux_lemma => kernel_rfl) (by as_aux_lemma => kernel_rfl) (by as_aux_lemma => kernel_rfl) Tryd.stopsHeard Tryd.mayEnter (by rw [Tryd.liftsFinal]; kernel_rfl) (by rw [Tryd.make]; kernel_rfl) (by as_aux_lemma => kernel_rfl) (by as_aux_lemma => kernel_rfl) (by as_aux_lemma => kernel_rfl) (by as_aux_lemma => kernel_rfl)

set_option maxRecDepth 1000000 in
theorem bodyOnes_met (os : Os) : laidMet Tryd.prog Rows.bodyOnesRow.laid ((layUtf (World.holding Tryd.prog os ⟨#[], #[], []⟩)).forCall (fun _ _ => 0) ⟨#[], #[.agg #[.slice none 0 0, .slice none 0 0, .slice none 0 0], .slice none 0 0, .agg #[.slice none 0 0, .slice none 0 0], .int .i64 0], []⟩).memory :=
  laidMet_of_run' 8 (by kernel_rfl) (by kernel_rfl)
set_option maxRecDepth 1000000 in
theorem bodyOnes_reads (os : Os) {H : Type} (enc : TypeId × Value → H) : ∃ places, DataW.whole enc Tryd.prog ((layUtf (World.holding Tryd.prog os ⟨#[], #[], []⟩)).forCall (fun _ _ => 0) ⟨#[], #[.agg #[.slice none 0 0, .slice none 0 0, .slice none 0 0], .slice none 0 0, .agg #[.slice none 0 0, .slice none 0 0], .int .i64 0], []⟩).memory Tryd.f3.params.toList Rows.bodyOnesSpec.vars false #[Value.agg #[.slice none 0 0, .slice none 0 0, .slice none 0 0], Value.slice none 0 0, Value.agg #[.slice none 0 0, .slice none 0 0], Value.int .i64 0].toList 8 = some ([.agg [.nil, .nil, .nil], .nil, .agg [.nil, .nil], .lit (.int .i64 0)], [], places) :=
  ⟨[], by kernel_rfl⟩
set_option maxRecDepth 1000000 in
theorem bodyOnes_okW (os : Os) : Input.okWideB Tryd.prog ((layUtf (World.holding Tryd.prog os ⟨#[], #[], []⟩)).forCall (fun _ _ => 0) ⟨#[], #[.agg #[.slice none 0 0, .slice none 0 0, .slice none 0 0], .slice none 0 0, .agg #[.slice none 0 0, .slice none 0 0], .int .i64 0], []⟩) 3 ⟨#[], #[.agg #[.slice none 0 0, .slice none 0 0, .slice none 0 0], .slice none 0 0, .agg #[.slice none 0 0, .slice none 0 0], .int .i64 0], []⟩ = true := by kernel_rfl
set_option maxRecDepth 1000000 in
theorem bodyOnes_vars (os : Os) : ((layUtf (World.holding Tryd.prog os ⟨#[], #[], []⟩)).forCall (fun _ _ => 0) ⟨#[], #[.agg #[.slice none 0 0, .slice none 0 0, .slice none 0 0], .slice none 0 0, .agg #[.slice none 0 0, .slice none 0 0], .int .i64 0], []⟩).variablesB Tryd.prog = true := by kernel_rfl
set_option maxRecDepth 1000000 in
theorem bodyOnes_heap (os : Os) : (((layUtf (World.holding Tryd.prog os ⟨#[], #[], []⟩)).forCall (fun _ _ => 0) ⟨#[], #[.agg #[.slice none 0 0, .slice none 0 0, .slice none 0 0], .slice none 0 0, .agg #[.slice none 0 0, .slice none 0 0], .int .i64 0], []⟩).heap.toList.drop Tryd.prog.globals.size).take ((begin Tryd.prog (fun _ _ => 0) default).world.heap.size - Tryd.prog.globals.size) = (begin Tryd.prog (fun _ _ => 0) default).world.heap.toList.drop Tryd.prog.globals.size := by kernel_rfl

set_option maxRecDepth 1000000 in
theorem bodyOnes_lifted (os : Os) (started : os.Started) (H : Type) (enc : TypeId × Value → H) (F : Stop.Interp) :
    ReturnsInHanded {} Tryd.checked os 3 .any ((OpenSpec.ofChange Rows.bodyOnesSpec).preRow enc Tryd.prog Tryd.f3 Rows.bodyOnesRow.domain false Rows.bodyOnesRow.laid) (((OpenSpec.ofChange Rows.bodyOnesSpec).at F).post enc Tryd.prog Tryd.f3 false true false false) := by
  obtain ⟨places, hx⟩ := bodyOnes_reads os enc
  refine law_row (C := Tryd.checked) (s := Rows.bodyOnesSpec) started Tryd.own Tryd.laidOut (by as_aux_lemma => kernel_rfl) Tryd.func3
    (witness_row_at (enc := enc) (C := Tryd.checked) false (layUtf (World.holding Tryd.prog os ⟨#[], #[], []⟩)) #[.agg #[.slice none 0 0, .slice none 0 0, .slice none 0 0], .slice none 0 0, .agg #[.slice none 0 0, .slice none 0 0], .int .i64 0] rfl (bodyOnes_vars os) (bodyOnes_heap os) (bodyOnes_okW os)
      (OpenSpec.preRow_of_cond 8 hx (by kernel_rfl) (fun k hk => by cases hk) (by kernel_rfl) (bodyOnes_met os)))
    (by as_aux_lemma => kernel_rfl) rfl Tryd.underlying4 rfl
    (fun ds hd => match ds, hd with | [d0, d1, d2, d3], _ => ⟨rfl, rfl, rfl⟩)
    bodyOnes_opened

set_option maxRecDepth 1000000 in
theorem bodyOnes_said : Rows.BodyOnesSaid :=
  OpenClaim.holds_of_cond 3 Tryd.f3 rfl rfl rfl rfl rfl rfl rfl ⟨rfl, rfl, rfl, rfl, rfl⟩ rfl rfl rfl rfl rfl (by as_aux_lemma => kernel_rfl) Tryd.func3 bodyOnes_facts
    (of_decide_eq_true (by as_aux_lemma => kernel_rfl)) (by unfold Func.isWrapper; first | (rw [if_pos (by decide +kernel)]; kernel_rfl) | (rw [if_neg (by decide +kernel)]; exact ⟨rfl, rfl⟩))
    (fun os started H enc _ F => by rw [OpenClaim.pre_eq_preRow]; exact bodyOnes_lifted os started H enc F)

theorem bodyOnes_named : Tryd.prog.funcNamed Rows.bodyOnesRow.func = some 3 := by kernel_rfl
theorem bodyOnes_bare : (Tryd.f3.params.toList.all fun t => !Tryd.prog.wantsStandIn t) = true := by kernel_rfl
theorem bodyOnes_looks : Rows.bodyOnesCard.stood.looks = Tryd.prog.looks [] := by kernel_rfl
/-- No parameter wants a stand-in; the program's own looks are as the card says. -/
theorem bodyOnes_plain (f : FuncId) (fn : Go.Func) (hf : Tryd.pinned.checked.prog.funcNamed Rows.bodyOnesRow.func = some f) (hfn : Tryd.pinned.checked.prog.funcs[f]? = some fn) :
    Rows.bodyOnesCard.stood.looks = Tryd.pinned.checked.prog.looks [] ∧ ∀ (j : Nat) t, fn.params[j]? = some t → Tryd.pinned.checked.prog.wantsStandIn t = false := by
  obtain rfl : f = 3 := Option.some.inj (hf.symm.trans bodyOnes_named)
  obtain rfl : fn = Tryd.f3 := Option.some.inj (hfn.symm.trans Tryd.func3)
  refine ⟨bodyOnes_looks, fun j t ht => ?_⟩
  have h := List.all_eq_true.1 bodyOnes_bare t (by simpa using Array.mem_of_getElem? ht)
  have h2 : Tryd.prog.wantsStandIn t = false := by simpa using h
  exact h2

theorem bodyOnes_holds : Rows.BodyOnesCardSaid :=
  Claim7.holds_tied_plain_at .later [] _ _ _ _ bodyOnes_said (fun _ h => by cases h) (by kernel_rfl) (fun _ h => by cases h) bodyOnes_row_tie rfl ⟨rfl, rfl⟩ (by kernel_rfl) rfl bodyOnes_plain (by kernel_rfl)
#print axioms bodyOnes_holds

end Go.Proofs.YthedfpcdibhfpaaDoor
