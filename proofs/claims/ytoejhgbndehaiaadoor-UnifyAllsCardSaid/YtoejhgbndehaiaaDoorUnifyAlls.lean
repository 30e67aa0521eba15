/- unify.All answers as the document says (AllOf), at all lists of strings. The row lists tables of Go's library, tied to the program's text. -/
import Derived.Test.YtoejhgbndehaiaaDoorUnifyAllsW
import Derived.Test.YtoejhgbndehaiaaDoorOpen
import Derived.Test.YtoejhgbndehaiaaDoorFrame
import Derived.Test.YtoejhgbndehaiaaDoorLawRow
import Derived.Test.YtoejhgbndehaiaaDoorUtfWorld
import Derived.Test.YtoejhgbndehaiaaDoorCards
import Derived.Test.YtoejhgbndehaiaaDoorTie
import Derived.SevenTiedAt
namespace Go.Proofs.YtoejhgbndehaiaaDoor
open Go.ChangeShapes Go.WideShapes Go.ChangeAt Go.RowKit
open Go.ChangeMaps (open_string)

set_option maxRecDepth 100000 in
theorem unifyAlls_opened {H : Type} {enc : TypeId × Value → H} (W : World) (base : Nat) (args : Array Value) (ds : List (DataW H)) (ps : List MemPlace)
    (hval : ∀ (j : Nat) t v, Tryd.f4.params[j]? = some t → args[j]? = some v → Value.okWide Tryd.checked.prog W .any base t v)
    (hA : DataW.TrodAll enc Tryd.checked.prog W 0 (fun _ => true) true Tryd.f4.params.toList args.toList ds ps) (hlt : ∀ x ∈ ps, x.block < W.heap.size)
    (hsz : (DataW.weightsEach Tryd.checked.prog Tryd.f4.params.toList ds).all (· ≤ reachBytes) = true) (_hL : laidMetH Tryd.checked.prog Rows.unifyAllsRow.laid W) (hsh : W.ShapedOpen Tryd.checked.prog) :
    Calls Tryd.checked.prog 4 args W fun e W' => e = .returned (.bool true) ∧ Below W.heap.size W W' := by
  rw [Tryd.params4] at hA hval hsz
  obtain ⟨v0, v1, v2, d0, d1, d2, p0, p1, p2, rfl, rfl, rfl, h0, h1, h2⟩ := trodAll_three hA
  obtain ⟨l0, hr0⟩ := arg_slice Tryd.underlying26 (fun N => opens_strs) (hval 0 _ v0 rfl rfl) h0 (fun x hx => hlt x (by simp [hx])) (weights_of hsz (j := 0) rfl rfl)
  obtain ⟨l1, hr1⟩ := arg_slice Tryd.underlying26 (fun N => opens_strs) (hval 1 _ v1 rfl rfl) h1 (fun x hx => hlt x (by simp [hx])) (weights_of hsz (j := 1) rfl rfl)
  obtain ⟨s2, rfl, rfl, rfl, _⟩ := open_string Tryd.underlying9 (hval 2 _ v2 rfl rfl) h2
  obtain ⟨m, hm⟩ := Tryd.laysM154.s1_3 W hsh
  exact unifyAlls_calls v0 l0 v1 l1 s2 m W hr0 hr1 (size_of_reach (sized_string hsz (j := 2) rfl rfl)) hm

set_option maxHeartbeats 8000000 in
theorem unifyAlls_facts : joinedFacts Tryd.prog 4 Tryd.f4 Rows.unifyAllsSpec Rows.unifyAllsRow = true := by
  unfold joinedFacts
  exact and32 (by as_aux_lemma => kernel_rfl) Tryd.laidOut Tryd.mapsRowed (by as_aux_lemma => kernel_rfl) (by as_aux_lemma => kernel_rfl) (by as_aux_lemma => kernel_rfl) (by as_aux_lemma => kernel_rfl) (by as_aux_lemma => kernel_rfl) (by as_aux_lemma => kernel_rfl) (by as_aux_lemma => kernel_rfl) (by as_aux_lemma => kernel_rfl) (by as_aux_lemma => kernel_rfl) (by as_aux_lemma => kernel_rfl) (by as_aux_lemma => kernel_rfl) (by as_aux_lemma => kernel_rfl) (by as_aux_lemma => kernel_rfl) (by as_aux_lemma => kernel_rfl) (by as_aux_lemma => kernel_rfl) (by as_aux_lemma => kernel_rfl) (by as_aux_lemma => kernel_rfl) (by as_aux_lemma => kernel_rfl) (by as_aux_lemma => kernel_rfl) (by as_aux_lemma => kernel_rfl) (by as_aux_lemma => kernel_rfl) Tryd.stopsHeard Tryd.mayEnter (by rw [Tryd.liftsFinal]; kernel_rfl) (by rw [Tryd.make]; kernel_rfl) (by as_aux_lemma => kernel_rfl) (by as_aux_lemma => kernel_rfl) (by as_aux_lemma => kernel_rfl) (by as_aux_lemma => kernel_rfl)

set_option maxRecDepth 1000000 in
theorem unifyAlls_met (os : Os) : laidMet Tryd.prog Rows.unifyAllsRow.laid ((layUtf (World.holding Tryd.prog os ⟨#[], #[], []⟩)).forCall (fun _ _ => 0) ⟨#[], #[.slice none 0 0, .slice none 0 0, .string ⟨#[]⟩], []⟩).memory :=
  laidMet_of_run' 8 (by kernel_rfl) (by kernel_rfl)
set_option maxRecDepth 1000000 in
theorem unifyAlls_reads (os : Os) {H : Type} (enc : TypeId × Value → H) : ∃ places, DataW.whole enc Tryd.prog ((layUtf (World.holding Tryd.prog os ⟨#[], #[], []⟩)).forCall (fun _ _ => 0) ⟨#[], #[.slice none 0 0, .slice none 0 0, .string ⟨#[]⟩], []⟩).memory Tryd.f4.params.toList Rows.unifyAllsSpec.vars false #[Value.slice none 0 0, Value.slice none 0 0, Value.string ⟨#[]⟩].toList 8 = some ([.nil, .nil, .lit (.string [])], [], places) :=
  ⟨[], by kernel_rfl⟩
set_option maxRecDepth 1000000 in
theorem unifyAlls_okW (os : Os) : Input.okWideB Tryd.prog ((layUtf (World.holding Tryd.prog os ⟨#[], #[], []⟩)).forCall (fun _ _ => 0) ⟨#[], #[.slice none 0 0, .slice none 0 0, .string ⟨#[]⟩], []⟩) 4 ⟨#[], #[.slice none 0 0, .slice none 0 0, .string ⟨#[]⟩], []⟩ = true := by kernel_rfl
set_option maxRecDepth 1000000 in
theorem unifyAlls_vars (os : Os) : ((layUtf (World.holding Tryd.prog os ⟨#[], #[], []⟩)).forCall (fun _ _ => 0) ⟨#[], #[.slice none 0 0, .slice none 0 0, .string ⟨#[]⟩], []⟩).variablesB Tryd.prog = true := by kernel_rfl
set_option maxRecDepth 1000000 in
theorem unifyAlls_heap (os : Os) : (((layUtf (World.holding Tryd.prog os ⟨#[], #[], []⟩)).forCall (fun _ _ => 0) ⟨#[], #[.slice none 0 0, .slice none 0 0, .string ⟨#[]⟩], []⟩).heap.toList.drop Tryd.prog.globals.size).take ((begin Tryd.prog (fun _ _ => 0) default).world.heap.size - Tryd.prog.globals.size) = (begin Tryd.prog (fun _ _ => 0) default).world.heap.toList.drop Tryd.prog.globals.size := by kernel_rfl

set_option maxRecDepth 1000000 in
theorem unifyAlls_lifted (os : Os) (started : os.Started) (H : Type) (enc : TypeId × Value → H) (F : Stop.Interp) :
    ReturnsInHanded {} Tryd.checked os 4 .any ((OpenSpec.ofChange Rows.unifyAllsSpec).preRow enc Tryd.prog Tryd.f4 Rows.unifyAllsRow.domain false Rows.unifyAllsRow.laid) (((OpenSpec.ofChange Rows.unifyAllsSpec).at F).post enc Tryd.prog Tryd.f4 false true false false) := by
  obtain ⟨places, hx⟩ := unifyAlls_reads os enc
  refine law_row (C := Tryd.checked) (s := Rows.unifyAllsSpec) started Tryd.own Tryd.laidOut (by as_aux_lemma => kernel_rfl) Tryd.func4
    (witness_row_at (enc := enc) (C := Tryd.checked) false (layUtf (World.holding Tryd.prog os ⟨#[], #[], []⟩)) #[.slice none 0 0, .slice none 0 0, .string ⟨#[]⟩] rfl (unifyAlls_vars os) (unifyAlls_heap os) (unifyAlls_okW os)
      (OpenSpec.preRow_of_cond 8 hx (by kernel_rfl) (fun k hk => by cases hk) (by kernel_rfl) (unifyAlls_met os)))
    (by as_aux_lemma => kernel_rfl) rfl Tryd.underlying4 rfl
    (fun ds hd => match ds, hd with | [d0, d1, d2], _ => ⟨rfl, rfl, rfl⟩)
    unifyAlls_opened

set_option maxRecDepth 1000000 in
theorem unifyAlls_said : Rows.UnifyAllsSaid :=
  OpenClaim.holds_of_cond 4 Tryd.f4 rfl rfl rfl rfl rfl rfl rfl ⟨rfl, rfl, rfl, rfl, rfl⟩ rfl rfl rfl rfl rfl (by as_aux_lemma => kernel_rfl) Tryd.func4 unifyAlls_facts
    (of_decide_eq_true (by as_aux_lemma => kernel_rfl)) (by unfold Func.isWrapper; first | (rw [if_pos (by decide +kernel)]; kernel_rfl) | (rw [if_neg (by decide +kernel)]; exact ⟨rfl, rfl⟩))
    (fun os started H enc _ F => by rw [OpenClaim.pre_eq_preRow]; exact unifyAlls_lifted os started H enc F)

theorem unifyAlls_named : Tryd.prog.funcNamed Rows.unifyAllsRow.func = some 4 := by kernel_rfl
theorem unifyAlls_bare : (Tryd.f4.params.toList.all fun t => !Tryd.prog.wantsStandIn t) = true := by kernel_rfl
theorem unifyAlls_looks : Rows.unifyAllsCard.stood.looks = Tryd.prog.looks [] := by kernel_rfl
/-- No parameter wants a stand-in; the program's own looks are as the card says. -/
theorem unifyAlls_plain (f : FuncId) (fn : Go.Func) (hf : Tryd.pinned.checked.prog.funcNamed Rows.unifyAllsRow.func = some f) (hfn : Tryd.pinned.checked.prog.funcs[f]? = some fn) :
    Rows.unifyAllsCard.stood.looks = Tryd.pinned.checked.prog.looks [] ∧ ∀ (j : Nat) t, fn.params[j]? = some t → Tryd.pinned.checked.prog.wantsStandIn t = false := by
  obtain rfl : f = 4 := Option.some.inj (hf.symm.trans unifyAlls_named)
  obtain rfl : fn = Tryd.f4 := Option.some.inj (hfn.symm.trans Tryd.func4)
  refine ⟨unifyAlls_looks, fun j t ht => ?_⟩
  have h := List.all_eq_true.1 unifyAlls_bare t (by simpa using Array.mem_of_getElem? ht)
  have h2 : Tryd.prog.wantsStandIn t = false := by simpa using h
  exact h2

theorem unifyAlls_holds : Rows.UnifyAllsCardSaid :=
  Claim7.holds_tied_plain_at .later [] _ _ _ _ unifyAlls_said (fun _ h => by cases h) (by kernel_rfl) (fun _ h => by cases h) unifyAlls_row_tie rfl ⟨rfl, rfl⟩ (by kernel_rfl) rfl unifyAlls_plain (by kernel_rfl)
#print axioms unifyAlls_holds

end Go.Proofs.YtoejhgbndehaiaaDoor
