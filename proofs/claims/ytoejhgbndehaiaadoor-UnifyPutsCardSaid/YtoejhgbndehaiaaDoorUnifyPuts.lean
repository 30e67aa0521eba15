/- unify.Put answers as the document says (PutOf), at all strings. The row lists two tables of Go's library, tied to the program's text. -/
import Derived.Test.YtoejhgbndehaiaaDoorPut
import Derived.Test.YtoejhgbndehaiaaDoorFrame
import Derived.Test.YtoejhgbndehaiaaDoorLawRow
import Derived.Test.YtoejhgbndehaiaaDoorUtfWorld
import Derived.Test.YtoejhgbndehaiaaDoorCards
import Derived.Test.YtoejhgbndehaiaaDoorTie
import Derived.SevenTiedAt
namespace Go.Proofs.YtoejhgbndehaiaaDoor
open Go.ChangeShapes Go.WideShapes Go.ChangeAt Go.RowKit
open Go.ChangeMaps (open_string)

set_option maxRecDepth 100000 in
set_option maxHeartbeats 1000000 in
theorem unifyPuts_calls (p b : ByteArray) (m : Int) (w : World) (hp : p.size ≤ 140737488355328) (hb : b.size ≤ 140737488355328) (hm : w.cell? ⟨0, 0, none⟩ = some (.int .i64 m)) :
    Calls Tryd.prog 3 #[.string p, .string b] w fun e w' => e = .returned (.bool true) ∧ Below w.heap.size w w' := by
  have hc := put_any p b m w hp hb hm
  have hd := fun U => putOf_any p b U hp hb
  generalize putR p b = r at hc hd
  obtain ⟨S, C⟩ := r
  dsimp only at hc hd
  have HC := Lib.hid hc; have HD := Lib.hid hd
  clear hc hd
  go_enter Tryd.func3, Tryd.ntmps3
  go_wp2_with fail
  refine HC.out.mono ?_
  rintro e w1 ⟨rfl, hb1⟩
  go_wp2_with fail
  refine (HD.out w1).mono ?_
  rintro e w2 ⟨rfl, hb2⟩
  go_wp2_with fail
  go_ret
  exact ⟨ret_bool (by simp), hb1.trans (hb2.mono hb1.size)⟩

set_option maxRecDepth 100000 in
theorem unifyPuts_opened {H : Type} {enc : TypeId × Value → H} (W : World) (base : Nat) (args : Array Value) (ds : List (DataW H)) (ps : List MemPlace)
    (hval : ∀ (j : Nat) t v, Tryd.f3.params[j]? = some t → args[j]? = some v → Value.okWide Tryd.checked.prog W .any base t v)
    (hA : DataW.TrodAll enc Tryd.checked.prog W 0 (fun _ => true) true Tryd.f3.params.toList args.toList ds ps) (_hlt : ∀ x ∈ ps, x.block < W.heap.size)
    (hsz : (DataW.weightsEach Tryd.checked.prog Tryd.f3.params.toList ds).all (· ≤ reachBytes) = true) (_hL : laidMetH Tryd.checked.prog Rows.unifyPutsRow.laid W) (hsh : W.ShapedOpen Tryd.checked.prog) :
    Calls Tryd.checked.prog 3 args W fun e W' => e = .returned (.bool true) ∧ Below W.heap.size W W' := by
  rw [Tryd.params3] at hA hval hsz
  obtain ⟨v0, v1, d0, d1, p0, p1, rfl, rfl, rfl, h0, h1⟩ := trodAll_two hA
  obtain ⟨p, rfl, rfl, rfl, _⟩ := open_string Tryd.underlying9 (hval 0 _ v0 rfl rfl) h0
  obtain ⟨b, rfl, rfl, rfl, _⟩ := open_string Tryd.underlying9 (hval 1 _ v1 rfl rfl) h1
  obtain ⟨m, hm⟩ := Tryd.laysM154.s1_3 W hsh
  exact unifyPuts_calls p b m W (size_of_reach (sized_string hsz (j := 0) rfl rfl)) (size_of_reach (sized_string hsz (j := 1) rfl rfl)) hm

set_option maxHeartbeats 8000000 in
theorem unifyPuts_facts : joinedFacts Tryd.prog 3 Tryd.f3 Rows.unifyPutsSpec Rows.unifyPutsRow = true := by
  unfold joinedFacts
  exact and32 (by as_aux_lemma => kernel_rfl) Tryd.laidOut Tryd.mapsRowed (by as_aux_lemma => kernel_rfl) (by as_aux_lemma => kernel_rfl) (by as_aux_lemma => kernel_rfl) (by as_aux_lemma => kernel_rfl) (by as_aux_lemma => kernel_rfl) (by as_aux_lemma => kernel_rfl) (by as_aux_lemma => kernel_rfl) (by as_aux_lemma => kernel_rfl) (by as_aux_lemma => kernel_rfl) (by as_aux_lemma => kernel_rfl) (by as_aux_lemma => kernel_rfl) (by as_aux_lemma => kernel_rfl) (by as_aux_lemma => kernel_rfl) (by as_aux_lemma => kernel_rfl) (by as_aux_lemma => kernel_rfl) (by as_aux_lemma => kernel_rfl) (by as_aux_lemma => kernel_rfl) (by as_aux_lemma => kernel_rfl) (by as_aux_lemma => kernel_rfl) (by as_aux_lemma => kernel_rfl) (by as_aux_lemma => kernel_rfl) Tryd.stopsHeard Tryd.mayEnter (by rw [Tryd.liftsFinal]; kernel_rfl) (by rw [Tryd.make]; kernel_rfl) (by as_aux_lemma => kernel_rfl) (by as_aux_lemma => kernel_rfl) (by as_aux_lemma => kernel_rfl) (by as_aux_lemma => kernel_rfl)

theorem unifyPuts_met (os : Os) : laidMet Tryd.prog Rows.unifyPutsRow.laid ((layUtf (World.holding Tryd.prog os ⟨#[], #[], []⟩)).forCall (fun _ _ => 0) ⟨#[], #[.string ⟨#[]⟩, .string ⟨#[]⟩], []⟩).memory :=
  laidMet_of_run' 8 (by kernel_rfl) (by kernel_rfl)
theorem unifyPuts_reads (os : Os) {H : Type} (enc : TypeId × Value → H) : ∃ places, DataW.whole enc Tryd.prog ((layUtf (World.holding Tryd.prog os ⟨#[], #[], []⟩)).forCall (fun _ _ => 0) ⟨#[], #[.string ⟨#[]⟩, .string ⟨#[]⟩], []⟩).memory Tryd.f3.params.toList Rows.unifyPutsSpec.vars false #[Value.string ⟨#[]⟩, Value.string ⟨#[]⟩].toList 8 = some ([.lit (.string []), .lit (.string [])], [], places) :=
  ⟨[], by kernel_rfl⟩

set_option maxRecDepth 1000000 in
theorem unifyPuts_okW (os : Os) : Input.okWideB Tryd.prog ((layUtf (World.holding Tryd.prog os ⟨#[], #[], []⟩)).forCall (fun _ _ => 0) ⟨#[], #[.string ⟨#[]⟩, .string ⟨#[]⟩], []⟩) 3 ⟨#[], #[.string ⟨#[]⟩, .string ⟨#[]⟩], []⟩ = true := by kernel_rfl
set_option maxRecDepth 1000000 in
theorem unifyPuts_vars (os : Os) : ((layUtf (World.holding Tryd.prog os ⟨#[], #[], []⟩)).forCall (fun _ _ => 0) ⟨#[], #[.string ⟨#[]⟩, .string ⟨#[]⟩], []⟩).variablesB Tryd.prog = true := by kernel_rfl
set_option maxRecDepth 1000000 in
theorem unifyPuts_heap (os : Os) : (((layUtf (World.holding Tryd.prog os ⟨#[], #[], []⟩)).forCall (fun _ _ => 0) ⟨#[], #[.string ⟨#[]⟩, .string ⟨#[]⟩], []⟩).heap.toList.drop Tryd.prog.globals.size).take ((begin Tryd.prog (fun _ _ => 0) default).world.heap.size - Tryd.prog.globals.size) = (begin Tryd.prog (fun _ _ => 0) default).world.heap.toList.drop Tryd.prog.globals.size := by kernel_rfl

set_option maxRecDepth 1000000 in
theorem unifyPuts_lifted (os : Os) (started : os.Started) (H : Type) (enc : TypeId × Value → H) (F : Stop.Interp) :
    ReturnsInHanded {} Tryd.checked os 3 .any ((OpenSpec.ofChange Rows.unifyPutsSpec).preRow enc Tryd.prog Tryd.f3 Rows.unifyPutsRow.domain false Rows.unifyPutsRow.laid) (((OpenSpec.ofChange Rows.unifyPutsSpec).at F).post enc Tryd.prog Tryd.f3 false true false false) := by
  obtain ⟨places, hx⟩ := unifyPuts_reads os enc
  refine law_row (C := Tryd.checked) (s := Rows.unifyPutsSpec) started Tryd.own Tryd.laidOut (by as_aux_lemma => kernel_rfl) Tryd.func3
    (witness_row_at (enc := enc) (C := Tryd.checked) false (layUtf (World.holding Tryd.prog os ⟨#[], #[], []⟩)) #[.string ⟨#[]⟩, .string ⟨#[]⟩] rfl (unifyPuts_vars os) (unifyPuts_heap os) (unifyPuts_okW os)
      (OpenSpec.preRow_of_cond 8 hx (by kernel_rfl) (fun k hk => by cases hk) (by kernel_rfl) (unifyPuts_met os)))
    (by as_aux_lemma => kernel_rfl) rfl Tryd.underlying4 rfl
    (fun ds hd => match ds, hd with | [d0, d1], _ => ⟨rfl, rfl, rfl⟩)
    unifyPuts_opened

set_option maxRecDepth 1000000 in
theorem unifyPuts_said : Rows.UnifyPutsSaid :=
  OpenClaim.holds_of_cond 3 Tryd.f3 rfl rfl rfl rfl rfl rfl rfl ⟨rfl, rfl, rfl, rfl, rfl⟩ rfl rfl rfl rfl rfl (by as_aux_lemma => kernel_rfl) Tryd.func3 unifyPuts_facts
    (of_decide_eq_true (by as_aux_lemma => kernel_rfl)) (by unfold Func.isWrapper; first | (rw [if_pos (by decide +kernel)]; kernel_rfl) | (rw [if_neg (by decide +kernel)]; exact ⟨rfl, rfl⟩))
    (fun os started H enc _ F => by rw [OpenClaim.pre_eq_preRow]; exact unifyPuts_lifted os started H enc F)

theorem unifyPuts_named : Tryd.prog.funcNamed Rows.unifyPutsRow.func = some 3 := by kernel_rfl
theorem unifyPuts_bare : (Tryd.f3.params.toList.all fun t => !Tryd.prog.wantsStandIn t) = true := by kernel_rfl
theorem unifyPuts_looks : Rows.unifyPutsCard.stood.looks = Tryd.prog.looks [] := by kernel_rfl
/-- No parameter wants a stand-in; the program's own looks are as the card says. -/
theorem unifyPuts_plain (f : FuncId) (fn : Go.Func) (hf : Tryd.pinned.checked.prog.funcNamed Rows.unifyPutsRow.func = some f) (hfn : Tryd.pinned.checked.prog.funcs[f]? = some fn) :
    Rows.unifyPutsCard.stood.looks = Tryd.pinned.checked.prog.looks [] ∧ ∀ (j : Nat) t, fn.params[j]? = some t → Tryd.pinned.checked.prog.wantsStandIn t = false := by
  obtain rfl : f = 3 := Option.some.inj (hf.symm.trans unifyPuts_named)
  obtain rfl : fn = Tryd.f3 := Option.some.inj (hfn.symm.trans Tryd.func3)
  refine ⟨unifyPuts_looks, fun j t ht => ?_⟩
  have h := List.all_eq_true.1 unifyPuts_bare t (by simpa using Array.mem_of_getElem? ht)
  have h2 : Tryd.prog.wantsStandIn t = false := by simpa using h
  exact h2

theorem unifyPuts_holds : Rows.UnifyPutsCardSaid :=
  Claim7.holds_tied_plain_at .later [] _ _ _ _ unifyPuts_said (fun _ h => by cases h) (by kernel_rfl) (fun _ h => by cases h) unifyPuts_row_tie rfl ⟨rfl, rfl⟩ (by kernel_rfl) rfl unifyPuts_plain (by kernel_rfl)
#print axioms unifyPuts_holds

end Go.Proofs.YtoejhgbndehaiaaDoor
