/- A text is parsed, line by line: tree.parse. -/
import Derived.Test.YtjaladhdnbhliaaGreatDoorLineRead
import Derived.Test.YtjaladhdnbhliaaGreatDoorSplitSeq
import Derived.Test.YtjaladhdnbhliaaGreatDoorRoundP
import Derived.Test.YtjaladhdnbhliaaGreatDoorTokCutG
import Derived.RangeFuncRecord
namespace Go.Proofs.YtjaladhdnbhliaaGreatDoor
open Go.RowKit Go.Shelf
attribute [local go_sem] Oper.semAt_some

/-- Where parse stands between two lines: the module so far, and what the range lays. -/
structure PSt (W0 : World) (r : Loop) (m : Module) (W : World) : Prop where
  mods : ModAt W W0.heap.size (W0.heap.size + 7) m
  err : Box W (W0.heap.size + 1) 29 #[.int .i64 0]
  dfr : W.heap[W0.heap.size + 5]? = some (.deferred (some []))
  rcd : W.heap[W0.heap.size + 6]? = some (.loop { r with state := .ready, pending := none })
  low : Below W0.heap.size W0 W
  big : W0.heap.size + 7 ≤ W.heap.size
/-- Where it is when a fault has been found. -/
structure PEx (W0 : World) (W : World) : Prop where
  mods : ∃ m, ModAt W W0.heap.size (W0.heap.size + 7) m
  err : Box W (W0.heap.size + 1) 29 #[.int .i64 0]
  dfr : W.heap[W0.heap.size + 5]? = some (.deferred (some []))
  low : Below W0.heap.size W0 W
  big : W0.heap.size + 7 ≤ W.heap.size

theorem cut_tokens {s : ByteArray} {L : List Token} (h : cutR s = (L, 0)) : L.length ≤ 200 ∧ (∀ t ∈ L, 1 ≤ t.kind) ∧ ∀ t ∈ L, t.kind = 2 → numOk t.text = true := by
  obtain ⟨_, hc, hl⟩ := cutR_some h
  have hg := cut_good _ _ _ (Nat.le_refl _) hc
  have hk : ∀ t ∈ L, 1 ≤ t.kind ∧ t.kind ≤ 4 ∧ tokOk t = true := fun t ht => by
    have h0 := hg t ht
    unfold tokErr at h0
    split at h0
    · cases h0
    · rename_i hk
      split at h0
      · rename_i ho; exact ⟨by omega, by omega, ho⟩
      · cases h0
  refine ⟨hl, fun t ht => (hk t ht).1, fun t ht h2 => ?_⟩
  have := (hk t ht).2.2
  unfold tokOk at this
  rw [if_neg (by omega), if_pos h2] at this
  exact this
def tot (m : Module) : Nat := m.uses.length + m.types.length + m.funcs.length
theorem lineT_nz {m : Module} {s : ByteArray} {k : Int} (h : lineT m s = .error k) : k ≠ 0 := by
  unfold lineT at h
  split at h
  · cases h; assumption
  · exact nz_line h
theorem map_tot {α : Type} {p : Pr α} {l : List Token} {f : α × List Token → Module} {m m' : Module} (h : (prEnd p l).map f = .ok m') (hf : ∀ x, tot (f x) = tot m + 1) : tot m' ≤ tot m + 1 := by
  cases hp : prEnd p l with
  | error e => rw [hp] at h; cases h
  | ok x => rw [hp] at h; cases h; rw [hf]; exact Nat.le_refl _
theorem line_tot {m m' : Module} {L : List Token} (h : lineR m L = .ok m') : tot m' ≤ tot m + 1 := by
  cases L with
  | nil => cases h; omega
  | cons t r =>
    rw [lineR_cons] at h
    split at h
    · cases h
    split at h
    · exact map_tot h (fun x => by simp [tot]; omega)
    split at h
    · exact map_tot h (fun x => by simp [tot]; omega)
    split at h
    · exact map_tot h (fun x => by simp [tot]; omega)
    · cases h

/-- The names that a module uses stand in a row of the function's own. -/
def OwnU (B : Nat) (W : World) (v : Value) (m : Module) : Prop := Owns StrR 1 9 B W none_ v m.uses
/-- What parse gives. -/
def ParseGave (W0 : World) (R : Except Int Module) (e : Ending) (W' : World) : Prop := ∃ (v1 v2 v3 : Value) (k : Int), e = .returned (.tuple #[.agg #[v1, v2, v3], .int .i64 k]) ∧ Below W0.heap.size W0 W' ∧
  ((∃ m, R = .ok m ∧ k = 0 ∧ ModuleR W' (fresh W0.heap.size W'.heap.size) [v1, v2, v3] m ∧ OwnU W0.heap.size W' v1 m) ∨ (R = .error k ∧ k ≠ 0 ∧ ∃ U n c T p d X q e, v1 = .slice U n c ∧ v2 = .slice T p d ∧ v3 = .slice X q e))
theorem Below.putObj_ {n r : Nat} {w w' : World} (h : Below n w w') (hr : n ≤ r) (o : Obj) : Below n w (w'.putObj r o) :=
  ⟨h.os, h.tape, h.output, by rw [World.putObj_size]; exact h.size, fun k hk => (World.putObj_heap_other (by omega)).trans (h.block k hk)⟩

set_option maxRecDepth 100000 in
set_option maxHeartbeats 1000000 in
/-- A fault has been found: it is caught. -/
theorem parse_out {W0 W : World} {R : Except Int Module} {k : Int} {tmps : Array Value} (h : PEx W0 W) (hk : k ≠ 0) (hR : R = .error k) (h2 : tmps[2]? = some (.pointer (some ⟨W0.heap.size, 0, none⟩))) (h3 : tmps[3]? = some (.pointer (some ⟨W0.heap.size + 1, 0, none⟩))) :
    LeavesP Tryz.prog Tryz.f38 tmps (ParseGave W0 R) [{ target := .collected (W0.heap.size + 5), args := #[] }, { target := .fn (.func 70) #[], args := #[.pointer (some ⟨W0.heap.size + 1, 0, none⟩)] }] (.panicking [faultV k]) W := by
  obtain ⟨m, U, T, X, cu, ct, cx, Gt, Gf, hm⟩ := h.mods
  refine ⟨by simp, .inl ⟨_, _, rfl, run_takeDeferred h.dfr, ?_⟩⟩
  obtain ⟨W1, hW1⟩ : ∃ z, W.putObj (W0.heap.size + 5) (.deferred none) = z := ⟨_, rfl⟩
  rw [hW1]
  have hz1 : W1.heap.size = W.heap.size := by rw [← hW1]; exact World.putObj_size
  have hb1 : Below W0.heap.size W0 W1 := by rw [← hW1]; exact Below.putObj_ h.low (by omega) _
  have hB1 : Box W1 W0.heap.size 27 _ := hm.box.of_heap (by rw [← hW1]; exact World.putObj_heap_other (by omega))
  have hE1 : Box W1 (W0.heap.size + 1) 29 #[.int .i64 0] := h.err.of_heap (by rw [← hW1]; exact World.putObj_heap_other (by omega))
  refine ⟨by simp, .inr ⟨_, _, 70, #[.pointer (some ⟨W0.heap.size + 1, 0, none⟩)], rfl, by simp [go_sem], ?_⟩⟩
  refine (caught_panicking ⟨W0.heap.size + 1, 0, none⟩ 0 k W1 (hE1.at_ 0 _ rfl) (hE1.free 0)).mono ?_
  rintro e' u' w'' ⟨rfl, rfl, rfl⟩
  have hE2 := (hE1.alloc (.cells #[.int .i64 k] 176)).put 0 (.int .i64 k)
  have hB2 := (hB1.alloc (.cells #[.int .i64 k] 176)).far (p := ⟨W0.heap.size + 1, 0, none⟩) (show W0.heap.size ≠ W0.heap.size + 1 by omega) (.int .i64 k)
  have c0 := hB2.at_ 0 _ rfl
  have c1 := hB2.at_ 1 _ rfl
  have c2 := hB2.at_ 2 _ rfl
  have e0 := hE2.at_ 0 _ rfl
  have hb2 : Below W0.heap.size W0 ((W1.alloc (.cells #[.int .i64 k] 176)).setCell ⟨W0.heap.size + 1, 0, none⟩ (.int .i64 k)) := (hb1.alloc hb1.size _).setCell (p := ⟨W0.heap.size + 1, 0, none⟩) (by show W0.heap.size ≤ W0.heap.size + 1; omega) _
  refine ⟨.tuple #[.agg #[.slice U m.uses.length cu, .slice T m.types.length ct, .slice X m.funcs.length cx], .int .i64 k], ?_, _, _, _, _, rfl, hb2, .inr ⟨hR, hk, _, _, _, _, _, _, _, _, _, rfl, rfl, rfl⟩⟩
  have b0 := hB1.at_ 0 _ rfl
  have b1 := hB1.at_ 1 _ rfl
  have b2 := hB1.at_ 2 _ rfl
  simp [results, Tryz.results38, go_sem, h2, h3, c0, c1, c2, e0]

set_option maxRecDepth 100000 in
set_option maxHeartbeats 1000000 in
/-- Nothing is wrong. -/
theorem parse_fine {W0 W : World} {R : Except Int Module} {m : Module} {tmps : Array Value} {U T X : Option Addr} {n c p d q e : Nat} (hB : Box W W0.heap.size 27 #[.slice U n c, .slice T p d, .slice X q e]) (hE : Box W (W0.heap.size + 1) 29 #[.int .i64 0]) (hd : W.heap[W0.heap.size + 5]? = some (.deferred (some [])))
    (hl : Below W0.heap.size W0 W) (hR : R = .ok m) (hM : ModuleR W (fresh (W0.heap.size + 7) W.heap.size) [.slice U n c, .slice T p d, .slice X q e] m) (hO : OwnU (W0.heap.size + 7) W (.slice U n c) m) (h2 : tmps[2]? = some (.pointer (some ⟨W0.heap.size, 0, none⟩))) (h3 : tmps[3]? = some (.pointer (some ⟨W0.heap.size + 1, 0, none⟩))) :
    LeavesP Tryz.prog Tryz.f38 tmps (ParseGave W0 R) [{ target := .collected (W0.heap.size + 5), args := #[] }, { target := .fn (.func 70) #[], args := #[.pointer (some ⟨W0.heap.size + 1, 0, none⟩)] }] .returning W := by
  refine ⟨by simp, .inl ⟨_, _, rfl, run_takeDeferred hd, ?_⟩⟩
  obtain ⟨W1, hW1⟩ : ∃ z, W.putObj (W0.heap.size + 5) (.deferred none) = z := ⟨_, rfl⟩
  rw [hW1]
  have hz1 : W1.heap.size = W.heap.size := by rw [← hW1]; exact World.putObj_size
  have hoth : ∀ k, k ≠ W0.heap.size + 5 → W1.heap[k]? = W.heap[k]? := fun k hk => by rw [← hW1]; exact World.putObj_heap_other hk
  have hb1 : Below W0.heap.size W0 W1 := by rw [← hW1]; exact Below.putObj_ hl (by omega) _
  have hB1 := hB.of_heap (hoth _ (by omega))
  have hE1 := hE.of_heap (hoth _ (by omega))
  have hM1 : ModuleR W1 (fresh W0.heap.size W1.heap.size) _ m := ModuleR.stays _ _ _ _ _ _ hM (fun k hk => ⟨by have := hk.1; omega, by have := hk.2; omega⟩) (fun p hp => World.cell?_of_block (hoth _ (by have := hp.1; omega)))
  have hO1 : OwnU W0.heap.size W1 (.slice U n c) m := (Owns.kept StrR.stays hO (by omega) (fun k _ hk => hoth k (fun e => hk.elim (fun h => h.elim) (fun h => by have := (Owns.row hO h).1; omega)))).low (by omega)
  refine ⟨by simp, .inr ⟨_, _, 70, #[.pointer (some ⟨W0.heap.size + 1, 0, none⟩)], rfl, by simp [go_sem], ?_⟩⟩
  refine (caught_idle ⟨W0.heap.size + 1, 0, none⟩ W1).mono ?_
  rintro e' u' w'' ⟨rfl, rfl, rfl⟩
  have c0 := hB1.at_ 0 _ rfl
  have c1 := hB1.at_ 1 _ rfl
  have c2 := hB1.at_ 2 _ rfl
  have e0 := hE1.at_ 0 _ rfl
  refine ⟨.tuple #[.agg #[.slice U n c, .slice T p d, .slice X q e], .int .i64 0], ?_, _, _, _, _, rfl, hb1, .inl ⟨m, hR, rfl, hM1, hO1⟩⟩
  simp [results, Tryz.results38, go_sem, h2, h3, c0, c1, c2, e0]

set_option maxRecDepth 100000 in
set_option maxHeartbeats 8000000 in
theorem parse_any (s : ByteArray) (W0 : World) (mx : Int) (hs : s.size ≤ 1500) (hT : Tabs W0 mx) : Calls Tryz.prog 38 #[.string s] W0 (ParseGave W0 (parseL noMod (linesOf s.data.toList))) := by
  obtain ⟨R, hR⟩ : ∃ R, parseL noMod (linesOf s.data.toList) = R := ⟨_, rfl⟩
  rw [hR]
  refine calls_of_wp_p (f := 38) Tryz.func38 rfl ?_
  simp only [Tryz.ntmps38, List.size_toArray, List.length_cons, List.length_nil, Nat.reduceAdd, Nat.reduceSub, Array.replicate_succ, Array.replicate_zero, List.push_toArray, List.append_toArray, List.nil_append, List.cons_append]
  refine wpAt_seq (wpAt_of_wp ?_)
  go_wp2
  have hBb1 := ((Box.made W0 27 #[.slice none 0 0, .slice none 0 0, .slice none 0 0]).alloc (.cells #[.int .i64 0] 29))
  have hBb2 := (Box.made (W0.alloc (.cells #[.slice none 0 0, .slice none 0 0, .slice none 0 0] 27)) 29 #[.int .i64 0])
  rw [show (W0.alloc (.cells #[.slice none 0 0, .slice none 0 0, .slice none 0 0] 27)).heap.size = W0.heap.size + 1 by simp only [World.size_alloc]] at hBb2
  have hbb : Below W0.heap.size W0 ((W0.alloc (.cells #[.slice none 0 0, .slice none 0 0, .slice none 0 0] 27)).alloc (.cells #[.int .i64 0] 29)) := by go_grown
  have hzb : ((W0.alloc (.cells #[.slice none 0 0, .slice none 0 0, .slice none 0 0] 27)).alloc (.cells #[.int .i64 0] 29)).heap.size = W0.heap.size + 1 + 1 := by simp only [World.size_alloc]
  generalize (W0.alloc (.cells #[.slice none 0 0, .slice none 0 0, .slice none 0 0] 27)).alloc (.cells #[.int .i64 0] 29) = W1 at hBb1 hBb2 hbb hzb ⊢
  refine wpAt_seq (wpAt_of_wp ?_)
  go_wp2
  refine wpAt_seq (wpAt_seq (wpAt_of_wp ?_))
  go_wp2_with fail
  refine (splitSeq_any s W1).mono ?_
  rintro e W2 ⟨rfl, hT2, hb2, hz2⟩
  go_wp2_with fail
  have e2 : W2.heap.size = W0.heap.size + 5 := by omega
  rw [hzb] at hT2
  refine wpAt_block (wpAt_rangeFunc (n := 0) rfl (enters_of Tryz.func188 (by kernel_rfl) rfl) ?_)
  intro r hst hpe hfn htm hps has hbo
  have hround : ∀ (m : Module) (x : List UInt8) (W : World), PSt W0 r m W → tot m ≤ 1501 → x.length ≤ 1501 → YieldAt Fence.wide (0 - 1) Tryz.prog (W0.heap.size + 6) #[.string (lit x)] W fun e W' =>
      (∃ m', lineT m (lit x) = .ok m' ∧ e = .returned (.bool true) ∧ PSt W0 r m' W' ∧ ∀ k, W0.heap.size + 2 ≤ k → k ≤ W0.heap.size + 4 → W'.heap[k]? = W.heap[k]?) ∨ (∃ k, lineT m (lit x) = .error k ∧ e = .panicked [faultV k] ∧ PEx W0 W') := by
    intro m x W hp hm hx
    have hy := run_yield (P := Tryz.prog) (args := #[.string (lit x)]) hp.rcd (by show 1 = r.params.size; rw [hps]; rfl)
    refine ⟨_, _, _, _, hy, ?_⟩
    clear hy
    show RoundIn _ _ _ _ r.fn ((r.params.zip #[.string (lit x)]).foldl (fun tmps (t, a) => tmps.setIfInBounds t a) r.tmps) r.assign r.body W _
    rw [hfn, has, hbo, htm, hps]
    simp only [List.zip_toArray, List.zip_cons_cons, List.zip_nil_right, List.foldl_toArray, List.foldl_cons, List.foldl_nil, List.setIfInBounds_toArray, List.set_cons_zero, List.set_cons_succ]
    refine roundIn_of_wpIn_p Tryz.func38 trivial ?_
    gi_wp2
    refine ⟨_, run_beginRound hp.rcd rfl, ?_⟩
    obtain ⟨U, T, X, cu, ct, cx, Gt, Gf, hmd⟩ := hp.mods
    obtain ⟨Wb, hWb⟩ : ∃ z, W.putObj (W0.heap.size + 6) (.loop { r with state := .busy, pending := none }) = z := ⟨_, rfl⟩
    have hWb' : W.putObj (W0.heap.size + 6) (.loop { { r with state := .ready, pending := none } with state := .busy }) = Wb := hWb
    rw [hWb']
    have hzB : Wb.heap.size = W.heap.size := by rw [← hWb]; exact World.putObj_size
    have hoth : ∀ k, k ≠ W0.heap.size + 6 → Wb.heap[k]? = W.heap[k]? := fun k hk => by rw [← hWb]; exact World.putObj_heap_other hk
    have hbig := hp.big
    have hrb : Wb.heap[W0.heap.size + 6]? = some (.loop { r with state := .busy, pending := none }) := by rw [← hWb]; exact World.putObj_heap_same (by omega)
    have hmb := hmd.touch (q := W0.heap.size + 6) (by omega) (by omega) (by omega) (fun k _ hk => hoth k hk)
    have heb : Box Wb (W0.heap.size + 1) 29 #[.int .i64 0] := hp.err.of_heap (hoth _ (by omega))
    have hdb : Wb.heap[W0.heap.size + 5]? = some (.deferred (some [])) := (hoth _ (by omega)).trans hp.dfr
    have hlb : Below W0.heap.size W0 Wb := by rw [← hWb]; exact Below.putObj_ hp.low (by omega) _
    have hTb := hT.later hlb
    obtain ⟨⟨L, f⟩, hE⟩ : ∃ E, cutR (lit x) = E := ⟨_, rfl⟩
    have hct := tokCut_any (lit x) Wb mx hTb
    rw [hE] at hct
    clear hWb hWb' hmd hT2 hb2
    gi_wp2
    refine ⟨trivial, rfl, (CallsIn.inRound _ (callsIn_wide.2 hct)).mono ?_⟩
    rintro e W4 ⟨v, rfl, hb4, hsl⟩
    dsimp only at hsl ⊢
    have hm4 := hmb.later hb4
    have he4 := heb.later hb4 heb.lt
    have hd4 : W4.heap[W0.heap.size + 5]? = some (.deferred (some [])) := (hb4.block _ (by omega)).trans hdb
    have hr4 : W4.heap[W0.heap.size + 6]? = some (.loop { r with state := .busy, pending := none }) := (hb4.block _ (by omega)).trans hrb
    have hl4 : Below W0.heap.size W0 W4 := hlb.trans (hb4.mono (by omega))
    have hs4 := hb4.size
    by_cases hf : f = 0
    · subst hf
      obtain ⟨htl, htk, htn⟩ := cut_tokens hE
      obtain ⟨A, c, rfl, _⟩ := hsl.form
      have hln : lineT m (lit x) = lineR m L := by unfold lineT; rw [hE, if_neg (by simp)]
      have hres : ∀ k, W0.heap.size + 2 ≤ k → k ≤ W0.heap.size + 4 → W4.heap[k]? = W.heap[k]? := fun k h1 h2 => (hb4.block k (by omega)).trans (hoth k (by omega))
      have hft : ∀ k, fresh Wb.heap.size W4.heap.size k → k < W4.heap.size := fun k hk => hk.2
      unfold tot at hm
      have HLN := Lib.hid hln; have HRES := Lib.hid hres; have HTK := Lib.hid htk; have HTN := Lib.hid htn; have HM4 := Lib.hid hm4; have HE4 := Lib.hid he4; have HD4 := Lib.hid hd4; have HR4 := Lib.hid hr4; have HL4 := Lib.hid hl4; have HSL := Lib.hid hsl
      clear hln hres htk htn hm4 he4 hd4 hr4 hl4 hsl
      clear hp hmb heb hE hct hoth hlb hTb hdb hrb
      gi_wp2
      refine ⟨trivial, rfl, (CallsIn.inRound _ (callsIn_wide.2 (need_yes _ _))).mono ?_⟩
      rintro e w' ⟨rfl, rfl⟩
      gi_wp2
      have hBd := Box.made W4 141 #[.slice A L.length c, .int .i64 0]
      have hbd : Below W4.heap.size W4 (W4.alloc (.cells #[.slice A L.length c, .int .i64 0] 141)) := by go_grown
      have hzd : (W4.alloc (.cells #[.slice A L.length c, .int .i64 0] 141)).heap.size = W4.heap.size + 1 := by simp
      generalize W4.alloc (.cells #[.slice A L.length c, .int .i64 0] 141) = W5 at hBd hbd hzd ⊢
      have hlk : Look W4.heap.size (fresh Wb.heap.size W4.heap.size) W5 W5 L 0 := ⟨⟨A, c, hBd, HSL.out.stays TokenR.stays (fun _ h => h) (Keeps.of_below hbd hft)⟩, Grew.refl_ _ _ _ some_le, hft, HTN.out⟩
      have hln2 := line_any W4 W5 L hlk htl HTK.out HM4.out rfl hbd (by omega) (by omega) (by omega) (by omega)
      refine ⟨trivial, rfl, (CallsIn.inRound _ (callsIn_wide.2 hln2)).mono ?_⟩
      rintro e W6 ⟨m', hm6, hst6, hcase⟩
      have he6 := hst6.box (HE4.out.later hbd HE4.out.lt) (by omega) (by omega)
      have hd6 : W6.heap[W0.heap.size + 5]? = some (.deferred (some [])) := (hst6.block _ (by omega) (by omega)).trans ((hbd.block _ (by omega)).trans HD4.out)
      have hr6 : W6.heap[W0.heap.size + 6]? = some (.loop { r with state := .busy, pending := none }) := (hst6.block _ (by omega) (by omega)).trans ((hbd.block _ (by omega)).trans HR4.out)
      have hl5 : Below W0.heap.size W0 W5 := HL4.out.trans (hbd.mono (by omega))
      have hl6 : Below W0.heap.size W0 W6 := ⟨hst6.os.trans hl5.os, hst6.tape.trans hl5.tape, hst6.output.trans hl5.output, Nat.le_trans hl5.size hst6.size, fun k hk => (hst6.block k (by omega) (by omega)).trans (hl5.block k hk)⟩
      have hs5 := hbd.size
      have hs6 := hst6.size
      have hres6 : ∀ k, W0.heap.size + 2 ≤ k → k ≤ W0.heap.size + 4 → W6.heap[k]? = W.heap[k]? := fun k h1 h2 => (hst6.block k (by omega) (by omega)).trans ((hbd.block k (by omega)).trans (HRES.out k h1 h2))
      rcases hcase with ⟨rfl, hok⟩ | ⟨k, rfl, hno⟩
      · obtain ⟨U', T', X', cu', ct', cx', Gt', Gf', hmd6⟩ := hm6
        have hx6 : lineT m (lit x) = .ok m' := HLN.out.trans hok
        obtain ⟨W7, hW7⟩ : ∃ z, W6.putObj (W0.heap.size + 6) (.loop { r with state := .ready, pending := none }) = z := ⟨_, rfl⟩
        have hend : (Instr.endRound (W0.heap.size + 6) none).run Tryz.prog W6 = .ok (.bool true) W7 := by rw [← hW7]; exact run_endRound (r := { r with state := .busy, pending := none }) none hr6
        have hz7 : W7.heap.size = W6.heap.size := by rw [← hW7]; exact World.putObj_size
        have hoth7 : ∀ k, k ≠ W0.heap.size + 6 → W7.heap[k]? = W6.heap[k]? := fun k hk => by rw [← hW7]; exact World.putObj_heap_other hk
        have hp7 : PSt W0 r m' W7 := ⟨⟨U', T', X', cu', ct', cx', Gt', Gf', hmd6.touch (q := W0.heap.size + 6) (by omega) (by omega) (by omega) (fun k _ hk => hoth7 k hk)⟩, he6.of_heap (hoth7 _ (by omega)), (hoth7 _ (by omega)).trans hd6, by rw [← hW7]; exact World.putObj_heap_same (by omega), by rw [← hW7]; exact Below.putObj_ hl6 (by omega) _, by omega⟩
        have HP7 := Lib.hid hp7; have HX6 := Lib.hid hx6; have HEND := Lib.hid hend; have HRES7 := Lib.hid hres6; have HOTH7 := Lib.hid hoth7
        clear hp7 hx6 hend hres6 hoth7
        clear hmd6 he6 hd6 hr6 hl6 hst6 hW7 hok hBd hbd hlk hln2
        gi_wp2
        exact ⟨_, _, HEND.out, .inl ⟨m', HX6.out, rfl, HP7.out, fun k h1 h2 => (HOTH7.out k (by omega)).trans (HRES7.out k h1 h2)⟩⟩
      · have hx6 : lineT m (lit x) = .error k := HLN.out.trans hno
        have hex : PEx W0 W6 := ⟨⟨m', hm6⟩, he6, hd6, hl6, by omega⟩
        have HEX := Lib.hid hex; have HX6 := Lib.hid hx6
        clear hex hx6
        clear he6 hd6 hr6 hl6 hst6 hno hBd hbd hlk hln2 hm6
        gi_wp2
        exact ⟨rfl, .inr ⟨k, HX6.out, rfl, HEX.out⟩⟩
    · have hfz : (f == 0) = false := by simp [hf]
      have hln : lineT m (lit x) = .error f := by unfold lineT; rw [hE, if_pos hf]
      have hex : PEx W0 W4 := ⟨⟨m, U, T, X, cu, ct, cx, Gt, Gf, hm4⟩, he4, hd4, hl4, by omega⟩
      have HEX := Lib.hid hex; have HLN := Lib.hid hln
      clear hex hln
      clear hp hm4 hmb he4 heb hsl hE hct hf
      gi_wp2
      refine ⟨trivial, rfl, (CallsIn.inRound _ (callsIn_wide.2 (need_no _ _))).mono ?_⟩
      rintro e w' ⟨rfl, rfl⟩
      gi_wp2
      exact ⟨rfl, .inr ⟨f, HLN.out, rfl, HEX.out⟩⟩
  rw [e2]
  obtain ⟨W3, hW3⟩ : ∃ z, (W2.alloc (.deferred (some []))).alloc (.loop r) = z := ⟨_, rfl⟩
  rw [hW3]
  have hb3 : Below W2.heap.size W2 W3 := by rw [← hW3]; exact ((Below.refl _ W2).alloc (Nat.le_refl _) _).alloc (by simp) _
  have hz3 : W3.heap.size = W0.heap.size + 7 := by rw [← hW3]; simp; omega
  have hd3 : W3.heap[W0.heap.size + 5]? = some (.deferred (some [])) := by rw [← hW3, ← e2, Below.heap_alloc _ _ _ (by simp)]; exact World.alloc_heap_new _ _
  have hr3 : W3.heap[W0.heap.size + 6]? = some (.loop { r with state := .ready, pending := none }) := by
    have h := World.alloc_heap_new (W2.alloc (.deferred (some []))) (.loop r)
    rw [World.size_alloc, e2, hW3] at h
    rw [h]
    have hrr : ({ r with state := .ready, pending := none } : Loop) = r := by rw [← hst, ← hpe]
    rw [hrr]
  have hB3 : Box W3 W0.heap.size 27 #[.slice none 0 0, .slice none 0 0, .slice none 0 0] := (hBb1.later hb2 hBb1.lt).later hb3 (by omega)
  have hE3 : Box W3 (W0.heap.size + 1) 29 #[.int .i64 0] := (hBb2.later hb2 hBb2.lt).later hb3 (by omega)
  have hl3 : Below W0.heap.size W0 W3 := (hbb.trans (hb2.mono (by omega))).trans (hb3.mono (by omega))
  have hp3 : PSt W0 r noMod W3 := ⟨⟨_, _, _, _, _, _, _, _, Mods.start hB3 (by omega)⟩, hE3, hd3, hr3, hl3, by omega⟩
  have hT3 : Trip W3 (W0.heap.size + 2) s.data.toList := ⟨hT2.s.later hb3 (by omega), hT2.sep.later hb3 (by omega), hT2.save.later hb3 (by omega)⟩
  have hsl : s.data.toList.length ≤ 1500 := by rw [Array.length_toList]; exact hs
  refine (splitSeq1_in (n := 0) (l := W0.heap.size + 6) (q := W0.heap.size + 2)
    (fun rest W => ∃ m, R = parseL m (linesOf rest) ∧ tot m + rest.length ≤ 1501 ∧ PSt W0 r m W) (fun W => ∃ m, R = .ok m ∧ tot m ≤ 3000 ∧ PSt W0 r m W) (fun ch W => ∃ k, k ≠ 0 ∧ ch = [faultV k] ∧ R = .error k ∧ PEx W0 W)
    ?hJ ?hY ?hL s.data.toList W3 (by omega) ⟨noMod, hR.symm, by show 0 + 0 + 0 + _ ≤ _; omega, hp3⟩ hT3).mono ?post
  case hJ =>
    rintro rest W W' ⟨m, h1, h2, hp⟩ ht
    obtain ⟨U, T, X, cu, ct, cx, Gt, Gf, hmd⟩ := hp.mods
    have hbig := hp.big
    exact ⟨m, h1, h2, ⟨U, T, X, cu, ct, cx, Gt, Gf, hmd.touch (q := W0.heap.size + 2) (by omega) (by omega) ht.size ht.block⟩, hp.err.of_heap (ht.block _ hp.err.lt (by omega)), (ht.block _ (by omega) (by omega)).trans hp.dfr, (ht.block _ (by omega) (by omega)).trans hp.rcd,
      hp.low.trans ⟨ht.os, ht.tape, ht.output, ht.size, fun k hk => ht.block k (by omega) (by omega)⟩, by have := ht.size; omega⟩
  case hY =>
    rintro x rest W hx ⟨m, h1, h2, hp⟩ htr
    rw [List.length_append, List.length_cons] at h2
    refine (hround m x W hp (by omega) (by omega)).mono ?_
    rintro e W' (⟨m', h3, rfl, hp', hk⟩ | ⟨k, h3, rfl, hex⟩)
    · rw [lines_split hx, parseL_ok h3] at h1
      have htm' : tot m' ≤ tot m + 1 := by
        unfold lineT at h3
        split at h3
        · cases h3
        · exact line_tot h3
      exact .inl ⟨rfl, ⟨m', h1, by omega, hp'⟩, ⟨htr.s.of_heap (hk _ (by omega) (by omega)), htr.sep.of_heap (hk _ (by omega) (by omega)), htr.save.of_heap (hk _ (by omega) (by omega))⟩⟩
    · rw [lines_split hx, parseL_no h3] at h1
      exact .inr ⟨_, rfl, k, lineT_nz h3, rfl, h1, hex⟩
  case hL =>
    rintro x W hx ⟨m, h1, h2, hp⟩
    refine (hround m x W hp (by omega) (by omega)).mono ?_
    rw [lines_none hx] at h1
    rintro e W' (⟨m', h3, rfl, hp', _⟩ | ⟨k, h3, rfl, hex⟩)
    · rw [parseL_ok h3] at h1
      have htm' : tot m' ≤ tot m + 1 := by
        unfold lineT at h3
        split at h3
        · cases h3
        · exact line_tot h3
      exact .inl ⟨rfl, m', h1, by omega, hp'⟩
    · rw [parseL_no h3] at h1
      exact .inr ⟨_, rfl, k, lineT_nz h3, rfl, h1, hex⟩
  case post =>
    clear hround hp3 hT3 hB3 hE3 hd3 hr3 htm
    rintro e W4 (⟨v, rfl, m, hok, htm, hp⟩ | ⟨ch, rfl, k, hk, rfl, hno, hex⟩)
    · refine ⟨_, run_endLoop hp.rcd (by simp), ?_⟩
      obtain ⟨U, T, X, cu, ct, cx, Gt, Gf, hmd⟩ := hp.mods
      obtain ⟨W5, hW5⟩ : ∃ z, W4.putObj (W0.heap.size + 6) (.loop { { r with state := .ready, pending := none } with state := .exhausted }) = z := ⟨_, rfl⟩
      rw [hW5]
      have hoth : ∀ k, k ≠ W0.heap.size + 6 → W5.heap[k]? = W4.heap[k]? := fun k hk => by rw [← hW5]; exact World.putObj_heap_other hk
      have hz5 : W5.heap.size = W4.heap.size := by rw [← hW5]; exact World.putObj_size
      have hbig := hp.big
      have hm5 := hmd.touch (q := W0.heap.size + 6) (by omega) (by omega) (by omega) (fun k _ hk => hoth k hk)
      have he5 := hp.err.of_heap (hoth _ (by omega))
      have hd5 := (hoth (W0.heap.size + 5) (by omega)).trans hp.dfr
      have hl5 : Below W0.heap.size W0 W5 := by rw [← hW5]; exact Below.putObj_ hp.low (by omega) _
      have hbx := hm5.box
      have x0 := hbx.at_ 0 _ rfl
      have x1 := hbx.at_ 1 _ rfl
      have x2 := hbx.at_ 2 _ rfl
      have g0 := hbx.free 0
      have g1 := hbx.free 1
      have g2 := hbx.free 2
      have y0 := he5.at_ 0 _ rfl
      have f0 := he5.free 0
      have HM5 := Lib.hid hm5; have HE5 := Lib.hid he5; have HD5 := Lib.hid hd5; have HL5 := Lib.hid hl5; have HOK := Lib.hid hok
      clear hm5 he5 hd5 hl5 hok
      unfold tot at htm
      clear hmd hp hbx hT2 hoth
      refine wpAt_of_wp ?_
      go_wp2
      have hlo := HM5.out.low
      have hnb : ¬ fresh (W0.heap.size + 7) W5.heap.size W0.heap.size := fun h => by have := h.1; omega
      have hne : ¬ fresh (W0.heap.size + 7) W5.heap.size (W0.heap.size + 1) := fun h => by have := h.1; omega
      have hM5 : ModuleR W5 (fresh (W0.heap.size + 7) W5.heap.size) [.slice U m.uses.length cu, .slice T m.types.length ct, .slice X m.funcs.length cx] m :=
        ⟨_, _, _, rfl, HM5.out.us.slice StrR.stays (fun k hk => hk.elim) (fun k h1 h2 => ⟨h1, h2⟩) (by omega) (by omega), HM5.out.ts.slice FieldR.stays (fun k hk => ⟨HM5.out.lo k (.inl hk), (HM5.out.ts.foot hk).1⟩) (fun k h1 h2 => ⟨h1, h2⟩) (by omega) (by omega), HM5.out.fs.slice FuncR.stays (fun k hk => ⟨HM5.out.lo k (.inr hk), (HM5.out.fs.foot hk).1⟩) (fun k h1 h2 => ⟨h1, h2⟩) (by omega) (by omega)⟩
      refine parse_fine (m := m) (U := U) (T := T) (X := X) (n := m.uses.length) (c := cu) (p := m.types.length) (d := ct) (q := m.funcs.length) (e := cx) ?_ ?_ ?_ ?_ HOK.out ?_ ?_ rfl rfl
      · have h := (((HM5.out.box.put 0 (.slice U m.uses.length cu)).put 1 (.slice T m.types.length ct)).put 2 (.slice X m.funcs.length cx)).far (p := ⟨W0.heap.size + 1, 0, none⟩) (show W0.heap.size ≠ W0.heap.size + 1 by omega) (.int .i64 0)
        simpa using h
      · have h := (((HE5.out.far (p := ⟨W0.heap.size, 0, none⟩) (show W0.heap.size + 1 ≠ W0.heap.size by omega) (.slice U m.uses.length cu)).far (p := ⟨W0.heap.size, 1, none⟩) (show W0.heap.size + 1 ≠ W0.heap.size by omega) (.slice T m.types.length ct)).far (p := ⟨W0.heap.size, 2, none⟩) (show W0.heap.size + 1 ≠ W0.heap.size by omega) (.slice X m.funcs.length cx)).put 0 (.int .i64 0)
        simpa using h
      · exact (Below.heap_setCell _ _ _ _ (show W0.heap.size + 5 ≠ W0.heap.size + 1 by omega)).trans ((Below.heap_setCell _ _ _ _ (show W0.heap.size + 5 ≠ W0.heap.size by omega)).trans ((Below.heap_setCell _ _ _ _ (show W0.heap.size + 5 ≠ W0.heap.size by omega)).trans ((Below.heap_setCell _ _ _ _ (show W0.heap.size + 5 ≠ W0.heap.size by omega)).trans HD5.out)))
      · exact (((HL5.out.setCell (p := ⟨W0.heap.size, 0, none⟩) (Nat.le_refl _) _).setCell (p := ⟨W0.heap.size, 1, none⟩) (Nat.le_refl _) _).setCell (p := ⟨W0.heap.size, 2, none⟩) (Nat.le_refl _) _).setCell (p := ⟨W0.heap.size + 1, 0, none⟩) (show W0.heap.size ≤ W0.heap.size + 1 by omega) _
      · simp only [size_set]
        exact ModuleR.stays _ _ _ _ _ _ hM5 (fun _ h => h) (((((Keeps.refl _ _).setCell (q := ⟨W0.heap.size, 0, none⟩) hnb _).setCell (q := ⟨W0.heap.size, 1, none⟩) hnb _).setCell (q := ⟨W0.heap.size, 2, none⟩) hnb _).setCell (q := ⟨W0.heap.size + 1, 0, none⟩) hne _)
      · exact (((HM5.out.us.set StrR.stays (p := ⟨W0.heap.size, 0, none⟩) (show W0.heap.size < _ by omega) (fun k hk => hk.elim) _).set StrR.stays (p := ⟨W0.heap.size, 1, none⟩) (show W0.heap.size < _ by omega) (fun k hk => hk.elim) _).set StrR.stays (p := ⟨W0.heap.size, 2, none⟩) (show W0.heap.size < _ by omega) (fun k hk => hk.elim) _).set StrR.stays (p := ⟨W0.heap.size + 1, 0, none⟩) (show W0.heap.size + 1 < _ by omega) (fun k hk => hk.elim) _
    · exact parse_out hex hk hno rfl rfl

end Go.Proofs.YtjaladhdnbhliaaGreatDoor
