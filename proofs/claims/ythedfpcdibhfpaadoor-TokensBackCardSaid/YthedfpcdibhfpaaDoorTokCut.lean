/- Lines, cut into tokens: token.Cut. -/
import Derived.Test.YthedfpcdibhfpaaDoorTokFirst
namespace Go.Proofs.YthedfpcdibhfpaaDoor
open Go.RowKit Go.Shelf

theorem first_ok (c : UInt8) (r : List UInt8) : I64 (tokFirst (c :: r)).1.kind ∧ (tokFirst (c :: r)).1.text.size ≤ (c :: r).length := by
  have i : ∀ n : Int, 1 ≤ n → n ≤ 4 → I64 n := fun n h1 h2 => ⟨by omega, by omega⟩
  have ht := (List.takeWhile_sublist wdB (l := c :: r)).length_le
  by_cases hq : c = 34
  · subst hq
    rw [first_quote]
    have := (List.takeWhile_sublist notQ (l := r)).length_le
    exact ⟨i 3 (by decide) (by decide), by show (lit _).size ≤ _; rw [lit_size, List.length_cons]; omega⟩
  cases hs : smallB c with
  | true =>
    rw [first_small r hq hs]
    exact ⟨i 1 (by decide) (by decide), by show (lit _).size ≤ _; rw [lit_size]; exact ht⟩
  | false =>
    cases hd : digitB c with
    | true =>
      rw [first_digit r hq hs hd]
      exact ⟨i 2 (by decide) (by decide), by show (lit _).size ≤ _; rw [lit_size]; exact ht⟩
    | false =>
      rw [first_sign r hq hs hd]
      exact ⟨i 4 (by decide) (by decide), by show (lit [c]).size ≤ _; rw [lit_size]; simp⟩

theorem trimLeft_any (s : ByteArray) (w : World) : Calls Tryd.prog 59 #[.string s, .string ⟨#[32]⟩] w fun e w' => e = .returned (.string (lit (trimL s.data.toList))) ∧ w = w' :=
  (Tryd.strings_TrimLeft_one s 32 (by decide) w).mono fun e w' ⟨he, hw⟩ => ⟨he, hw.symm⟩

theorem tok_cells {d : Token} : ∀ u ∈ [Value.int .i64 d.kind, .string d.text], u.oneCell' = true := by
  intro u hu
  simp only [List.mem_cons, List.not_mem_nil, or_false] at hu
  rcases hu with rfl | rfl <;> rfl

theorem map_next {o : Option (List Token)} {L : List Token} {t : Token} : (o.map (t :: ·)).map (L ++ ·) = o.map ((L ++ [t]) ++ ·) := by
  cases o with
  | none => rfl
  | some x => simp
theorem cutR_size {s : ByteArray} (h : 1500 < s.size) : cutR s = ([], 1) := by unfold cutR; rw [if_pos h]
theorem cutR_none {s : ByteArray} (h : s.size ≤ 1500) (hc : cutL (trimL s.data.toList) = none) : cutR s = ([], 4) := by unfold cutR; rw [if_neg (by omega), hc]
theorem cutR_many {s : ByteArray} {L : List Token} (h : s.size ≤ 1500) (hc : cutL (trimL s.data.toList) = some L) (h2 : 200 < L.length) : cutR s = ([], 1) := by unfold cutR; rw [if_neg (by omega), hc]; simp only; rw [if_pos h2]
theorem cutR_fine {s : ByteArray} {L : List Token} (h : s.size ≤ 1500) (hc : cutL (trimL s.data.toList) = some L) (h2 : L.length ≤ 200) : cutR s = (L, 0) := by unfold cutR; rw [if_neg (by omega), hc]; simp only; rw [if_neg (by omega)]

/-- What a call that cuts gives. -/
def CutGives (E : List Token × Int) (w : World) (e : Ending) (w' : World) : Prop := ∃ v, e = .returned (.tuple #[v, .int .i64 E.2]) ∧ Below w.heap.size w w' ∧ SliceOf TokenR 2 24 w' (fresh w.heap.size w'.heap.size) v E.1

set_option maxRecDepth 100000 in
set_option maxHeartbeats 4000000 in
theorem tokCut_any (s : ByteArray) (w : World) (mx : Int) (hT : Tabs w mx) : Calls Tryd.prog 28 #[.string s] w (CutGives (cutR s) w) := by
  obtain ⟨E, hE⟩ : ∃ z, cutR s = z := ⟨_, rfl⟩
  rw [hE]
  by_cases h15 : 1500 < s.size
  · have h15z : (1500 : Int) < (s.size : Int) := by omega
    obtain rfl : E = ([], 1) := by rw [← hE, cutR_size h15]
    clear hE
    go_enter Tryd.func28, Tryd.ntmps28
    go_wp2_with fail
    go_ret2
    exact ⟨_, rfl, Below.refl _ _, SliceOf.nil_⟩
  have h15z : ¬ (1500 : Int) < (s.size : Int) := by omega
  have htr := trimLeft_any s w
  have hnx := trimLeft_any
  have hX0 := trim_le s.data.toList
  have hsl : s.data.toList.length = s.size := rfl
  obtain ⟨X0, hXX⟩ : ∃ z, trimL s.data.toList = z := ⟨_, rfl⟩
  obtain ⟨T0, hT0⟩ : ∃ z, cutL X0 = z := ⟨_, rfl⟩
  have he0 : T0 = none → E = ([], 4) := fun h => by rw [← hE]; exact cutR_none (by omega) (by rw [hXX, hT0, h])
  have he1 : ∀ L : List Token, T0 = some L → 200 < L.length → E = ([], 1) := fun L h h2 => by rw [← hE]; exact cutR_many (by omega) (by rw [hXX, hT0, h]) h2
  have he2 : ∀ L : List Token, T0 = some L → L.length ≤ 200 → E = (L, 0) := fun L h h2 => by rw [← hE]; exact cutR_fine (by omega) (by rw [hXX, hT0, h]) h2
  rw [hXX] at htr hX0
  have hXL : X0.length ≤ 1500 := by omega
  have HTR := Lib.hid htr; have HNX := Lib.hid hnx; have HT0 := Lib.hid hT0; have HE0 := Lib.hid he0; have HE1 := Lib.hid he1; have HE2 := Lib.hid he2; have HT := Lib.hid hT
  clear htr hnx hT0 he0 he1 he2 hT
  clear hE hXX hsl hX0
  go_enter Tryd.func28, Tryd.ntmps28
  go_wp2_with fail
  refine HTR.out.mono ?_
  rintro e w' ⟨rfl, rfl⟩
  go_wp2_with fail
  go_loopg [0, 4, 5, 6, 7] X0.length (fun gg s0 s4 _ _ _ wr => ∃ (X : List UInt8) (c : Nat) (A : Option Addr) (L : List Token), X.length ≤ gg ∧ s0 = .string (lit X) ∧ s4 = .slice A L.length c ∧ L.length + X.length ≤ 1500 ∧ Aside (T0 = (cutL X).map (L ++ ·)) ∧
    Aside (Owns TokenR 2 68 w.heap.size wr none_ (.slice A L.length c) L) ∧ Aside (Below w.heap.size w wr))
  case atStart => exact ⟨X0, 0, none, [], Nat.le_refl _, rfl, rfl, by simpa using hXL, aside (by rw [HT0.out]; simp), aside Owns.nil_, aside (Below.refl _ _)⟩
  case round =>
    obtain ⟨X, c', A, L, hg, rfl, rfl, hle, hTT, hO, BW⟩ := hrel
    cases X with
    | nil =>
      have hz : (lit []).toList.isEmpty = true := by rw [str_isEmpty]; rfl
      have htt : T0 = some L := by rw [hTT.out, cutL_nil]; simp
      have he1 := HE1.out L htt
      have he2 := HE2.out L htt
      have hsl := hO.out.slice TokenR.stays (by_ := 24) (F' := fresh w.heap.size wr.heap.size) (fun k hk => hk.elim) (fun k h1 h2 => ⟨h1, h2⟩) (by omega) (by omega)
      have hz2 : (lit [] : ByteArray) = ⟨#[]⟩ := rfl
      by_cases h2 : 200 < L.length
      · have h2z : (200 : Int) < (L.length : Int) := by omega
        obtain rfl := he1 h2
        clear he1 he2 hsl htt hO hTT
        rw [hz2]
        clear hz hz2
        go_wp2_with fail
        go_ret2
        exact ⟨_, rfl, BW.out, SliceOf.nil_⟩
      · have h2z : ¬ (200 : Int) < (L.length : Int) := by omega
        obtain rfl := he2 (by omega)
        have HSL := Lib.hid hsl
        clear hsl
        clear he1 he2 htt hO hTT
        rw [hz2]
        clear hz hz2
        go_wp2_with fail
        go_ret2
        exact ⟨_, rfl, BW.out, HSL.out⟩
    | cons c r =>
      have hlen : (c :: r).length = r.length + 1 := List.length_cons
      have hfi := tokFirst_any (lit (c :: r)) c r wr mx (by rw [lit_size]; omega) (lit_list _) (HT.out.later BW.out)
      have hfk := first_ok c r
      have hst := cutL_step c r
      have hls := first_less c r
      obtain ⟨⟨t, RL, ok⟩, hR⟩ : ∃ z, tokFirst (c :: r) = z := ⟨_, rfl⟩
      rw [hR] at hfi hfk hst hls
      dsimp only at hfi hfk hst hls
      have htl := trim_le RL
      have htt := hTT.out
      rw [hst] at htt
      obtain ⟨S, hS⟩ : ∃ z, lit (c :: r) = z := ⟨_, rfl⟩
      have hne : S.toList.isEmpty = false := by rw [← hS, str_isEmpty, lit_size]; simp
      rw [hS] at hfi ⊢
      obtain ⟨k, tx⟩ := t
      have hki := hfk.1
      have htx : okS tx := by have := hfk.2; unfold okS; dsimp only at this; omega
      dsimp only at hfi hki
      obtain ⟨X2, hX2⟩ : ∃ z, trimL RL = z := ⟨_, rfl⟩
      have hnx := fun U : World => HNX.out (lit RL) U
      rw [lit_list, hX2] at hnx
      rw [hX2] at htl htt
      have hk1 := hki.1
      have hk2 := hki.2
      have HFI := Lib.hid hfi; have HTT := Lib.hid htt; have HNX2 := Lib.hid hnx
      clear hfi htt hnx
      clear hR hfk hst hX2 hS hTT
      go_wp2_with fail
      refine HFI.out.mono ?_
      rintro e W2 ⟨rfl, hb2⟩
      have hO2 := hO.out.below TokenR.stays hb2
      have hb2 := below_step BW.out hb2
      have HO2 := Lib.hid hO2; have HB2 := Lib.hid hb2
      clear hO2 hb2
      clear hne
      go_upto_region 8 with fail
      have hBt := Box.made W2 68 #[.int .i64 k, .string tx]
      have hbt : Below W2.heap.size W2 (W2.alloc (.cells #[.int .i64 k, .string tx] 68)) := by go_grown
      have hzt : (W2.alloc (.cells #[.int .i64 k, .string tx] 68)).heap.size = W2.heap.size + 1 := by simp
      generalize W2.alloc (.cells #[.int .i64 k, .string tx] 68) = W3 at hBt hbt hzt ⊢
      have hO3 := HO2.out.below TokenR.stays hbt
      have hb3 := below_step HB2.out hbt
      have x0 := hBt.at_ 0 _ rfl
      have x1 := hBt.at_ 1 _ rfl
      have HO3 := Lib.hid hO3; have HB3 := Lib.hid hb3
      clear hO3 hb3
      clear hBt hbt hzt
      cases ok with
      | false =>
        have htn : T0 = none := by rw [HTT.out]; simp
        obtain rfl := HE0.out htn
        clear htn
        go_wp2_with fail
        go_ret2
        exact ⟨_, rfl, HB3.out, SliceOf.nil_⟩
      | true =>
        have htn : T0 = (cutL X2).map ((L ++ [⟨k, tx⟩]) ++ ·) := by rw [HTT.out, if_pos rfl, map_next]
        have HTN := Lib.hid htn
        clear htn
        go_wp2_with (at_builtin; go_must ((refine wpList_push TokenR.stays (.agg #[.int .i64 0, .string ⟨#[]⟩]) [.int .i64 k, .string tx] ⟨k, tx⟩ rfl rfl Tryd.underlying37 (bytes := 24) (by kernel_rfl) HO3.out rfl rfl (by decide) rfl rfl (show TokenR W3 none_ _ _ from ⟨rfl, hki, htx⟩) (tok_cells (d := ⟨k, tx⟩)) (fun k hk => hk.elim) (by unfold maxLen; omega) (by omega) HB3.out.size ?_); (intro A6 c6 W7 hO6 hgr _; have hb6 := HB3.out.trans (hgr.below (B := w.heap.size) (Nat.le_refl _) HB3.out.size); have HO6 := Lib.hid hO6; have HB6 := Lib.hid hb6; clear hO6 hgr hb6)))
        refine (HNX2.out _).mono ?_
        rintro e w' ⟨rfl, rfl⟩
        go_wp2_with fail
        go_roundg X2.length
        case measure => omega
        case rel =>
          refine ⟨X2, c6, A6, L ++ [⟨k, tx⟩], Nat.le_refl _, rfl, by simp, by rw [List.length_append, List.length_singleton]; omega, aside HTN.out, aside ?_, aside HB6.out⟩
          have h := Owns.wider TokenR.stays HO6.out (F' := none_) (fun k hk => hk.elim id id) (fun k hk => hk.elim)
          simpa using h

end Go.Proofs.YthedfpcdibhfpaaDoor
