/- Numbers as texts: token.number, and the reference's digitsMay; signs. -/
import Derived.Test.YtjaladhdnbhliaaGreatDoorTokPlain
import Derived.Test.YtjaladhdnbhliaaGreatDoorTxts
import Derived.Lib.AtoiErrMem
namespace Go.Proofs.YtjaladhdnbhliaaGreatDoor
open Go.RowKit Go.Shelf

/-- What the library has laid. -/
structure Tabs (w : World) (mx : Int) : Prop where
  pow : Pow w
  syn : ∃ te pe, w.cell? ⟨7, 0, none⟩ = some (.iface te pe)
  rng : ∃ te pe, w.cell? ⟨8, 0, none⟩ = some (.iface te pe)
  max : w.cell? ⟨1, 0, none⟩ = some (.int .i64 mx)
theorem Tabs.later {w U : World} {mx : Int} (h : Tabs w mx) (hU : Below w.heap.size w U) : Tabs U mx := by
  obtain ⟨te, pe, hs⟩ := h.syn
  obtain ⟨tr, pr, hr⟩ := h.rng
  exact ⟨h.pow.later hU, ⟨te, pe, (hU.cell (World.block_lt_of_cell? w _ hs)).trans hs⟩, ⟨tr, pr, (hU.cell (World.block_lt_of_cell? w _ hr)).trans hr⟩, (hU.cell (World.block_lt_of_cell? w _ h.max)).trans h.max⟩

/-- strconv.Atoi fails: an error that is not nil. -/
def AtoiBad (w : World) (e : Ending) (w' : World) : Prop := ∃ (n : Int) (N : Nat), e = .returned (.tuple #[.int .i64 n, .iface 299 (.pointer (some ⟨N, 0, none⟩))]) ∧ Below w.heap.size w w'
theorem atoi_bad (s : ByteArray) (w : World) (mx : Int) (hs : s.size ≤ 140737488355328) (hT : Tabs w mx) (h : ∀ v, Lib.atoiAll s.data.toList ≠ .ok v) : Calls Tryz.prog 246 #[.string s] w (AtoiBad w) := by
  obtain ⟨te, pe, hsy⟩ := hT.syn
  obtain ⟨tr, pr, hrg⟩ := hT.rng
  cases hq : Lib.atoiAll s.data.toList with
  | ok v => exact absurd hq (h v)
  | «syntax» => exact (Tryz.strconv_Atoi_syntax s (by omega) hq _ w hsy (.inr ⟨_, _, rfl⟩)).mono fun e w' ⟨N, he, _, _, hb⟩ => ⟨_, N, he, hb⟩
  | range => exact (Tryz.strconv_Atoi_range s (by omega) hq _ w hrg (.inr ⟨_, _, rfl⟩)).mono fun e w' ⟨N, he, _, _, hb⟩ => ⟨_, N, he, hb⟩
theorem atoi_ok (s : ByteArray) (w : World) (v : Int) (hs : s.size ≤ 140737488355328) (h : Lib.atoiAll s.data.toList = .ok v) : Calls Tryz.prog 246 #[.string s] w fun e w' => e = .returned (.tuple #[.int .i64 v, .nilIface]) ∧ Below w.heap.size w w' :=
  (Tryz.strconv_Atoi_ok s (by omega) v h w).mono fun e w' ⟨he, hw⟩ => ⟨he, by
    rcases hw with rfl | ⟨t, rfl⟩
    · exact Below.refl _ _
    · exact Lib.bytesWorld_below _ _ _⟩

set_option maxRecDepth 100000 in
set_option maxHeartbeats 1000000 in
theorem number_any (s : ByteArray) (w : World) (mx : Int) (hs : s.size ≤ 140737488355328) (hT : Tabs w mx) : Calls Tryz.prog 194 #[.string s] w fun e w' => e = .returned (.bool (numOk s)) ∧ Below w.heap.size w w' := by
  by_cases h : ∃ v, Lib.atoiAll s.data.toList = .ok v
  · obtain ⟨v, hv⟩ := h
    have hc := atoi_ok s w v hs hv
    have hn := numOk_of hv
    have hb := Lib.atoiAll_bounds hv
    have hit := fun U (hU : Below w.heap.size w U) h0 h1 => itoa_any v U h0 h1 (hT.pow.later hU)
    have HC := Lib.hid hc; have HN := Lib.hid hn; have HI := Lib.hid hit
    clear hc hn hit
    clear hv hT
    by_cases h0 : 0 ≤ v
    · by_cases h1 : v ≤ 999999
      · obtain ⟨z, hz⟩ : ∃ z, ((decTxt v).toList == s.toList) = z := ⟨_, rfl⟩
        have hit := fun U hU => HI.out U hU h0 h1
        have hzz : numOk s = z := by
          rw [HN.out, ← hz, str_eq, decide_eq_true h0, decide_eq_true h1, Bool.true_and, Bool.true_and, decide_eq_decide]
          constructor
          · intro e
            have hx : (decTxt v).data.toList = s.data.toList := by unfold decTxt; rw [ba_of]; exact e
            exact ba_ext hx
          · intro e; rw [← e]; unfold decTxt; rw [ba_of]
        rw [hzz]
        have HIT := Lib.hid hit
        clear hit
        clear HI hzz
        go_enter Tryz.func194, Tryz.ntmps194
        go_wp2_with fail
        refine HC.out.mono ?_
        rintro e W2 ⟨rfl, hb2⟩
        have Hb := Lib.hid hb2
        clear hb2
        go_wp2_with fail
        refine (HIT.out W2 Hb.out).mono ?_
        rintro e W3 ⟨rfl, hb3⟩
        have HB3 := Lib.hid hb3
        clear hb3
        go_wp2_with fail
        go_ret
        exact ⟨ret_bool (by simp), below_step Hb.out HB3.out⟩
      · have hn : numOk s = false := by rw [HN.out, decide_eq_false h1]; simp
        rw [hn]
        clear HI hn
        go_enter Tryz.func194, Tryz.ntmps194
        go_wp2_with fail
        refine HC.out.mono ?_
        rintro e W2 ⟨rfl, hb2⟩
        have Hb := Lib.hid hb2
        clear hb2
        go_wp2_with fail
        go_ret
        exact ⟨rfl, Hb.out⟩
    · have hn : numOk s = false := by rw [HN.out, decide_eq_false h0]; simp
      rw [hn]
      clear HI hn
      go_enter Tryz.func194, Tryz.ntmps194
      go_wp2_with fail
      refine HC.out.mono ?_
      rintro e W2 ⟨rfl, hb2⟩
      have Hb := Lib.hid hb2
      clear hb2
      go_wp2_with fail
      go_ret
      exact ⟨rfl, Hb.out⟩
  · have hc := atoi_bad s w mx hs hT (fun v hv => h ⟨v, hv⟩)
    rw [numOk_bad fun v hv => h ⟨v, hv⟩]
    have HC := Lib.hid hc
    clear hc
    clear h hT
    go_enter Tryz.func194, Tryz.ntmps194
    go_wp2_with fail
    refine HC.out.mono ?_
    rintro e W2 ⟨n, N, rfl, hb2⟩
    have Hb := Lib.hid hb2
    clear hb2
    go_wp2_with fail
    go_ret
    exact ⟨rfl, Hb.out⟩

theorem index_signs (c : UInt8) : decide (0 ≤ Lib.indexByte signsL c) = signsL.contains c := by
  have h : ∀ (l : List UInt8), decide (0 ≤ Lib.indexByte l c) = l.contains c := by
    intro l
    induction l with
    | nil => rfl
    | cons b r ih =>
      have hg := Lib.indexByte_ge r c
      rw [List.contains_cons]
      unfold Lib.indexByte
      by_cases hb : b = c
      · subst hb; simp
      · have h1 : (b == c) = false := by simp [hb]
        have h2 : (c == b) = false := by simp; exact fun e => hb e.symm
        rw [h1, h2, Bool.false_or, ← ih]
        by_cases hm : Lib.indexByte r c = -1
        · rw [if_neg (by simp), if_pos (by simp [hm]), hm]
        · rw [if_neg (by simp), if_neg (by simp [hm]), decide_eq_decide]; omega
  exact h _
theorem one_byte {s : ByteArray} (h : s.size = 1) : ∃ c, s = ⟨#[c]⟩ := by
  have hl : s.data.toList.length = 1 := h
  match hx : s.data.toList, hl with
  | [c], _ => exact ⟨c, ba_ext (by rw [hx])⟩
theorem signOk_one (c : UInt8) : signOk ⟨#[c]⟩ = signsL.contains c := rfl
theorem signOk_many {s : ByteArray} (h : s.size ≠ 1) : signOk s = false := by
  unfold signOk
  split
  · next c hx => exact absurd (show s.data.toList.length = 1 by rw [hx]; rfl) h
  · rfl
theorem containsSign_any (c : UInt8) (w : World) : Calls Tryz.prog 114 #[.string ⟨#[61, 40, 41, 91, 93, 44, 43, 46, 58, 60, 62]⟩, .string ⟨#[c]⟩] w fun e w' => e = .returned (.bool (signOk ⟨#[c]⟩)) ∧ w = w' :=
  (Tryz.strings_Contains_one ⟨#[61, 40, 41, 91, 93, 44, 43, 46, 58, 60, 62]⟩ c w).mono fun e w' ⟨he, hw⟩ => ⟨by rw [he]; exact ret_bool (index_signs c), hw.symm⟩

end Go.Proofs.YtjaladhdnbhliaaGreatDoor
