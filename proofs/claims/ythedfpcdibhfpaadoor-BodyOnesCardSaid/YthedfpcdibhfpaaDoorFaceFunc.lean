/- A face's functions by their names: face.Func, the reference's FuncIn; are two texts' lists, two signatures the same: sameTexts, sameSig. -/
import Derived.Test.YthedfpcdibhfpaaDoorFaceFind
import Derived.Test.YthedfpcdibhfpaaDoorFaceCopy
namespace Go.Proofs.YthedfpcdibhfpaaDoor
open Go.RowKit Go.Shelf

def noSig : Sig := ⟨⟨#[]⟩, [], ⟨#[]⟩⟩
/-- The function of a name; is there one? -/
def funcIn (l : List Sig) (t : ByteArray) : Sig := (named Sig.name l t).getD noSig
def funcCode (l : List Sig) (t : ByteArray) : Int := match named Sig.name l t with | some _ => 0 | none => 6

set_option maxRecDepth 100000 in
set_option maxHeartbeats 1000000 in
theorem func1_any (x : Sig) (t : ByteArray) (cs : List Value) (F : Foot) (w : World) (h : SigR w F cs x) : Calls Tryd.prog 169 #[.agg cs.toArray, .string t] w fun e w' => e = .returned (.int .i64 (Lib.compareBytes x.name.data.toList t.data.toList)) ∧ Below w.heap.size w w' := by
  obtain ⟨pv, rfl, _, _, hp⟩ := h
  obtain ⟨P1, p1, rfl, _⟩ := hp.form
  have hc := fun W => Tryd.strings_Compare x.name t W
  generalize Lib.compareBytes x.name.data.toList t.data.toList = z at hc ⊢
  have HC := Lib.hid hc
  clear hc hp
  go_enter Tryd.func169, Tryd.ntmps169
  go_wp2_with (go_at_call 21; refine (HC.out _).mono ?_; rintro e w' ⟨rfl, rfl⟩)
  go_ret
  exact ⟨rfl, by go_grown⟩

theorem noSig_row {w : World} {F : Foot} : SigR w F [.string ⟨#[]⟩, .slice none 0 0, .string ⟨#[]⟩] noSig := ⟨_, rfl, by show (0 : Nat) ≤ _; omega, by show (0 : Nat) ≤ _; omega, SliceOf.nil_⟩

/-- What is stored cell by cell into a block of three. -/
theorem box3_put {w : World} {n : Nat} {t : TypeId} {a b c : Value} (h : Box w n t #[a, b, c]) (x y z : Value) : Box (((w.setCell ⟨n, 0, none⟩ x).setCell ⟨n, 1, none⟩ y).setCell ⟨n, 2, none⟩ z) n t #[x, y, z] := by
  have := ((h.put 0 x).put 1 y).put 2 z
  simpa using this
theorem heap3_put (w : World) (n : Nat) (x y z : Value) (k : Nat) (hk : k ≠ n) : (((w.setCell ⟨n, 0, none⟩ x).setCell ⟨n, 1, none⟩ y).setCell ⟨n, 2, none⟩ z).heap[k]? = w.heap[k]? := by
  rw [Below.heap_setCell _ _ _ _ hk, Below.heap_setCell _ _ _ _ hk, Below.heap_setCell _ _ _ _ hk]

set_option maxRecDepth 100000 in
set_option maxHeartbeats 4000000 in
theorem faceFunc_any (a : Face) (t : ByteArray) (cs : List Value) (F : Foot) (w : World) (hF : ∀ k, F k → k < w.heap.size) (ha : FaceR w F cs a) (hR : Rising Sig.name a.funcs) :
    Calls Tryd.prog 131 #[.agg cs.toArray, .string t] w fun e w' => ∃ ds : List Value, e = .returned (.tuple #[.agg ds.toArray, .int .i64 (funcCode a.funcs t)]) ∧ Below w.heap.size w w' ∧ SigR w' (fresh w.heap.size w'.heap.size) ds (funcIn a.funcs t) := by
  obtain ⟨tv, fv, rfl, ht, hf⟩ := ha
  have hs := fun (U : World) (hU : Below w.heap.size w U) => search_sigs fv a.funcs F t 169 #[] U (enters_of Tryd.func169 (by kernel_rfl) rfl) (foot_up hF hU) (hf.up SigR.stays hF hU)
    (fun W x cs _ _ hx => func1_any x t cs F W hx)
  obtain ⟨A1, c1, rfl, _, _, hl1, _⟩ := ht.form
  obtain ⟨A3, c3, rfl, _, _, hl3, _⟩ := hf.form
  obtain ⟨E1, hE1⟩ : ∃ E, funcIn a.funcs t = E := ⟨_, rfl⟩
  obtain ⟨E2, hE2⟩ : ∃ E, funcCode a.funcs t = E := ⟨_, rfl⟩
  rw [hE1, hE2]
  have HS := Lib.hid hs; have HE1 := Lib.hid hE1; have HE2 := Lib.hid hE2; have HR := Lib.hid hR
  clear hs hE1 hE2 hR ht
  go_enter Tryd.func131, Tryd.ntmps131
  go_wp2_with fail
  have hB := (Box.made w 31 #[.slice A1 a.types.length c1, .slice A3 a.funcs.length c3]).alloc (.cells #[.string ⟨#[]⟩, .slice none 0 0, .string ⟨#[]⟩] 77)
  have hC := Box.made (w.alloc (.cells #[.slice A1 a.types.length c1, .slice A3 a.funcs.length c3] 31)) 77 #[.string ⟨#[]⟩, .slice none 0 0, .string ⟨#[]⟩]
  have hsz : (w.alloc (.cells #[.slice A1 a.types.length c1, .slice A3 a.funcs.length c3] 31)).heap.size = w.heap.size + 1 := by simp
  rw [hsz] at hC
  have hb0 : Below w.heap.size w ((w.alloc (.cells #[.slice A1 a.types.length c1, .slice A3 a.funcs.length c3] 31)).alloc (.cells #[.string ⟨#[]⟩, .slice none 0 0, .string ⟨#[]⟩] 77)) := by go_grown
  generalize (w.alloc (.cells #[.slice A1 a.types.length c1, .slice A3 a.funcs.length c3] 31)).alloc (.cells #[.string ⟨#[]⟩, .slice none 0 0, .string ⟨#[]⟩] 77) = W2 at hB hC hb0 ⊢
  refine (HS.out _ hb0).mono ?_
  rintro e w' ⟨i, hP, rfl, hb⟩
  have hB1 := hB.later hb hB.lt
  have hC1 := hC.later hb hC.lt
  have hb1 := hb0.trans (hb.mono hb0.size)
  have a1 := hB1.at_ 1 _ rfl
  have r0 := hC1.at_ 0 _ rfl
  have r1 := hC1.at_ 1 _ rfl
  have r2 := hC1.at_ 2 _ rfl
  have q0 := hC1.free 0
  have q1 := hC1.free 1
  have q2 := hC1.free 2
  have hlt1 := hC1.lt
  have HB := Lib.hid hb1; have HC1 := Lib.hid hC1; have HB1 := Lib.hid hB1
  cases hh : hitB Sig.name a.funcs t i with
  | false =>
    have hn := hP.miss HR.out (hitB_false hh)
    have h1 := HE1.out
    have h2 := HE2.out
    unfold funcIn at h1
    unfold funcCode at h2
    rw [hn] at h1 h2
    simp only [Option.getD_none] at h1 h2
    subst h1; subst h2
    have hfin : ∀ W', W' = ((w'.setCell ⟨w.heap.size + 1, 0, none⟩ (.string ⟨#[]⟩)).setCell ⟨w.heap.size + 1, 1, none⟩ (.slice none 0 0)).setCell ⟨w.heap.size + 1, 2, none⟩ (.string ⟨#[]⟩) → Below w.heap.size w W' := by
      rintro W' rfl
      exact ((hb1.setCell (by simp) _).setCell (by simp) _).setCell (by simp) _
    have HFin := Lib.hid hfin
    clear hb hb0 hb1 hB hB1 hC hC1 hh hP hn hf hfin
    go_wp2_with fail
    exact bodyPost_ret (v := .tuple #[.agg #[.string ⟨#[]⟩, .slice none 0 0, .string ⟨#[]⟩], .int .i64 6]) (by simp [results, Tryd.results131, go_sem, r0, r1, r2]) rfl ⟨_, rfl, HFin.out _ rfl, noSig_row⟩
  | true =>
    obtain ⟨x, hx, hd⟩ := hitB_true hh
    have hn := hP.hit HR.out hx hd
    have h1 := HE1.out
    have h2 := HE2.out
    unfold funcIn at h1
    unfold funcCode at h2
    rw [hn] at h1 h2
    simp only [Option.getD_some] at h1 h2
    subst h1; subst h2
    have hil := (List.getElem?_eq_some_iff.1 hx).1
    have hilz : (i : Int) < (a.funcs.length : Int) := by omega
    obtain ⟨b1, off, cs, rfl, _, _, hr, hcell⟩ := (hf.up SigR.stays hF hb1).at_ hil
    rw [(List.getElem?_eq_some_iff.1 hx).2] at hr
    obtain ⟨pv, rfl, hn1, hn2, hpv⟩ := hr
    obtain ⟨P1, p1, rfl, _, _, hpl, _⟩ := hpv.form
    have hc0 := hcell 0 _ rfl
    have hc1 := hcell 1 _ rfl
    have hc2 := hcell 2 _ rfl
    simp only [Nat.add_zero] at hc0
    have hFw := foot_up hF hb1
    have hcl := fun (U : World) (hU : Below w'.heap.size w' U) => clone_strs (.slice P1 x.params.length p1) x.params F U (hpv.up StrR.stays hFw hU) (foot_up hFw hU)
    have HCl := Lib.hid hcl
    clear hb hb0 hb1 hB hB1 hC hC1 hh hP hn hf hcell hcl hpv hx hd
    go_wp2_with fail
    have hD := Box.made w' 77 #[.string x.name, .slice P1 x.params.length p1, .string x.result]
    have hC2 := HC1.out.alloc (.cells #[.string x.name, .slice P1 x.params.length p1, .string x.result] 77)
    have hbx : Below w'.heap.size w' (w'.alloc (.cells #[.string x.name, .slice P1 x.params.length p1, .string x.result] 77)) := by go_grown
    have hszx : (w'.alloc (.cells #[.string x.name, .slice P1 x.params.length p1, .string x.result] 77)).heap.size = w'.heap.size + 1 := by simp
    generalize w'.alloc (.cells #[.string x.name, .slice P1 x.params.length p1, .string x.result] 77) = Wx at hD hC2 hbx hszx ⊢
    refine (HCl.out _ hbx).mono ?_
    rintro e Wc ⟨pv', rfl, hbc, hpc⟩
    obtain ⟨Q1, s1, rfl, _, _, hql, _⟩ := hpc.form
    have hD1 := hD.later hbc hD.lt
    have hC3 := hC2.later hbc hC2.lt
    have d0 := hD1.at_ 0 _ rfl
    have d1 := hD1.at_ 1 _ rfl
    have d2 := hD1.at_ 2 _ rfl
    have f1 := hD1.free 1
    have r0' := hC3.at_ 0 _ rfl
    have r1' := hC3.at_ 1 _ rfl
    have r2' := hC3.at_ 2 _ rfl
    have q0' := hC3.free 0
    have q1' := hC3.free 1
    have q2' := hC3.free 2
    have hszc := hbc.size
    have hfin : ∀ W', W' = (((Wc.setCell ⟨w'.heap.size, 1, none⟩ (.slice Q1 x.params.length s1)).setCell ⟨w.heap.size + 1, 0, none⟩ (.string x.name)).setCell ⟨w.heap.size + 1, 1, none⟩ (.slice Q1 x.params.length s1)).setCell ⟨w.heap.size + 1, 2, none⟩ (.string x.result) →
        Below w.heap.size w W' ∧ SigR W' (fresh w.heap.size W'.heap.size) [.string x.name, .slice Q1 x.params.length s1, .string x.result] x := by
      rintro W' rfl
      have hs' : ((((Wc.setCell ⟨w'.heap.size, 1, none⟩ (.slice Q1 x.params.length s1)).setCell ⟨w.heap.size + 1, 0, none⟩ (.string x.name)).setCell ⟨w.heap.size + 1, 1, none⟩ (.slice Q1 x.params.length s1)).setCell ⟨w.heap.size + 1, 2, none⟩ (.string x.result)).heap.size = Wc.heap.size := by simp [World.setCell]
      have hbz := HB.out.size
      have hbw : Below w.heap.size w Wc := HB.out.trans ((hbx.mono hbz).trans (hbc.mono (by omega)))
      refine ⟨(((hbw.setCell (by simp; omega) _).setCell (by simp) _).setCell (by simp) _).setCell (by simp) _, _, rfl, hn1, hn2, ?_⟩
      refine hpc.stays StrR.stays (fun k hk => ⟨by have := hk.1; omega, by have := hk.2; omega⟩) (keeps_heap fun k hk => ?_)
      have h6 := hk.1
      rw [heap3_put _ _ _ _ _ _ (by omega), Below.heap_setCell _ _ _ _ (by simp; omega)]
    have HFin := Lib.hid hfin
    clear hfin hD hD1 hC2 hC3 hbx hbc hpc
    go_wp2_with fail
    exact bodyPost_ret (v := .tuple #[.agg #[.string x.name, .slice Q1 x.params.length s1, .string x.result], .int .i64 0]) (by simp [results, Tryd.results131, go_sem, r0', r1', r2']) rfl ⟨_, rfl, (HFin.out _ rfl).1, (HFin.out _ rfl).2⟩

set_option maxRecDepth 100000 in
set_option maxHeartbeats 4000000 in
theorem funcIn_any (a : Face) (t : ByteArray) (cs : List Value) (F : Foot) (w : World) (hF : ∀ k, F k → k < w.heap.size) (ha : FaceR w F cs a) :
    Calls Tryd.prog 84 #[.agg cs.toArray, .string t] w fun e w' => ∃ ds : List Value, e = .returned (.tuple #[.agg ds.toArray, .int .i64 (funcCode a.funcs t)]) ∧ Below w.heap.size w w' ∧ SigR w' F ds (funcIn a.funcs t) := by
  obtain ⟨tv, fv, rfl, ht, hf⟩ := ha
  obtain ⟨A1, c1, rfl, _, _, hl1, _⟩ := ht.form
  obtain ⟨A3, c3, rfl, _, _, hl3, _⟩ := hf.form
  obtain ⟨E1, hE1⟩ : ∃ E, funcIn a.funcs t = E := ⟨_, rfl⟩
  obtain ⟨E2, hE2⟩ : ∃ E, funcCode a.funcs t = E := ⟨_, rfl⟩
  rw [hE1, hE2]
  have HE1 := Lib.hid hE1; have HE2 := Lib.hid hE2
  clear hE1 hE2 ht
  go_enter Tryd.func84, Tryd.ntmps84
  go_wp2_with fail
  have hB := (Box.made w 31 #[.slice A1 a.types.length c1, .slice A3 a.funcs.length c3]).alloc (.cells #[.string ⟨#[]⟩, .slice none 0 0, .string ⟨#[]⟩] 77)
  have hC := Box.made (w.alloc (.cells #[.slice A1 a.types.length c1, .slice A3 a.funcs.length c3] 31)) 77 #[.string ⟨#[]⟩, .slice none 0 0, .string ⟨#[]⟩]
  have hsz : (w.alloc (.cells #[.slice A1 a.types.length c1, .slice A3 a.funcs.length c3] 31)).heap.size = w.heap.size + 1 := by simp
  rw [hsz] at hC
  have hb0 : Below w.heap.size w ((w.alloc (.cells #[.slice A1 a.types.length c1, .slice A3 a.funcs.length c3] 31)).alloc (.cells #[.string ⟨#[]⟩, .slice none 0 0, .string ⟨#[]⟩] 77)) := by go_grown
  generalize (w.alloc (.cells #[.slice A1 a.types.length c1, .slice A3 a.funcs.length c3] 31)).alloc (.cells #[.string ⟨#[]⟩, .slice none 0 0, .string ⟨#[]⟩] 77) = W1 at hB hC hb0 ⊢
  have a1 := hB.at_ 1 _ rfl
  have r0 := hC.at_ 0 _ rfl
  have r1 := hC.at_ 1 _ rfl
  have r2 := hC.at_ 2 _ rfl
  have q0 := hC.free 0
  have q1 := hC.free 1
  have q2 := hC.free 2
  have HB := Lib.hid hb0
  clear hB hC hb0
  go_loopg [6] a.funcs.length (fun gg s6 wr => ∃ kk : Nat, kk ≤ a.funcs.length ∧ a.funcs.length - kk ≤ gg ∧ s6 = .int .i64 kk ∧ W1 = wr ∧ Aside (∀ j, j < kk → ∀ y, a.funcs[j]? = some y → decide (y.name = t) = false))
  case atStart => exact ⟨0, Nat.zero_le _, by omega, rfl, rfl, aside (fun j hj => absurd hj (Nat.not_lt_zero _))⟩
  case round =>
    obtain ⟨kk, hkk, hg, rfl, rfl, Al⟩ := hrel
    by_cases hlt : kk < a.funcs.length
    · have hltz : (kk : Int) < (a.funcs.length : Int) := by omega
      obtain ⟨b1, off, cs, rfl, hbF, _, ⟨pv, rfl, hn1, hn2, hpv⟩, hcell⟩ := (hf.up SigR.stays hF HB.out).at_ hlt
      obtain ⟨P1, p1, rfl, _, _, hpl, _⟩ := hpv.form
      have hc0 := hcell 0 _ rfl
      have hc1 := hcell 1 _ rfl
      have hc2 := hcell 2 _ rfl
      simp only [Nat.add_zero] at hc0
      have hx := List.getElem?_eq_getElem hlt
      generalize a.funcs[kk] = x at *
      have HX := Lib.hid hx; have HPV := Lib.hid hpv
      clear hx hcell hf hpv
      cases hq : decide (x.name = t) with
      | true =>
        have hE : (x.name.toList == t.toList) = true := by rw [str_eq]; exact hq
        have hn := named_hit HX.out hq Al.out
        have h1 := HE1.out
        have h2 := HE2.out
        unfold funcIn at h1
        unfold funcCode at h2
        rw [hn] at h1 h2
        simp only [Option.getD_some] at h1 h2
        subst h1; subst h2
        have hbn : b1 ≠ w.heap.size + 1 := fun e => by have := hF _ hbF; omega
        have hfin : ∀ W', W' = ((W1.setCell ⟨w.heap.size + 1, 0, none⟩ (.string x.name)).setCell ⟨w.heap.size + 1, 1, none⟩ (.slice P1 x.params.length p1)).setCell ⟨w.heap.size + 1, 2, none⟩ (.string x.result) →
            Below w.heap.size w W' ∧ SigR W' F [.string x.name, .slice P1 x.params.length p1, .string x.result] x := by
          rintro W' rfl
          refine ⟨((HB.out.setCell (by simp) _).setCell (by simp) _).setCell (by simp) _, _, rfl, hn1, hn2, ?_⟩
          exact HPV.out.stays StrR.stays (fun _ h => h) (keeps_heap fun k hk => heap3_put _ _ _ _ _ _ (by have := hF k hk; omega))
        have HFin := Lib.hid hfin
        clear hq hn hfin
        go_wp2_with fail
        exact bodyPost_ret (v := .tuple #[.agg #[.string x.name, .slice P1 x.params.length p1, .string x.result], .int .i64 0]) (by simp [results, Tryd.results84, go_sem, r0, r1, r2]) rfl ⟨_, rfl, (HFin.out _ rfl).1, (HFin.out _ rfl).2⟩
      | false =>
        have hE : (x.name.toList == t.toList) = false := by rw [str_eq]; exact hq
        have HQ := Lib.hid hq
        clear hq
        go_wp2_with fail
        go_roundg (a.funcs.length - (kk + 1))
        case measure => omega
        case rel => exact ⟨kk + 1, by omega, by omega, by go_num, rfl, aside (seen_succ' HX.out HQ.out Al.out)⟩
    · have hltz : ¬ (kk : Int) < (a.funcs.length : Int) := by omega
      obtain rfl : kk = a.funcs.length := by omega
      have hn := named_miss Al.out
      have h1 := HE1.out
      have h2 := HE2.out
      unfold funcIn at h1
      unfold funcCode at h2
      rw [hn] at h1 h2
      simp only [Option.getD_none] at h1 h2
      subst h1; subst h2
      have hfin : ∀ W', W' = ((W1.setCell ⟨w.heap.size + 1, 0, none⟩ (.string ⟨#[]⟩)).setCell ⟨w.heap.size + 1, 1, none⟩ (.slice none 0 0)).setCell ⟨w.heap.size + 1, 2, none⟩ (.string ⟨#[]⟩) → Below w.heap.size w W' := by
        rintro W' rfl
        exact ((HB.out.setCell (by simp) _).setCell (by simp) _).setCell (by simp) _
      have HFin := Lib.hid hfin
      clear hn hf hfin
      go_wp2_with fail
      exact bodyPost_ret (v := .tuple #[.agg #[.string ⟨#[]⟩, .slice none 0 0, .string ⟨#[]⟩], .int .i64 6]) (by simp [results, Tryd.results84, go_sem, r0, r1, r2]) rfl ⟨_, rfl, HFin.out _ rfl, noSig_row⟩

end Go.Proofs.YthedfpcdibhfpaaDoor
