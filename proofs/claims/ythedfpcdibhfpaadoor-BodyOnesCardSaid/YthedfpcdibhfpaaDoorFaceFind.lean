/- A face's types and functions by their names: face.Type and the reference's TypeIn. -/
import Derived.Test.YthedfpcdibhfpaaDoorSearch
import Derived.Test.YthedfpcdibhfpaaDoorShelf
import Derived.Test.YthedfpcdibhfpaaDoorFaceErr
namespace Go.Proofs.YthedfpcdibhfpaaDoor
open Go.RowKit Go.Shelf

theorem hitB_true {α : Type} {f : α → ByteArray} {l : List α} {t : ByteArray} {i : Nat} (h : hitB f l t i = true) : ∃ x, l[i]? = some x ∧ decide (f x = t) = true := by
  unfold hitB at h
  cases hx : l[i]? with
  | none => rw [hx] at h; cases h
  | some x => rw [hx] at h; exact ⟨x, rfl, h⟩
theorem hitB_false {α : Type} {f : α → ByteArray} {l : List α} {t : ByteArray} {i : Nat} (h : hitB f l t i = false) : ∀ x, l[i]? = some x → decide (f x = t) = false := by
  intro x hx
  unfold hitB at h
  rw [hx] at h; exact h

/-- The type of a name. -/
def typeIn (l : List Known) (t : ByteArray) : ByteArray × Int := match named Known.name l t with | some x => (x.is_, 0) | none => (⟨#[]⟩, 6)
theorem typeIn_some {l : List Known} {t : ByteArray} {x : Known} (h : named Known.name l t = some x) : typeIn l t = (x.is_, 0) := by unfold typeIn; rw [h]
theorem typeIn_none {l : List Known} {t : ByteArray} (h : named Known.name l t = none) : typeIn l t = (⟨#[]⟩, 6) := by unfold typeIn; rw [h]

set_option maxRecDepth 100000 in
set_option maxHeartbeats 1000000 in
theorem type1_any (x : Known) (t : ByteArray) (w : World) : Calls Tryd.prog 185 #[.agg #[.string x.name, .string x.is_], .string t] w fun e w' => e = .returned (.int .i64 (Lib.compareBytes x.name.data.toList t.data.toList)) ∧ Below w.heap.size w w' := by
  have hc := fun W => Tryd.strings_Compare x.name t W
  generalize Lib.compareBytes x.name.data.toList t.data.toList = z at hc ⊢
  have HC := Lib.hid hc
  clear hc
  go_enter Tryd.func185, Tryd.ntmps185
  go_wp2_with (go_at_call 21; refine (HC.out _).mono ?_; rintro e w' ⟨rfl, rfl⟩)
  go_ret
  exact ⟨rfl, by go_grown⟩

set_option maxRecDepth 100000 in
set_option maxHeartbeats 2000000 in
theorem faceType_any (a : Face) (t : ByteArray) (cs : List Value) (F : Foot) (w : World) (hF : ∀ k, F k → k < w.heap.size) (ha : FaceR w F cs a) (hR : Rising Known.name a.types) :
    Calls Tryd.prog 162 #[.agg cs.toArray, .string t] w fun e w' => e = .returned (.tuple #[.string (typeIn a.types t).1, .int .i64 (typeIn a.types t).2]) ∧ Below w.heap.size w w' := by
  obtain ⟨tv, fv, rfl, ht, hf⟩ := ha
  have hs := fun (U : World) (hU : Below w.heap.size w U) => search_knowns tv a.types F t 185 #[] U (enters_of Tryd.func185 (by kernel_rfl) rfl) (foot_up hF hU) (ht.up KnownR.stays hF hU)
    (fun W x cs _ _ hx => by obtain ⟨rfl, _⟩ := hx; exact type1_any x t W)
  obtain ⟨A1, c1, rfl, _, _, hl1, _⟩ := ht.form
  obtain ⟨A3, c3, rfl, _, _, hl3, _⟩ := hf.form
  obtain ⟨E1, hE1⟩ : ∃ E, (typeIn a.types t).1 = E := ⟨_, rfl⟩
  obtain ⟨E2, hE2⟩ : ∃ E, (typeIn a.types t).2 = E := ⟨_, rfl⟩
  rw [hE1, hE2]
  have HS := Lib.hid hs; have HE1 := Lib.hid hE1; have HE2 := Lib.hid hE2; have HR := Lib.hid hR
  clear hs hE1 hE2 hR hf
  go_enter Tryd.func162, Tryd.ntmps162
  go_wp2_with fail
  have hB := Box.made w 31 #[.slice A1 a.types.length c1, .slice A3 a.funcs.length c3]
  have hb0 : Below w.heap.size w (w.alloc (.cells #[.slice A1 a.types.length c1, .slice A3 a.funcs.length c3] 31)) := by go_grown
  generalize w.alloc (.cells #[.slice A1 a.types.length c1, .slice A3 a.funcs.length c3] 31) = W1 at hB hb0 ⊢
  refine (HS.out _ hb0).mono ?_
  rintro e w' ⟨i, hP, rfl, hb⟩
  have hB1 := hB.later hb hB.lt
  have hb1 := hb0.trans (hb.mono hb0.size)
  have a0 := hB1.at_ 0 _ rfl
  have HB := Lib.hid hb1
  cases hh : hitB Known.name a.types t i with
  | false =>
    have hn := typeIn_none (hP.miss HR.out (hitB_false hh))
    have h1 := HE1.out
    have h2 := HE2.out
    rw [hn] at h1 h2
    subst h1; subst h2
    clear hb hb0 hb1 hB hB1 hh hP hn ht
    go_wp2_with fail
    go_ret2
    exact ⟨rfl, HB.out⟩
  | true =>
    obtain ⟨x, hx, hd⟩ := hitB_true hh
    have hn := typeIn_some (hP.hit HR.out hx hd)
    have h1 := HE1.out
    have h2 := HE2.out
    rw [hn] at h1 h2
    subst h1; subst h2
    have hil := (List.getElem?_eq_some_iff.1 hx).1
    have hilz : (i : Int) < (a.types.length : Int) := by omega
    obtain ⟨b1, off, cs, rfl, _, _, ⟨rfl, _⟩, hcell⟩ := (ht.up KnownR.stays hF hb1).at_ hil
    have hc1 := hcell 1 _ rfl
    rw [(List.getElem?_eq_some_iff.1 hx).2] at hc1
    clear hb hb0 hb1 hB hB1 hh hP hn ht hcell hx hd
    go_wp2_with fail
    go_ret2
    exact ⟨rfl, HB.out⟩

set_option maxRecDepth 100000 in
set_option maxHeartbeats 2000000 in
theorem typeIn_any (a : Face) (t : ByteArray) (cs : List Value) (F : Foot) (w : World) (hF : ∀ k, F k → k < w.heap.size) (ha : FaceR w F cs a) :
    Calls Tryd.prog 173 #[.agg cs.toArray, .string t] w fun e w' => e = .returned (.tuple #[.string (typeIn a.types t).1, .int .i64 (typeIn a.types t).2]) ∧ Below w.heap.size w w' := by
  obtain ⟨tv, fv, rfl, ht, hf⟩ := ha
  obtain ⟨A1, c1, rfl, _, _, hl1, _⟩ := ht.form
  obtain ⟨A3, c3, rfl, _, _, hl3, _⟩ := hf.form
  obtain ⟨E1, hE1⟩ : ∃ E, (typeIn a.types t).1 = E := ⟨_, rfl⟩
  obtain ⟨E2, hE2⟩ : ∃ E, (typeIn a.types t).2 = E := ⟨_, rfl⟩
  rw [hE1, hE2]
  have HE1 := Lib.hid hE1; have HE2 := Lib.hid hE2
  clear hE1 hE2 hf
  go_enter Tryd.func173, Tryd.ntmps173
  go_wp2_with fail
  have hB := Box.made w 31 #[.slice A1 a.types.length c1, .slice A3 a.funcs.length c3]
  have hb0 : Below w.heap.size w (w.alloc (.cells #[.slice A1 a.types.length c1, .slice A3 a.funcs.length c3] 31)) := by go_grown
  generalize w.alloc (.cells #[.slice A1 a.types.length c1, .slice A3 a.funcs.length c3] 31) = W1 at hB hb0 ⊢
  have a0 := hB.at_ 0 _ rfl
  have HB := Lib.hid hb0
  clear hB hb0
  go_loopg [6] a.types.length (fun gg s6 wr => ∃ kk : Nat, kk ≤ a.types.length ∧ a.types.length - kk ≤ gg ∧ s6 = .int .i64 kk ∧ W1 = wr ∧ Aside (∀ j, j < kk → ∀ y, a.types[j]? = some y → decide (y.name = t) = false))
  case atStart => exact ⟨0, Nat.zero_le _, by omega, rfl, rfl, aside (fun j hj => absurd hj (Nat.not_lt_zero _))⟩
  case round =>
    obtain ⟨kk, hkk, hg, rfl, rfl, Al⟩ := hrel
    by_cases hlt : kk < a.types.length
    · have hltz : (kk : Int) < (a.types.length : Int) := by omega
      obtain ⟨b1, off, cs, rfl, _, _, ⟨rfl, _⟩, hcell⟩ := (ht.up KnownR.stays hF HB.out).at_ hlt
      have hc0 := hcell 0 _ rfl
      have hc1 := hcell 1 _ rfl
      simp only [Nat.add_zero] at hc0
      have hx := List.getElem?_eq_getElem hlt
      generalize a.types[kk] = x at *
      have HX := Lib.hid hx
      clear hx hcell ht
      cases hq : decide (x.name = t) with
      | true =>
        have hE : (x.name.toList == t.toList) = true := by rw [str_eq]; exact hq
        have hn := typeIn_some (named_hit HX.out hq Al.out)
        have h1 := HE1.out
        have h2 := HE2.out
        rw [hn] at h1 h2
        subst h1; subst h2
        clear hq hn
        go_wp2_with fail
        go_ret2
        exact ⟨rfl, HB.out⟩
      | false =>
        have hE : (x.name.toList == t.toList) = false := by rw [str_eq]; exact hq
        have HQ := Lib.hid hq
        clear hq
        go_wp2_with fail
        go_roundg (a.types.length - (kk + 1))
        case measure => omega
        case rel => exact ⟨kk + 1, by omega, by omega, by go_num, rfl, aside (seen_succ' HX.out HQ.out Al.out)⟩
    · have hltz : ¬ (kk : Int) < (a.types.length : Int) := by omega
      obtain rfl : kk = a.types.length := by omega
      have hn := typeIn_none (named_miss Al.out)
      have h1 := HE1.out
      have h2 := HE2.out
      rw [hn] at h1 h2
      subst h1; subst h2
      clear hn ht
      go_wp2_with fail
      go_ret2
      exact ⟨rfl, HB.out⟩

theorem face_rising {a : Face} (h : faceErr a = 0) : Rising Known.name a.types ∧ Rising Sig.name a.funcs ∧ (∀ x ∈ a.types, knownBad x = 0) ∧ (∀ x ∈ a.funcs, sigBad x = 0) := by
  unfold faceErr at h
  split at h
  · cases h
  · split at h
    · next h1 =>
      exact ⟨itemErr_rising (firstErr_zero h1), itemErr_rising (firstErr_zero h), itemErr_good (firstErr_zero h1), itemErr_good (firstErr_zero h)⟩
    · next h1 => exact absurd h h1

end Go.Proofs.YthedfpcdibhfpaaDoor
