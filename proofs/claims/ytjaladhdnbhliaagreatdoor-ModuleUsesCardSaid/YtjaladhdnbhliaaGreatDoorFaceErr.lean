/- What is wrong with a face: the reference's FaceFault, IsOpen. -/
import Derived.Test.YtjaladhdnbhliaaGreatDoorBase
import Derived.Test.YtjaladhdnbhliaaGreatDoorName
import Derived.Test.YtjaladhdnbhliaaGreatDoorKind
import Derived.Test.YtjaladhdnbhliaaGreatDoorFaceEq2
import Derived.Deep.QuietTactic
import Derived.BigQuiet
import Derived.Deep.DeepCutAuto
import Derived.Deep.Light
import Derived.Handy
namespace Go.Proofs.YtjaladhdnbhliaaGreatDoor
open Go.RowKit Go.Shelf

def starByte (c : UInt8) : Bool := decide (c.toNat = 42)
/-- Has a kind a variable? -/
def openB (s : ByteArray) : Bool := s.data.toList.any starByte

set_option maxRecDepth 100000 in
set_option maxHeartbeats 400000 in
theorem isOpen_any (s : ByteArray) (w : World) (hs : s.size ≤ 140737488355328) : Calls Tryz.prog 166 #[.string s] w fun e w' => e = .returned (.bool (openB s)) ∧ w = w' := by
  go_enter Tryz.func166, Tryz.ntmps166
  go_wp2
  go_loopg [3] s.size (fun gg s3 wr => ∃ kk : Nat, kk ≤ s.size ∧ s.size - kk ≤ gg ∧ s3 = .int .i64 kk ∧ wr = w ∧ Aside (∀ j, j < kk → ∀ x, s.data.toList[j]? = some x → starByte x = false))
  case atStart => exact ⟨0, Nat.zero_le _, by omega, rfl, rfl, (show Aside _ from fun j hj => absurd hj (Nat.not_lt_zero _))⟩
  case round =>
    obtain ⟨kk, hkk, hg, rfl, rfl, A1⟩ := hrel
    by_cases hlt : kk < s.size
    · have hltz : (kk : Int) < (s.size : Int) := by omega
      have hb : (s[kk].toNat : Int) < 256 := by have := s[kk].toNat_lt; omega
      go_wp2
      · have hq : starByte s[kk] = true := by (simp [starByte] at *; omega)
        go_ret; go_tidy; exact ⟨ret_bool (any_hit (str_at? s kk hlt) hq).symm, rfl⟩
      · have hq : starByte s[kk] = false := by (simp [starByte] at *; omega)
        go_roundg (s.size - (kk + 1))
        case measure => omega
        case rel => exact ⟨kk + 1, by omega, by omega, by go_num, rfl, (show Aside _ from seen_succ' (str_at? s kk hlt) hq A1.out)⟩
    · have hltz : ¬ (kk : Int) < (s.size : Int) := by omega
      obtain rfl : kk = s.size := by omega
      go_wp2
      go_ret
      exact ⟨ret_bool (any_miss (Nat.le_of_eq (str_len s)) A1.out).symm, rfl⟩

/-- What is wrong with one type, one function of a face. -/
def knownBad (x : Known) : Int := if nameOk x.name && (decide (kindErr x.is_ = 0) && !(openB x.is_)) then 0 else 4
def paramBad (s : ByteArray) : Bool := decide (kindErr s ≠ 0)
def sigBad (x : Sig) : Int := if nameOk x.name && (decide (x.params.length ≤ 8) && (decide (kindErr x.result = 0) && !(x.params.any paramBad))) then 0 else 4
def typesErr (l : List Known) : Int := firstErr (itemErr Known.name knownBad l) l.length
def funcsErr (l : List Sig) : Int := firstErr (itemErr Sig.name sigBad l) l.length
/-- What is wrong with a face; 0: nothing. -/
def faceErr (a : Face) : Int := if 24 < a.types.length + a.funcs.length then 1 else if typesErr a.types = 0 then funcsErr a.funcs else typesErr a.types

theorem typesErr_hit {l : List Known} {k : Nat} {e : Int} (hk : k < l.length) (hb : ∀ j, j < k → itemErr Known.name knownBad l j = 0) (h : itemErr Known.name knownBad l k = e) (h0 : e ≠ 0) : typesErr l = e := by
  rw [typesErr, firstErr_hit hk hb (by rw [h]; exact h0), h]
theorem funcsErr_hit {l : List Sig} {k : Nat} {e : Int} (hk : k < l.length) (hb : ∀ j, j < k → itemErr Sig.name sigBad l j = 0) (h : itemErr Sig.name sigBad l k = e) (h0 : e ≠ 0) : funcsErr l = e := by
  rw [funcsErr, firstErr_hit hk hb (by rw [h]; exact h0), h]
theorem faceErr_types {a : Face} {e : Int} (h24 : ¬ 24 < a.types.length + a.funcs.length) (h : typesErr a.types = e) (h0 : e ≠ 0) : faceErr a = e := by
  subst h
  unfold faceErr
  rw [if_neg h24, if_neg h0]
theorem faceErr_funcs {a : Face} {e : Int} (h24 : ¬ 24 < a.types.length + a.funcs.length) (h : typesErr a.types = 0) (he : funcsErr a.funcs = e) : faceErr a = e := by
  unfold faceErr
  rw [if_neg h24, if_pos h, he]
theorem knownBad_no {x : Known} (h : nameOk x.name = false ∨ kindErr x.is_ ≠ 0 ∨ openB x.is_ = true) : knownBad x = 4 := by
  unfold knownBad
  rcases h with h | h | h <;> simp [h]
theorem knownBad_ok {x : Known} (h1 : nameOk x.name = true) (h2 : kindErr x.is_ = 0) (h3 : openB x.is_ = false) : knownBad x = 0 := by
  unfold knownBad
  simp [h1, h2, h3]
theorem sigBad_no {x : Sig} (h : nameOk x.name = false ∨ kindErr x.result ≠ 0 ∨ 8 < x.params.length ∨ x.params.any paramBad = true) : sigBad x = 4 := by
  unfold sigBad
  rcases h with h | h | h | h
  · simp [h]
  · simp [h]
  · simp [show ¬ x.params.length ≤ 8 by omega]
  · rw [h]; simp
theorem sigBad_ok {x : Sig} (h1 : nameOk x.name = true) (h2 : kindErr x.result = 0) (h3 : x.params.length ≤ 8) (h4 : x.params.any paramBad = false) : sigBad x = 0 := by
  unfold sigBad
  simp [h1, h2, h3, h4]
theorem sigBad_eq (x : Sig) : sigBad x = if ((!(nameOk x.name) || (decide (kindErr x.result ≠ 0) || decide (8 < x.params.length))) || x.params.any paramBad) = true then 4 else 0 := by
  unfold sigBad
  by_cases h2 : kindErr x.result = 0 <;> by_cases h3 : x.params.length ≤ 8 <;> cases nameOk x.name <;> cases x.params.any paramBad <;> simp [h2, h3] <;> omega
theorem any_take_succ {α : Type} {p : α → Bool} {l : List α} {k : Nat} {x : α} (hx : l[k]? = some x) : (l.take (k + 1)).any p = ((l.take k).any p || p x) := by
  rw [List.take_add_one, hx]
  simp

set_option maxRecDepth 100000 in
set_option maxHeartbeats 8000000 in
theorem faceFault_any (a : Face) (cs : List Value) (F : Foot) (w : World) (hF : ∀ k, F k → k < w.heap.size) (ha : FaceR w F cs a) :
    Calls Tryz.prog 99 #[.agg cs.toArray] w fun e w' => e = .returned (.int .i64 (faceErr a)) ∧ Below w.heap.size w w' := by
  obtain ⟨tv, fv, rfl, ht, hf⟩ := ha
  obtain ⟨A1, c1, rfl, _, _, hl1, _⟩ := ht.form
  obtain ⟨A3, c3, rfl, _, _, hl3, _⟩ := hf.form
  obtain ⟨E, hE⟩ : ∃ E, faceErr a = E := ⟨_, rfl⟩
  rw [hE]
  by_cases h24 : 24 < a.types.length + a.funcs.length
  · have h24z : (24 : Int) < (a.types.length : Int) + (a.funcs.length : Int) := by omega
    obtain rfl : E = 1 := by rw [← hE]; simp [faceErr, h24]
    clear hE
    go_enter Tryz.func99, Tryz.ntmps99
    go_wp2
    go_ret
    exact ⟨rfl, by go_grown⟩
  · have h24z : ¬ (24 : Int) < (a.types.length : Int) + (a.funcs.length : Int) := by omega
    have HE := Lib.hid hE
    have H24 := Lib.hid h24
    clear hE h24
    go_enter Tryz.func99, Tryz.ntmps99
    go_wp2_with fail
    have hB := Box.made w 42 #[.slice A1 a.types.length c1, .slice A3 a.funcs.length c3]
    have hb0 : Below w.heap.size w (w.alloc (.cells #[.slice A1 a.types.length c1, .slice A3 a.funcs.length c3] 42)) := by go_grown
    generalize w.alloc (.cells #[.slice A1 a.types.length c1, .slice A3 a.funcs.length c3] 42) = W1 at hB hb0 ⊢
    have HB := Lib.hid hB; have Hb0 := Lib.hid hb0; clear hB hb0
    go_loopg [3] a.types.length (fun gg s3 wr => ∃ kk : Nat, kk ≤ a.types.length ∧ a.types.length - kk ≤ gg ∧ s3 = .int .i64 kk ∧ Aside (Below W1.heap.size W1 wr) ∧ Aside (∀ j, j < kk → itemErr Known.name knownBad a.types j = 0))
    case atStart => exact ⟨0, Nat.zero_le _, by omega, rfl, Below.refl _ _, (show Aside _ from fun j hj => absurd hj (Nat.not_lt_zero _))⟩
    case round =>
      obtain ⟨kk, hkk, hg, rfl, BW, Al⟩ := hrel
      have hB1 := HB.out.later BW.out HB.out.lt
      have ha0 := hB1.at_ 0 _ rfl
      have ha1 := hB1.at_ 1 _ rfl
      have hbw := Hb0.out.trans (BW.out.mono Hb0.out.size)
      clear hB1
      by_cases hlt : kk < a.types.length
      · have hltz : (kk : Int) < (a.types.length : Int) := by omega
        have hat := ht.up KnownR.stays hF hbw
        obtain ⟨b1, off, cs, rfl, hb, hcs, ⟨rfl, hn, hi⟩, hcell⟩ := hat.at_ hlt
        have hc0 := hcell 0 _ rfl
        have hc1 := hcell 1 _ rfl
        simp only [Nat.add_zero] at hc0
        have hx := List.getElem?_eq_getElem hlt
        generalize a.types[kk] = x at *
        have HX := Lib.hid hx
        have HT := Lib.hid hat
        have HBW := Lib.hid hbw
        have hnm := fun W => nameMay_any x.name W hn
        have hkf := fun W => kindFault_any x.is_ W hi
        have hop := fun W => isOpen_any x.is_ W hi
        obtain ⟨z1, hz1⟩ : ∃ z, nameOk x.name = z := ⟨_, rfl⟩
        obtain ⟨z2, hz2⟩ : ∃ z, kindErr x.is_ = z := ⟨_, rfl⟩
        obtain ⟨z3, hz3⟩ : ∃ z, openB x.is_ = z := ⟨_, rfl⟩
        rw [hz1] at hnm; rw [hz2] at hkf; rw [hz3] at hop
        have Z1 := Lib.hid hz1; have Z2 := Lib.hid hz2; have Z3 := Lib.hid hz3
        have HN := Lib.hid hnm; have HK := Lib.hid hkf; have HO := Lib.hid hop
        clear hx hcell hat hnm hkf hop hz1 hz2 hz3 hbw
        cases z1 with
        | false =>
          go_wp2_with (go_at_call 98; refine (HN.out _).mono ?_; rintro e w' ⟨rfl, rfl⟩)
          go_ret
          exact ⟨ret_int (by rw [← HE.out]; exact (faceErr_types H24.out (typesErr_hit hlt Al.out (itemErr_bad HX.out (knownBad_no (.inl Z1.out)) (by decide)) (by decide)) (by decide)).symm), HBW.out⟩
        | true =>
          by_cases hzz : z2 = 0
          · subst hzz
            cases z3 with
            | true =>
              go_wp2_with (first | (go_at_call 98; refine (HN.out _).mono ?_; rintro e w' ⟨rfl, rfl⟩) | (go_at_call 165; refine (HK.out _).mono ?_; rintro e w' ⟨rfl, rfl⟩) | (go_at_call 166; refine (HO.out _).mono ?_; rintro e w' ⟨rfl, rfl⟩))
              go_ret
              exact ⟨ret_int (by rw [← HE.out]; exact (faceErr_types H24.out (typesErr_hit hlt Al.out (itemErr_bad HX.out (knownBad_no (.inr (.inr Z3.out))) (by decide)) (by decide)) (by decide)).symm), HBW.out⟩
            | false =>
              have HG := Lib.hid (knownBad_ok Z1.out Z2.out Z3.out)
              by_cases h0 : 0 < kk
              · have h0z : (0 : Int) < (kk : Int) := by omega
                obtain ⟨b2, off2, cs2, e2, _, _, ⟨rfl, _⟩, hcell2⟩ := HT.out.at_ (k := kk - 1) (by omega)
                injection e2 with e2
                injection e2 with e2 e3 _
                subst e2; subst e3
                have hd0 := hcell2 0 _ rfl
                simp only [Nat.add_zero] at hd0
                have hy := List.getElem?_eq_getElem (show kk - 1 < a.types.length by omega)
                generalize a.types[kk - 1] = y at *
                have HY := Lib.hid hy
                have HI := Lib.hid (itemErr_next (name := Known.name) (bad := knownBad) h0 HX.out HY.out HG.out)
                have hi1 : IntKind.i64.wrap ((kk : Int) - 1) = (kk : Int) - 1 := IntWalk.i64_in _ (by omega)
                have hi2 : (0 : Int) ≤ (kk : Int) - 1 := by omega
                have hi3 : ((kk : Int) - 1).toNat = kk - 1 := by omega
                have hi4 : (kk : Int) - 1 < (a.types.length : Int) := by omega
                have hleq := ltS_leq x.name y.name
                clear hcell2 hy
                cases hq : ltS y.name x.name with
                | true =>
                  rw [hq] at hleq
                  have HQ := Lib.hid hq
                  clear hq
                  have hleq' : (Op.bytesLess x.name.toList y.name.toList || x.name.toList == y.name.toList) = false := hleq
                  clear hleq
                  go_wp2_with (first | (go_at_call 98; refine (HN.out _).mono ?_; rintro e w' ⟨rfl, rfl⟩) | (go_at_call 165; refine (HK.out _).mono ?_; rintro e w' ⟨rfl, rfl⟩) | (go_at_call 166; refine (HO.out _).mono ?_; rintro e w' ⟨rfl, rfl⟩))
                  go_quiet (fail)
                  go_wp2_with fail
                  go_roundg (a.types.length - (kk + 1))
                  case measure => omega
                  case rel => exact ⟨kk + 1, by omega, by omega, by go_num, below_drewN BW.out _, (show Aside _ from zeros_succ Al.out (by rw [HI.out, HQ.out]; rfl))⟩
                | false =>
                  rw [hq] at hleq
                  have HQ := Lib.hid hq
                  clear hq
                  have hleq' : (Op.bytesLess x.name.toList y.name.toList || x.name.toList == y.name.toList) = true := hleq
                  clear hleq
                  go_wp2_with (first | (go_at_call 98; refine (HN.out _).mono ?_; rintro e w' ⟨rfl, rfl⟩) | (go_at_call 165; refine (HK.out _).mono ?_; rintro e w' ⟨rfl, rfl⟩) | (go_at_call 166; refine (HO.out _).mono ?_; rintro e w' ⟨rfl, rfl⟩))
                  go_quiet (fail)
                  go_wp2_with fail
                  go_ret
                  exact ⟨ret_int (by rw [← HE.out]; exact (faceErr_types H24.out (typesErr_hit hlt Al.out (by rw [HI.out, HQ.out]; rfl) (by decide)) (by decide)).symm), below_drewN HBW.out _⟩
              · have h0z : decide ((0 : Int) < (kk : Int)) = false := by simp; omega
                have HI := Lib.hid (show itemErr Known.name knownBad a.types kk = 0 by
                  have e : kk = 0 := by omega
                  have h := HX.out
                  rw [e] at h ⊢
                  exact itemErr_first h HG.out)
                go_wp2_with (first | (go_at_call 98; refine (HN.out _).mono ?_; rintro e w' ⟨rfl, rfl⟩) | (go_at_call 165; refine (HK.out _).mono ?_; rintro e w' ⟨rfl, rfl⟩) | (go_at_call 166; refine (HO.out _).mono ?_; rintro e w' ⟨rfl, rfl⟩))
                go_quiet (fail)
                go_wp2_with fail
                go_roundg (a.types.length - (kk + 1))
                case measure => omega
                case rel => exact ⟨kk + 1, by omega, by omega, by go_num, below_drewN BW.out _, (show Aside _ from zeros_succ Al.out HI.out)⟩
          · have hzn : (z2 != 0) = true := by simp [hzz]
            go_wp2_with (first | (go_at_call 98; refine (HN.out _).mono ?_; rintro e w' ⟨rfl, rfl⟩) | (go_at_call 165; refine (HK.out _).mono ?_; rintro e w' ⟨rfl, rfl⟩) | (go_at_call 166; refine (HO.out _).mono ?_; rintro e w' ⟨rfl, rfl⟩))
            go_ret
            exact ⟨ret_int (by rw [← HE.out]; exact (faceErr_types H24.out (typesErr_hit hlt Al.out (itemErr_bad HX.out (knownBad_no (.inr (.inl (by rw [Z2.out]; exact hzz)))) (by decide)) (by decide)) (by decide)).symm), HBW.out⟩
      · have hltz : ¬ (kk : Int) < (a.types.length : Int) := by omega
        obtain rfl : kk = a.types.length := by omega
        have HT0 := Lib.hid (show typesErr a.types = 0 from firstErr_none Al.out)
        obtain ⟨W2, rfl⟩ : ∃ W2, W2 = wr := ⟨_, rfl⟩
        have HB2 := Lib.hid (HB.out.later BW.out HB.out.lt)
        have HBW := Lib.hid hbw
        clear hbw Al
        go_wp2_with fail
        go_loopg [4, 6] a.funcs.length (fun gg s4 _ wr => ∃ kk : Nat, kk ≤ a.funcs.length ∧ a.funcs.length - kk ≤ gg ∧ s4 = .int .i64 kk ∧ Aside (Below W2.heap.size W2 wr) ∧ Aside (∀ j, j < kk → itemErr Sig.name sigBad a.funcs j = 0))
        case atStart => exact ⟨0, Nat.zero_le _, by omega, rfl, Below.refl _ _, (show Aside _ from fun j hj => absurd hj (Nat.not_lt_zero _))⟩
        case round =>
          clear BW ha0 ha1
          obtain ⟨kk, hkk, hg, rfl, BW, Al⟩ := hrel
          have hB1 := HB2.out.later BW.out HB2.out.lt
          have ha0 := hB1.at_ 0 _ rfl
          have ha1 := hB1.at_ 1 _ rfl
          have hwl := hB1.lt
          have hbw := HBW.out.trans (BW.out.mono HBW.out.size)
          clear hB1
          by_cases hlt : kk < a.funcs.length
          · have hltz : (kk : Int) < (a.funcs.length : Int) := by omega
            have hat := hf.up SigR.stays hF hbw
            obtain ⟨b1, off, cs, rfl, hb, hcs, ⟨pv, rfl, hn, hr, hp⟩, hcell⟩ := hat.at_ hlt
            obtain ⟨P1, p1, rfl, _, _, hpl, _⟩ := hp.form
            have hc0 := hcell 0 _ rfl
            have hc1 := hcell 1 _ rfl
            have hc2 := hcell 2 _ rfl
            simp only [Nat.add_zero] at hc0
            have hx := List.getElem?_eq_getElem hlt
            generalize a.funcs[kk] = x at *
            have HX := Lib.hid hx
            have HT := Lib.hid hat
            have HBR := Lib.hid hbw
            have HP := Lib.hid hp
            have hnm := fun W => nameMay_any x.name W hn
            have hkf := fun W => kindFault_any x.result W hr
            obtain ⟨z1, hz1⟩ : ∃ z, nameOk x.name = z := ⟨_, rfl⟩
            obtain ⟨z2, hz2⟩ : ∃ z, kindErr x.result = z := ⟨_, rfl⟩
            rw [hz1] at hnm; rw [hz2] at hkf
            have Z1 := Lib.hid hz1; have Z2 := Lib.hid hz2
            have HN := Lib.hid hnm; have HK := Lib.hid hkf
            clear hx hcell hat hnm hkf hz1 hz2 hbw hp
            obtain ⟨q0, hq0⟩ : ∃ q : Bool, (!z1 || (decide (z2 ≠ 0) || decide (8 < x.params.length))) = q := ⟨_, rfl⟩
            have Q0 := Lib.hid hq0
            clear hq0
            go_upto_region 14 with fail
            have hB3 := Box.made wr 62 #[.string x.name, .slice P1 x.params.length p1, .string x.result]
            have hb3 : Below wr.heap.size wr (wr.alloc (.cells #[.string x.name, .slice P1 x.params.length p1, .string x.result] 62)) := by go_grown
            generalize wr.alloc (.cells #[.string x.name, .slice P1 x.params.length p1, .string x.result] 62) = W3 at hB3 hb3 ⊢
            have n0 := hB3.at_ 0 _ rfl
            have n1 := hB3.at_ 1 _ rfl
            have n2 := hB3.at_ 2 _ rfl
            have g0 := (hb3.cell (p := ⟨w.heap.size, 0, none⟩) hwl).trans ha0
            have g1 := (hb3.cell (p := ⟨w.heap.size, 1, none⟩) hwl).trans ha1
            have HB3 := Lib.hid hb3
            clear hB3 hb3 ha0 ha1 hc0 hc1 hc2
            go_cut [6] (fun s6 wx => s6 = .bool q0 ∧ W3 = wx)
            case first =>
              go_wp2_with (first | (go_at_call 98; refine (HN.out _).mono ?_; rintro e w' ⟨rfl, rfl⟩) | (go_at_call 165; refine (HK.out _).mono ?_; rintro e w' ⟨rfl, rfl⟩))
              all_goals go_meet
              all_goals (refine ⟨?_, rfl⟩; rw [← Q0.out]; clear Q0; go_light; first | (simp [*]; done) | (simp [*]; omega))
            case rest =>
              obtain ⟨rfl, rfl⟩ := hcut
              go_wp2_with fail
              go_loopg [6, 7] x.params.length (fun gg s6 s7 wq => ∃ (jj : Nat) (q : Bool), jj ≤ x.params.length ∧ x.params.length - jj ≤ gg ∧ s7 = .int .i64 jj ∧ s6 = .bool q ∧ W3 = wq ∧ Aside (q = (q0 || (x.params.take jj).any paramBad)))
              case atStart => exact ⟨0, q0, Nat.zero_le _, by omega, rfl, rfl, rfl, aside (by simp)⟩
              case round =>
                obtain ⟨jj, q, hjj, hg2, rfl, rfl, rfl, Qa⟩ := hrel
                by_cases hlj : jj < x.params.length
                · have hljz : (jj : Int) < (x.params.length : Int) := by omega
                  obtain ⟨b3, off3, cs3, rfl, _, _, ⟨rfl, hps⟩, hcell3⟩ := ((HP.out.stays StrR.stays (fun _ h => h) (Keeps.of_below HB3.out (foot_up hF HBR.out)))).at_ hlj
                  have hm0 := hcell3 0 _ rfl
                  simp only [Nat.mul_one, Nat.add_zero] at hm0
                  have hpx := List.getElem?_eq_getElem hlj
                  generalize x.params[jj] = u at *
                  have hku := fun W => kindFault_any u W hps
                  have HA := Lib.hid (any_take_succ (p := paramBad) hpx)
                  obtain ⟨z4, hz4⟩ : ∃ z, kindErr u = z := ⟨_, rfl⟩
                  rw [hz4] at hku
                  have Z4 := Lib.hid hz4
                  have HKU := Lib.hid hku
                  clear hcell3 hpx hku hz4
                  cases q with
                  | true =>
                    go_wp2_with fail
                    go_roundg (x.params.length - (jj + 1))
                    case measure => omega
                    case rel => exact ⟨jj + 1, true, by omega, by omega, by go_num, rfl, rfl, aside (by rw [HA.out, ← Bool.or_assoc, ← Qa.out]; rfl)⟩
                  | false =>
                    go_wp2_with (go_at_call 165; refine (HKU.out _).mono ?_; rintro e w' ⟨rfl, rfl⟩)
                    go_roundg (x.params.length - (jj + 1))
                    case measure => omega
                    case rel => exact ⟨jj + 1, z4 != 0, by omega, by omega, by go_num, rfl, rfl, aside (by rw [HA.out, ← Bool.or_assoc, ← Qa.out, paramBad, Z4.out]; by_cases hz : z4 = 0 <;> simp [hz])⟩
                · have hljz : ¬ (jj : Int) < (x.params.length : Int) := by omega
                  obtain rfl : jj = x.params.length := by omega
                  have hS := sigBad_eq x
                  have hq := Qa.out
                  rw [List.take_of_length_le (Nat.le_refl _)] at hq
                  rw [Z1.out, Z2.out, Q0.out, ← hq] at hS
                  have HS := Lib.hid hS
                  clear hS hq
                  cases q with
                  | true =>
                    go_wp2_with fail
                    go_ret
                    exact ⟨ret_int (by rw [← HE.out]; exact (faceErr_funcs H24.out HT0.out (funcsErr_hit hlt Al.out (itemErr_bad HX.out HS.out (by decide)) (by decide))).symm), HBR.out.trans (HB3.out.mono HBR.out.size)⟩
                  | false =>
                    have HG := Lib.hid (show sigBad x = 0 from HS.out)
                    by_cases h0 : 0 < kk
                    · have h0z : (0 : Int) < (kk : Int) := by omega
                      obtain ⟨b2, off2, cs2, e2, hb2, _, ⟨pv2, rfl, _⟩, hcell2⟩ := HT.out.at_ (k := kk - 1) (by omega)
                      injection e2 with e2
                      injection e2 with e2 e3 _
                      subst e2; subst e3
                      have hd0 := (HB3.out.cell (p := ⟨b1, off + (kk - 1) * 3 + 0, none⟩) (foot_up hF HBR.out _ hb)).trans (hcell2 0 _ rfl)
                      simp only [Nat.add_zero] at hd0
                      have hy := List.getElem?_eq_getElem (show kk - 1 < a.funcs.length by omega)
                      generalize a.funcs[kk - 1] = y at *
                      have HY := Lib.hid hy
                      have HI := Lib.hid (itemErr_next (name := Sig.name) (bad := sigBad) h0 HX.out HY.out HG.out)
                      have hi1 : IntKind.i64.wrap ((kk : Int) - 1) = (kk : Int) - 1 := IntWalk.i64_in _ (by omega)
                      have hi2 : (0 : Int) ≤ (kk : Int) - 1 := by omega
                      have hi3 : ((kk : Int) - 1).toNat = kk - 1 := by omega
                      have hi4 : (kk : Int) - 1 < (a.funcs.length : Int) := by omega
                      have hleq := ltS_leq x.name y.name
                      clear hcell2 hy
                      cases hq : ltS y.name x.name with
                      | true =>
                        rw [hq] at hleq
                        have HQ := Lib.hid hq
                        clear hq
                        have hleq' : (Op.bytesLess x.name.toList y.name.toList || x.name.toList == y.name.toList) = false := hleq
                        clear hleq
                        go_wp2_with fail
                        go_quiet (fail)
                        go_wp2_with fail
                        go_roundg (a.funcs.length - (kk + 1))
                        case measure => omega
                        case rel => exact ⟨kk + 1, by omega, by omega, by go_num, below_drewN (BW.out.trans (HB3.out.mono BW.out.size)) _, (show Aside _ from zeros_succ Al.out (by rw [HI.out, HQ.out]; rfl))⟩
                      | false =>
                        rw [hq] at hleq
                        have HQ := Lib.hid hq
                        clear hq
                        have hleq' : (Op.bytesLess x.name.toList y.name.toList || x.name.toList == y.name.toList) = true := hleq
                        clear hleq
                        go_wp2_with fail
                        go_quiet (fail)
                        go_wp2_with fail
                        go_ret
                        exact ⟨ret_int (by rw [← HE.out]; exact (faceErr_funcs H24.out HT0.out (funcsErr_hit hlt Al.out (by rw [HI.out, HQ.out]; rfl) (by decide))).symm), below_drewN (HBR.out.trans (HB3.out.mono HBR.out.size)) _⟩
                    · have h0z : decide ((0 : Int) < (kk : Int)) = false := by simp; omega
                      have HI := Lib.hid (show itemErr Sig.name sigBad a.funcs kk = 0 by
                        have e : kk = 0 := by omega
                        have h := HX.out
                        rw [e] at h ⊢
                        exact itemErr_first h HG.out)
                      go_wp2_with fail
                      go_quiet (fail)
                      go_wp2_with fail
                      go_roundg (a.funcs.length - (kk + 1))
                      case measure => omega
                      case rel => exact ⟨kk + 1, by omega, by omega, by go_num, below_drewN (BW.out.trans (HB3.out.mono BW.out.size)) _, (show Aside _ from zeros_succ Al.out HI.out)⟩
          · have hltz : ¬ (kk : Int) < (a.funcs.length : Int) := by omega
            obtain rfl : kk = a.funcs.length := by omega
            go_wp2_with fail
            go_ret
            exact ⟨ret_int (by rw [← HE.out]; exact (faceErr_funcs H24.out HT0.out (firstErr_none Al.out)).symm), hbw⟩

end Go.Proofs.YtjaladhdnbhliaaGreatDoor
