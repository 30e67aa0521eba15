/- A face as text: the reference's FaceText. -/
import Derived.Test.YtamkgphamffdcaaFaceText
import Derived.Test.YtamkgphamffdcaaOwns
import Derived.Deep.QuietTactic
import Derived.BigQuiet
import Derived.WalkSmall
import Derived.Deep.DeepCutAuto
import Derived.Deep.Light
namespace Go.Proofs.Ytamkgphamffdcaa
open Go.RowKit Go.Shelf

/-- A line of a function, up to its parameters. -/
def sigHead (x : Sig) : ByteArray := ⟨#[102, 117, 110, 99, 32]⟩ ++ x.name ++ ⟨#[40]⟩

set_option maxRecDepth 100000 in
set_option maxHeartbeats 4000000 in
theorem faceText_any (a : Face) (cs : List Value) (F : Foot) (w : World) (hF : ∀ k, F k → k < w.heap.size) (ha : FaceR w F cs a) :
    Calls Try.prog 87 #[.agg cs.toArray] w fun e w' => e = .returned (.tuple #[.string (shownTxt a), .int .i64 (faceErr a)]) ∧ Below w.heap.size w w' := by
  have hc := fun U (hU : Below w.heap.size w U) => faceFault_any a cs F U (foot_up hF hU) (FaceR.stays.later ha hU hF)
  obtain ⟨tv, fv, rfl, ht, hf⟩ := ha
  obtain ⟨A1, c1, rfl, _, _, hl1, _⟩ := ht.form
  obtain ⟨A3, c3, rfl, _, _, hl3, _⟩ := hf.form
  unfold shownTxt
  have hs := fun (h : faceErr a = 0) (k : Nat) => types_small h k
  have hs2 := fun (h : faceErr a = 0) (k : Nat) => funcs_small h k
  have hs3 := fun (h : faceErr a = 0) => (face_rising h).2.2
  obtain ⟨E, hE⟩ : ∃ E, faceErr a = E := ⟨_, rfl⟩
  rw [hE] at hc ⊢
  have HC := Lib.hid hc; have HT := Lib.hid ht; have HFn := Lib.hid hf
  clear hc ht hf
  by_cases h0 : E = 0
  · subst h0
    have hs := hs hE
    have hs2 := hs2 hE
    have hs3 := hs3 hE
    rw [if_pos rfl]
    have HS := Lib.hid hs; have HS2 := Lib.hid hs2; have HS3 := Lib.hid hs3; have HE := Lib.hid hE
    clear hs hs2 hs3 hE
    go_enter Try.func87, Try.ntmps87
    go_upto_region 1 with fail
    have hBa := Box.made w 32 #[.slice A1 a.types.length c1, .slice A3 a.funcs.length c3]
    have hba : Below w.heap.size w (w.alloc (.cells #[.slice A1 a.types.length c1, .slice A3 a.funcs.length c3] 32)) := by go_grown
    have hza : (w.alloc (.cells #[.slice A1 a.types.length c1, .slice A3 a.funcs.length c3] 32)).heap.size = w.heap.size + 1 := by simp
    generalize w.alloc (.cells #[.slice A1 a.types.length c1, .slice A3 a.funcs.length c3] 32) = W1 at hBa hba hza ⊢
    have x0 := hBa.at_ 0 _ rfl
    have x1 := hBa.at_ 1 _ rfl
    go_wp2_with fail
    refine (HC.out _ hba).mono ?_
    rintro e W2 ⟨rfl, hb2⟩
    have hB2 := hBa.later hb2 hBa.lt
    have hbw := hba.trans (hb2.mono hba.size)
    clear x0 x1
    have x0 := hB2.at_ 0 _ rfl
    have x1 := hB2.at_ 1 _ rfl
    have hlo := hB2.lt
    have HB2 := Lib.hid hB2; have HBW := Lib.hid hbw
    clear hB2 hbw
    clear hBa hba hza hb2
    go_wp2_with fail
    go_loopg [5, 6] a.types.length (fun gg s5 s6 wr => ∃ kk : Nat, kk ≤ a.types.length ∧ a.types.length - kk ≤ gg ∧ s6 = .int .i64 kk ∧ s5 = .string (typesTxt (a.types.take kk)) ∧ Aside (Below W2.heap.size W2 wr))
    case atStart => exact ⟨0, Nat.zero_le _, by omega, rfl, rfl, aside (Below.refl _ _)⟩
    case round =>
      obtain ⟨kk, hkk, hg, rfl, rfl, BW⟩ := hrel
      have hBr := HB2.out.later BW.out HB2.out.lt
      clear x0 x1
      have x0 := hBr.at_ 0 _ rfl
      have x1 := hBr.at_ 1 _ rfl
      have hbw := HBW.out.trans (BW.out.mono HBW.out.size)
      clear hBr
      by_cases hlt : kk < a.types.length
      · have hltz : (kk : Int) < (a.types.length : Int) := by omega
        obtain ⟨b1, off, cs, rfl, hbF, hcs, ⟨rfl, hn, hi⟩, hcell⟩ := (HT.out.up KnownR.stays hF hbw).at_ hlt
        have hc0 := hcell 0 _ rfl
        have hc1 := hcell 1 _ rfl
        simp only [Nat.add_zero] at hc0
        have hx := List.getElem?_eq_getElem hlt
        generalize a.types[kk] = x at *
        have hsu := typesTxt_succ hx
        obtain ⟨hz1, hz2⟩ := known_parts (HS3.out.1 x (List.mem_of_getElem? hx))
        have hz3 := HS.out kk
        have HX := Lib.hid hx; have HSU := Lib.hid hsu
        clear hx hsu
        clear hcell hcs hbw
        generalize typesTxt (a.types.take kk) = S at *
        go_wp2_with fail
        go_quiet (fail)
        go_wp2_with fail
        go_roundg (a.types.length - (kk + 1))
        case measure => omega
        case rel => exact ⟨kk + 1, by omega, by omega, by go_num, by rw [HSU.out]; simp only [knownLine, ba_assoc], aside (below_drewN BW.out _)⟩
      · have hltz : ¬ (kk : Int) < (a.types.length : Int) := by omega
        obtain rfl : kk = a.types.length := by omega
        rw [List.take_length]
        have hT0 : typesTxt a.types = typesTxt a.types ++ funcsTxt (a.funcs.take 0) := by rw [List.take_zero, show funcsTxt [] = ⟨#[]⟩ from rfl, ba_app_nil]
        have HT0 := Lib.hid hT0
        clear hT0
        obtain ⟨V, rfl⟩ : ∃ V, V = wr := ⟨_, rfl⟩
        clear hbw
        go_wp2_with fail
        go_loopg [5, 7, 8] a.funcs.length (fun gg s5 s7 _ wr => ∃ kk : Nat, kk ≤ a.funcs.length ∧ a.funcs.length - kk ≤ gg ∧ s7 = .int .i64 kk ∧ s5 = .string (typesTxt a.types ++ funcsTxt (a.funcs.take kk)) ∧ Aside (Below W2.heap.size W2 wr))
        case atStart => exact ⟨0, Nat.zero_le _, by omega, rfl, by rw [← HT0.out], aside BW.out⟩
        case round =>
          clear BW
          obtain ⟨kk, hkk, hg, rfl, rfl, BW⟩ := hrel
          have hBr := HB2.out.later BW.out HB2.out.lt
          clear x0 x1
          have x0 := hBr.at_ 0 _ rfl
          have x1 := hBr.at_ 1 _ rfl
          have hbw := HBW.out.trans (BW.out.mono HBW.out.size)
          clear hBr
          by_cases hlt : kk < a.funcs.length
          · have hltz : (kk : Int) < (a.funcs.length : Int) := by omega
            obtain ⟨b1, off, cs, rfl, hbF, hcs, ⟨pv, rfl, hn, hi, hp⟩, hcell⟩ := (HFn.out.up SigR.stays hF hbw).at_ hlt
            obtain ⟨P1, p1, rfl, _, _, hpl, _⟩ := hp.form
            have hc0 := hcell 0 _ rfl
            have hc1 := hcell 1 _ rfl
            have hc2 := hcell 2 _ rfl
            simp only [Nat.add_zero] at hc0
            have hx := List.getElem?_eq_getElem hlt
            generalize a.funcs[kk] = x at *
            have hsu := funcsTxt_succ hx
            obtain ⟨hz1, hz2, hz4, hz5⟩ := sig_parts (HS3.out.2 x (List.mem_of_getElem? hx))
            have hz3 : (typesTxt a.types ++ funcsTxt (a.funcs.take kk)).size ≤ 200000 := by
              have h1 := HS2.out kk
              have h2 := HS.out a.types.length
              rw [List.take_length] at h2
              rw [ba_app_size]; omega
            have hjs : ∀ k, (joined (x.params.take k)).size ≤ 5000 := fun k => by
              have h1 := joined_size (x.params.take k) (fun y hy => hz5 y (List.mem_of_mem_take hy))
              have h2 : (x.params.take k).length ≤ 8 := by rw [List.length_take]; omega
              have := Nat.mul_le_mul_right 602 h2
              omega
            have HX := Lib.hid hx; have HSU := Lib.hid hsu; have HP := Lib.hid hp; have HZ5 := Lib.hid hz5; have HJS := Lib.hid hjs
            clear hx hsu hp hz5 hjs
            clear hcell hcs hbw
            obtain ⟨S, hS⟩ : ∃ z, (typesTxt a.types ++ funcsTxt (a.funcs.take kk)) = z := ⟨_, rfl⟩
            rw [hS] at hz3 ⊢
            have HSd := Lib.hid hS; clear hS
            go_wp2_with fail
            go_loopg [5, 8] x.params.length (fun gg s5 s8 wv => ∃ mm : Nat, mm ≤ x.params.length ∧ x.params.length - mm ≤ gg ∧ s8 = .int .i64 mm ∧ s5 = .string (S ++ sigHead x ++ joined (x.params.take mm)) ∧ wr = wv)
            case atStart => exact ⟨0, Nat.zero_le _, by omega, rfl, by rw [List.take_zero, joined_nil, ba_app_nil]; simp only [sigHead, ba_assoc], rfl⟩
            case round =>
              obtain ⟨mm, hmm, hg2, rfl, rfl, rfl⟩ := hrel
              have hTs : (S ++ sigHead x ++ joined (x.params.take mm)).size ≤ 300000 := by
                have h1 := HJS.out mm
                simp only [sigHead, ba_app_size, show (⟨#[102, 117, 110, 99, 32]⟩ : ByteArray).size = 5 from rfl, show (⟨#[40]⟩ : ByteArray).size = 1 from rfl]
                omega
              by_cases hlt2 : mm < x.params.length
              · have hltz2 : (mm : Int) < (x.params.length : Int) := by omega
                obtain ⟨b2, off2, cs, rfl, _, hcs, ⟨rfl, _⟩, hcell⟩ := HP.out.at_ hlt2
                have hp0 := hcell 0 _ rfl
                simp only [Nat.mul_one, Nat.add_zero] at hp0
                have hy := List.getElem?_eq_getElem hlt2
                have hy6 := HZ5.out _ (List.mem_of_getElem? hy)
                generalize x.params[mm] = y at *
                have HJ1 := Lib.hid (fun h => joined_take (k := mm) hy h)
                have HJ0 := Lib.hid (fun (h : mm = 0) => (by subst h; exact joined_first hy : joined (x.params.take (mm + 1)) = y))
                obtain ⟨T, hT⟩ : ∃ z, (S ++ sigHead x ++ joined (x.params.take mm)) = z := ⟨_, rfl⟩
                rw [hT] at hTs ⊢
                have HTd := Lib.hid hT; clear hT
                clear hcell hcs hy
                by_cases hm0 : 0 < mm
                · have hm0z : (0 : Int) < (mm : Int) := by omega
                  go_wp2_with fail
                  go_roundg (x.params.length - (mm + 1))
                  case measure => omega
                  case rel => exact ⟨mm + 1, by omega, by omega, by go_num, by rw [HJ1.out hm0, ← HTd.out]; simp only [ba_assoc], rfl⟩
                · have hm0z : ¬ (0 : Int) < (mm : Int) := by omega
                  have hm00 : mm = 0 := by omega
                  have HM := Lib.hid hm00
                  clear hm00
                  go_wp2_with fail
                  go_roundg (x.params.length - (mm + 1))
                  case measure => omega
                  case rel => exact ⟨mm + 1, by omega, by omega, by go_num, by rw [HJ0.out HM.out, ← HTd.out, HM.out, List.take_zero, joined_nil, ba_app_nil], rfl⟩
              · have hltz2 : ¬ (mm : Int) < (x.params.length : Int) := by omega
                obtain rfl : mm = x.params.length := by omega
                rw [List.take_length] at hTs ⊢
                obtain ⟨T, hT⟩ : ∃ z, (S ++ sigHead x ++ joined x.params) = z := ⟨_, rfl⟩
                rw [hT] at hTs ⊢
                have HTd := Lib.hid hT; clear hT
                go_wp2_with fail
                go_roundg (a.funcs.length - (kk + 1))
                case measure => omega
                case rel => exact ⟨kk + 1, by omega, by omega, by go_num, by rw [HSU.out, ← ba_assoc, HSd.out, ← HTd.out]; simp only [sigLine, sigHead, ba_assoc], aside BW.out⟩
          · have hltz : ¬ (kk : Int) < (a.funcs.length : Int) := by omega
            obtain rfl : kk = a.funcs.length := by omega
            rw [List.take_length]
            go_wp2_with fail
            go_ret2
            exact ⟨rfl, hbw⟩
  · have h0n : (E != 0) = true := by simp [h0]
    rw [if_neg h0]
    go_enter Try.func87, Try.ntmps87
    go_upto_region 1 with fail
    have hBa := Box.made w 32 #[.slice A1 a.types.length c1, .slice A3 a.funcs.length c3]
    have hba : Below w.heap.size w (w.alloc (.cells #[.slice A1 a.types.length c1, .slice A3 a.funcs.length c3] 32)) := by go_grown
    have hza : (w.alloc (.cells #[.slice A1 a.types.length c1, .slice A3 a.funcs.length c3] 32)).heap.size = w.heap.size + 1 := by simp
    generalize w.alloc (.cells #[.slice A1 a.types.length c1, .slice A3 a.funcs.length c3] 32) = W1 at hBa hba hza ⊢
    have x0 := hBa.at_ 0 _ rfl
    have x1 := hBa.at_ 1 _ rfl
    go_wp2_with fail
    refine (HC.out _ hba).mono ?_
    rintro e W2 ⟨rfl, hb2⟩
    have hbw := hba.trans (hb2.mono hba.size)
    have HBW := Lib.hid hbw
    clear hbw
    clear hBa hba hza hb2 x0 x1
    go_wp2_with fail
    go_ret2
    exact ⟨rfl, HBW.out⟩

end Go.Proofs.Ytamkgphamffdcaa
