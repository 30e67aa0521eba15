/- Lines, cut into tokens: the reference's TokensOf. -/
import Derived.Test.YtjaladhdnbhliaaGreatDoorTokCutG
namespace Go.Proofs.YtjaladhdnbhliaaGreatDoor
open Go.RowKit Go.Shelf

/-- A new block as a slice of one. -/
theorem one_slice {α : Type} {R : CR α} {by_ : Nat} {w : World} {n : Nat} {t : TypeId} {cs : List Value} {x : α} {F : Foot} (hB : Box w n t cs.toArray) (hr : R w F cs x) (hF : F n) (hb : by_ ≤ 140737488355328) : SliceOf R cs.length by_ w F (.slice (some ⟨n, 0, none⟩) 1 1) [x] := by
  refine ⟨some ⟨n, 0, none⟩, 1, rfl, Nat.le_refl _, by unfold maxLen; decide, by simpa using hb, by simp, fun _ => ⟨n, 0, rfl, hF, fun i y hi => ?_⟩⟩
  cases i with
  | succ i => simp at hi
  | zero =>
    simp only [List.getElem?_cons_zero, Option.some.injEq] at hi
    subst hi
    refine ⟨cs, rfl, hr, fun j u hj => ?_⟩
    rw [Nat.zero_mul, Nat.add_zero, Nat.zero_add]
    exact hB.at_ j u (by simpa using hj)
theorem toks_one (t : Token) : toksErr [t] = tokErr t := by
  unfold toksErr
  rw [if_neg (by simp)]
  by_cases h : tokErr t = 0
  · rw [h]
    exact eachErr_none fun j hj y hy => by
      cases j with
      | zero => simp at hy; subst hy; exact h
      | succ j => simp at hy
  · exact eachErr_hit (l := [t]) (k := 0) (x := t) rfl rfl h fun j hj => absurd hj (Nat.not_lt_zero _)
theorem drop_at {l : List UInt8} {i : Nat} {c : UInt8} {r : List UInt8} (h : l.drop i = c :: r) (q : Nat) : (c :: r)[q]? = l[i + q]? := by rw [← h, List.getElem?_drop]
theorem drop_tail {l : List UInt8} {i : Nat} {c : UInt8} {r : List UInt8} (h : l.drop i = c :: r) : l.drop (i + 1) = r := by rw [← List.drop_drop, h]; rfl
theorem small_in (c : UInt8) : inB (c.toNat : Int) 97 122 = smallB c := by unfold inB smallB; rw [Bool.eq_iff_iff]; simp; omega
theorem digit_in (c : UInt8) : inB (c.toNat : Int) 48 57 = digitB c := by unfold inB digitB; rw [Bool.eq_iff_iff]; simp; omega

set_option maxRecDepth 100000 in
set_option maxHeartbeats 16000000 in
theorem tokensOf_any (s : ByteArray) (w : World) : Calls Tryz.prog 84 #[.string s] w (CutGives (cutR s) w) := by
  obtain ⟨E, hE⟩ : ∃ z, cutR s = z := ⟨_, rfl⟩
  rw [hE]
  by_cases h15 : 1500 < s.size
  · have h15z : (1500 : Int) < (s.size : Int) := by omega
    obtain rfl : E = ([], 1) := by rw [← hE, cutR_size h15]
    clear hE
    go_enter Tryz.func84, Tryz.ntmps84
    go_wp2_with fail
    go_ret2
    exact ⟨_, rfl, Below.refl _ _, SliceOf.nil_⟩
  have h15z : ¬ (1500 : Int) < (s.size : Int) := by omega
  obtain ⟨D, hD⟩ : ∃ z, s.data.toList = z := ⟨_, rfl⟩
  have hsl : D.length = s.size := by rw [← hD]; rfl
  obtain ⟨T0, hT0⟩ : ∃ z, cutL (trimL D) = z := ⟨_, rfl⟩
  have he0 : T0 = none → E = ([], 4) := fun h => by rw [← hE]; exact cutR_none (by omega) (by rw [hD, hT0, h])
  have he1 : ∀ L : List Token, T0 = some L → 200 < L.length → E = ([], 1) := fun L h h2 => by rw [← hE]; exact cutR_many (by omega) (by rw [hD, hT0, h]) h2
  have he2 : ∀ L : List Token, T0 = some L → L.length ≤ 200 → E = (L, 0) := fun L h h2 => by rw [← hE]; exact cutR_fine (by omega) (by rw [hD, hT0, h]) h2
  have hat := fun (k : Nat) (h : k < s.size) => str_at? s k h
  rw [hD] at hat
  have hxt : ∀ i j, s.extract i j = lit ((D.drop i).take (j - i)) := fun i j => by rw [ext_lit, hD]
  have HT0 := Lib.hid hT0; have HE0 := Lib.hid he0; have HE1 := Lib.hid he1; have HE2 := Lib.hid he2; have HAT := Lib.hid hat; have HXT := Lib.hid hxt; have HSL := Lib.hid hsl
  clear hT0 he0 he1 he2 hat hxt hsl
  clear hE hD
  go_enter Tryz.func84, Tryz.ntmps84
  go_wp2_with fail
  go_loopg [4, 5, 6, 7] s.size (fun gg s4 s5 _ _ wr => ∃ (i c : Nat) (A : Option Addr) (L : List Token), i ≤ s.size ∧ s.size - i ≤ gg ∧ s5 = .int .i64 i ∧ s4 = .slice A L.length c ∧ L.length ≤ i ∧ Aside (T0 = (cutL (trimL (D.drop i))).map (L ++ ·)) ∧
    Aside (Owns TokenR 2 182 w.heap.size wr none_ (.slice A L.length c) L) ∧ Aside (Below w.heap.size w wr))
  case atStart => exact ⟨0, 0, none, [], Nat.zero_le _, by omega, rfl, rfl, Nat.le_refl _, aside (by rw [← HT0.out]; simp), aside Owns.nil_, aside (Below.refl _ _)⟩
  case round =>
    obtain ⟨i, c', A, L, hi, hg, rfl, rfl, hle, hTT, hO, BW⟩ := hrel
    obtain ⟨wo, rfl⟩ : ∃ W, W = wr := ⟨_, rfl⟩
    by_cases hlt : i < s.size
    case neg =>
      have hltz : ¬ (i : Int) < (s.size : Int) := by omega
      obtain rfl : i = s.size := by omega
      have htt : T0 = some L := by rw [hTT.out, List.drop_of_length_le (by have := HSL.out; omega), show trimL [] = [] from rfl, cutL_nil]; simp
      have he1 := HE1.out L htt
      have he2 := HE2.out L htt
      have hsl := hO.out.slice TokenR.stays (by_ := 24) (F' := fresh w.heap.size wo.heap.size) (fun k hk => hk.elim) (fun k h1 h2 => ⟨h1, h2⟩) (by omega) (by omega)
      by_cases h2 : 200 < L.length
      · have h2z : (200 : Int) < (L.length : Int) := by omega
        obtain rfl := he1 h2
        clear he1 he2 hsl htt hO hTT
        go_wp2_with fail
        go_ret2
        exact ⟨_, rfl, BW.out, SliceOf.nil_⟩
      · have h2z : ¬ (200 : Int) < (L.length : Int) := by omega
        obtain rfl := he2 (by omega)
        have HSLx := Lib.hid hsl
        clear he1 he2 htt hO hTT hsl
        go_wp2_with fail
        go_ret2
        exact ⟨_, rfl, BW.out, HSLx.out⟩
    case pos =>
    have hltz : (i : Int) < (s.size : Int) := by omega
    have hb : (s[i].toNat : Int) < 256 := by have := s[i].toNat_lt; omega
    obtain ⟨c, r, hcr⟩ : ∃ c r, D.drop i = c :: r := by
      cases h : D.drop i with
      | nil =>
        have h1 := congrArg List.length h
        rw [List.length_drop] at h1
        have := HSL.out
        simp at h1
        omega
      | cons c r => exact ⟨c, r, rfl⟩
    have hcx : s[i] = c := by
      have h1 := drop_at hcr 0
      rw [Nat.add_zero, HAT.out i hlt] at h1
      simpa using h1.symm
    have hrl : r.length + 1 + i = s.size := by
      have h1 := congrArg List.length hcr
      rw [List.length_drop, List.length_cons] at h1
      have := HSL.out
      omega
    have htt := hTT.out
    rw [hcr] at htt
    have HCR := Lib.hid hcr; have HCX := Lib.hid hcx; have HTC := Lib.hid htt; have HRL := Lib.hid hrl
    clear hcr hcx htt hrl
    clear hTT
    by_cases h32 : c = 32
    · subst h32
      have hq1 : ((s[i].toNat : Int) == 32) = true := by rw [HCX.out]; rfl
      go_wp2_with fail
      go_roundg (s.size - (i + 1))
      case measure => omega
      case rel => exact ⟨i + 1, c', A, L, by omega, by omega, by go_num, rfl, by omega, aside (by rw [drop_tail HCR.out, HTC.out, trim_blank]), hO, BW⟩
    have hq1 : ((s[i].toNat : Int) == 32) = false := by
      rw [HCX.out, beq_eq_false_iff_ne]
      intro e
      exact h32 (UInt8.toNat_inj.1 (by have h2 : (32 : UInt8).toNat = 32 := rfl; omega))
    have htt := HTC.out
    rw [trim_other h32, cutL_step c r] at htt
    have hls := first_less c r
    obtain ⟨⟨⟨K, TX⟩, RL, OK⟩, hR⟩ : ∃ z, tokFirst (c :: r) = z := ⟨_, rfl⟩
    rw [hR] at htt hls
    dsimp only at htt hls
    have hfk := first_ok c r
    rw [hR] at hfk
    dsimp only at hfk
    have hx1 : s.extract i (i + 1) = lit [c] := by rw [HXT.out, HCR.out, show i + 1 - i = 1 by omega]; rfl
    have hw1 : IntKind.i64.wrap ((i : Int) + 1) = (i : Int) + 1 := IntWalk.i64_in _ (by omega)
    have HTT := Lib.hid htt; have HR := Lib.hid hR; have HFK := Lib.hid hfk; have HX1 := Lib.hid hx1; have HH32 := Lib.hid h32
    clear htt hR hfk hx1 h32
    clear HTC hw1
    have hi1z : (i : Int) + 1 ≤ (s.size : Int) := by omega
    go_upto_region 10 with fail
    have hBt := Box.made wo 182 #[.int .i64 4, .string (s.extract i (i + 1))]
    have hbt : Below wo.heap.size wo (wo.alloc (.cells #[.int .i64 4, .string (s.extract i (i + 1))] 182)) := by go_grown
    have hzt : (wo.alloc (.cells #[.int .i64 4, .string (s.extract i (i + 1))] 182)).heap.size = wo.heap.size + 1 := by simp
    generalize wo.alloc (.cells #[.int .i64 4, .string (s.extract i (i + 1))] 182) = W1 at hBt hbt hzt ⊢
    have hlB := hBt.lt
    have hrat : ∀ k, i + 1 ≤ k → r[k - (i + 1)]? = D[k]? := fun k hk => by rw [← drop_tail HCR.out, List.getElem?_drop, show i + 1 + (k - (i + 1)) = k by omega]
    have hcat : ∀ k, i ≤ k → (c :: r)[k - i]? = D[k]? := fun k hk => by rw [drop_at HCR.out, show i + (k - i) = k by omega]
    have HB := Lib.hid hBt; have Hb := Lib.hid hbt; have HRAT := Lib.hid hrat; have HCAT := Lib.hid hcat
    clear hBt hbt hrat hcat
    clear hzt
    obtain ⟨z34, hz34⟩ : ∃ z, ((s[i].toNat : Int) == 34) = z := ⟨_, rfl⟩
    have hz34c : z34 = decide (c = 34) := by
      rw [← hz34, HCX.out, Bool.eq_iff_iff, beq_iff_eq, decide_eq_true_eq]
      constructor
      · intro e; exact UInt8.toNat_inj.1 (by have h2 : (34 : UInt8).toNat = 34 := rfl; omega)
      · intro e; rw [e]; rfl
    have HZ34 := Lib.hid hz34c
    clear hz34c
    go_upto_if 31 with (fail)
    clear hz34
    go_cut [6] (fun s6 wc => ∃ k : Nat, s6 = .int .i64 k ∧ k ≤ s.size ∧ i < k ∧ Aside (OK = tokOk ⟨K, TX⟩) ∧ Aside (1 ≤ K ∧ K ≤ 4) ∧ Aside (RL = D.drop k) ∧ Aside (Box wc wo.heap.size 182 #[.int .i64 K, .string TX]) ∧ Aside (Below wo.heap.size wo wc))
    case first =>
      cases z34 with
      | true =>
        obtain rfl : c = 34 := by have := HZ34.out; simpa using this.symm
        have hez := HR.out.symm.trans (first_quote r)
        simp only [Prod.mk.injEq, Token.mk.injEq] at hez
        obtain ⟨⟨hK, hTX⟩, hRL, hOK⟩ := hez
        subst hK
        have HTX := Lib.hid hTX; have HRLX := Lib.hid hRL; have HOK := Lib.hid hOK
        clear hTX hRL hOK
        go_wp2_with fail
        go_loopg [6] s.size (fun gg s6 wr => ∃ k : Nat, i + 1 ≤ k ∧ k ≤ s.size ∧ s.size - k ≤ gg ∧ s6 = .int .i64 k ∧ wr = W1 ∧ Aside (∀ j, j < k - (i + 1) → ∀ x, r[j]? = some x → notQ x = true))
        case atStart => exact ⟨i + 1, Nat.le_refl _, by omega, by omega, by go_num, rfl, aside (fun j hj => by omega)⟩
        case round =>
          obtain ⟨k, hk1, hk2, hg2, rfl, rfl, A1⟩ := hrel
          have hk0 : k - (i + 1) ≤ r.length := by have := HRL.out; omega
          by_cases hlt2 : k < s.size
          · have hltz2 : (k : Int) < (s.size : Int) := by omega
            have hb2 : (s[k].toNat : Int) < 256 := by have := s[k].toNat_lt; omega
            have hx := HRAT.out k hk1
            rw [HAT.out k hlt2] at hx
            obtain ⟨z, hz⟩ : ∃ z, notQ s[k] = z := ⟨_, rfl⟩
            have hzz : ((s[k].toNat : Int) == 34) = !z := by
              rw [← hz]
              unfold notQ
              rw [Bool.not_not, Bool.eq_iff_iff, beq_iff_eq, beq_iff_eq]
              constructor
              · intro e; exact UInt8.toNat_inj.1 (by have h2 : (34 : UInt8).toNat = 34 := rfl; omega)
              · intro e; rw [e]; rfl
            have hzn : ((s[k].toNat : Int) != 34) = z := by simp [bne, hzz]
            have HX := Lib.hid hx; have HZ := Lib.hid hz
            clear hx hz
            cases z with
            | true =>
              have hgo : ∀ j, j < k + 1 - (i + 1) → ∀ x, r[j]? = some x → notQ x = true := by
                intro j hj x hx
                by_cases e : j = k - (i + 1)
                · subst e; rw [HX.out] at hx; injection hx with hx; rw [← hx]; exact HZ.out
                · exact A1.out j (by omega) x hx
              have HGO := Lib.hid hgo
              clear hgo
              simp only [Bool.not_true] at hzz
              go_wp2_with fail
              go_roundg (s.size - (k + 1))
              case measure => omega
              case rel => exact ⟨k + 1, by omega, by omega, by omega, by go_num, rfl, aside HGO.out⟩
            | false =>
              have hw := while_of (p := notQ) (l := r) (k := k - (i + 1)) hk0 A1.out (.inr ⟨_, HX.out, HZ.out⟩)
              have hkz : ((k : Int) == (s.size : Int)) = false := by simp; omega
              have htx : TX = s.extract (i + 1) k := by rw [HTX.out, hw.1, HXT.out, drop_tail HCR.out]
              have hrl : RL = D.drop (k + 1) := by rw [HRLX.out, hw.2, List.drop_drop, ← drop_tail HCR.out, List.drop_drop, show i + 1 + (k - (i + 1) + 1) = k + 1 by omega]
              have hok : OK = tokOk ⟨3, TX⟩ := by
                rw [HOK.out, HTX.out, hw.2]
                have hne : (r.drop (k - (i + 1))).isEmpty = false := by
                  have h1 := (List.getElem?_eq_some_iff.1 HX.out).1
                  rw [Bool.eq_false_iff]
                  intro e
                  have h2 := congrArg List.length (List.isEmpty_iff.1 e)
                  rw [List.length_drop, List.length_nil] at h2
                  omega
                rw [hne]; rfl
              have hB1 := HB.out
              have x0 := hB1.at_ 0 _ rfl
              have x1 := hB1.at_ 1 _ rfl
              have f0 := hB1.free 0
              have f1 := hB1.free 1
              have hkz3 : (i : Int) + 1 ≤ (k : Int) := by omega
              simp only [Bool.not_false] at hzz
              subst htx
              have HRL2 := Lib.hid hrl; have HOK2 := Lib.hid hok
              clear hrl hok
              clear hw hB1 HTX
              go_wp2_with fail
              go_meet
              refine ⟨k + 1, by go_num, by omega, by omega, aside HOK2.out, aside ⟨by decide, by decide⟩, aside HRL2.out, aside ?_, aside ((Hb.out.setCell (p := ⟨wo.heap.size, 0, none⟩) (Nat.le_refl _) _).setCell (p := ⟨wo.heap.size, 1, none⟩) (Nat.le_refl _) _)⟩
              have h := (HB.out.put 0 (.int .i64 3)).put 1 (.string (s.extract (i + 1) k))
              simpa using h
          · have hltz2 : ¬ (k : Int) < (s.size : Int) := by omega
            obtain rfl : k = s.size := by omega
            have hw := while_of (p := notQ) (l := r) (k := s.size - (i + 1)) hk0 A1.out (.inl (by have := HRL.out; omega))
            have hn : T0 = none := by
              rw [HTT.out, HOK.out, hw.2, List.drop_of_length_le (by have := HRL.out; omega)]
              rfl
            obtain rfl := HE0.out hn
            have hbx := below_step BW.out Hb.out
            have HBX := Lib.hid hbx
            clear hbx
            clear hn hw
            go_wp2_with fail
            go_ret2
            exact ⟨_, rfl, HBX.out, SliceOf.nil_⟩
      | false =>
        have h34 : c ≠ 34 := by have := HZ34.out; simpa using this.symm
        obtain ⟨zs, hzs⟩ : ∃ z, smallB c = z := ⟨_, rfl⟩
        obtain ⟨zd, hzd⟩ : ∃ z, digitB c = z := ⟨_, rfl⟩
        have hin1 := fun U : World => in_any (s[i].toNat : Int) 97 122 U
        have hin2 := fun U : World => in_any (s[i].toNat : Int) 48 57 U
        rw [HCX.out, small_in, hzs, ← HCX.out] at hin1
        rw [HCX.out, digit_in, hzd, ← HCX.out] at hin2
        have hsI : zs = true → 97 ≤ (s[i].toNat : Int) := fun e => by rw [← hzs] at e; rw [HCX.out]; unfold smallB at e; simp at e; omega
        have hdI : zd = true → (s[i].toNat : Int) ≤ 57 := fun e => by rw [← hzd] at e; rw [HCX.out]; unfold digitB at e; simp at e; omega
        have hwdc : wdB c = (zs || zd) := by unfold wdB; rw [hzs, hzd]
        have HI1 := Lib.hid hin1; have HI2 := Lib.hid hin2; have HZS := Lib.hid hzs; have HZD := Lib.hid hzd; have HSI := Lib.hid hsI; have HDI := Lib.hid hdI; have HWDC := Lib.hid hwdc; have HN34 := Lib.hid h34
        clear hin1 hin2 hzs hzd hsI hdI hwdc h34
        by_cases hzz : (zs || zd) = true
        case neg =>
          obtain ⟨rfl, rfl⟩ : zs = false ∧ zd = false := by simpa using hzz
          have hez := HR.out.symm.trans (first_sign r HN34.out HZS.out HZD.out)
          simp only [Prod.mk.injEq, Token.mk.injEq] at hez
          obtain ⟨⟨hK, hTX⟩, hRL, hOK⟩ := hez
          have htx : TX = s.extract i (i + 1) := by rw [hTX, HX1.out]
          have hok : OK = tokOk ⟨K, TX⟩ := by rw [hOK, hK, hTX]; rfl
          have hrl : RL = D.drop (i + 1) := by rw [hRL, drop_tail HCR.out]
          have hkk : 1 ≤ K ∧ K ≤ 4 := by omega
          have hBx : Box W1 wo.heap.size 182 #[.int .i64 K, .string TX] := by rw [hK, htx]; exact HB.out
          have HOK := Lib.hid hok; have HRL2 := Lib.hid hrl; have HKK := Lib.hid hkk; have HBX := Lib.hid hBx
          clear hok hrl hkk hBx
          clear hzz hK hTX hRL hOK htx
          go_wp2_with (first | (go_at_call 139; (with_reducible refine (HI1.out _).mono ?_); rintro e w' ⟨rfl, rfl⟩) | (go_at_call 139; (with_reducible refine (HI2.out _).mono ?_); rintro e w' ⟨rfl, rfl⟩))
          go_meet
          exact ⟨i + 1, by go_num, by omega, by omega, aside HOK.out, aside HKK.out, aside HRL2.out, aside HBX.out, aside Hb.out⟩
        case pos =>
        cases zs with
        | true =>
          clear hzz
          have hwc : wdB c = true := by rw [HWDC.out]; rfl
          have HWC := Lib.hid hwc
          clear hwc
          go_wp2_with (go_at_call 139; (with_reducible refine (HI1.out _).mono ?_); rintro e w' ⟨rfl, rfl⟩)
          go_loopg [6] s.size (fun gg s6 wr => ∃ k : Nat, i + 1 ≤ k ∧ k ≤ s.size ∧ s.size - k ≤ gg ∧ s6 = .int .i64 k ∧ wr = W1 ∧ Aside (∀ j, j < k - i → ∀ x, (c :: r)[j]? = some x → wdB x = true))
          case atStart =>
            refine ⟨i + 1, Nat.le_refl _, by omega, by omega, by go_num, rfl, aside ?_⟩
            intro j hj x hx
            obtain rfl : j = 0 := by omega
            simp only [List.getElem?_cons_zero, Option.some.injEq] at hx
            rw [← hx]; exact HWC.out
          case round =>
            obtain ⟨k, hk1, hk2, hg2, rfl, rfl, A1⟩ := hrel
            have hk0 : k - i ≤ (c :: r).length := by rw [List.length_cons]; have := HRL.out; omega
            by_cases hlt2 : k < s.size
            · have hltz2 : (k : Int) < (s.size : Int) := by omega
              have hb2 : (s[k].toNat : Int) < 256 := by have := s[k].toNat_lt; omega
              have hx := HCAT.out k (by omega)
              rw [HAT.out k hlt2] at hx
              have hin1 := fun U : World => in_any (s[k].toNat : Int) 97 122 U
              have hin2 := fun U : World => in_any (s[k].toNat : Int) 48 57 U
              rw [small_in] at hin1
              rw [digit_in] at hin2
              obtain ⟨ys, hys⟩ : ∃ z, smallB s[k] = z := ⟨_, rfl⟩
              obtain ⟨yd, hyd⟩ : ∃ z, digitB s[k] = z := ⟨_, rfl⟩
              have hwd : wdB s[k] = (ys || yd) := by unfold wdB; rw [hys, hyd]
              rw [hys] at hin1
              rw [hyd] at hin2
              have HX := Lib.hid hx; have HJ1 := Lib.hid hin1; have HJ2 := Lib.hid hin2; have HWD := Lib.hid hwd
              clear hx hin1 hin2 hwd
              clear hys hyd
              by_cases hyy : (ys || yd) = true
              · have hgo : ∀ j, j < k + 1 - i → ∀ x, (c :: r)[j]? = some x → wdB x = true := by
                  intro j hj x hx
                  by_cases e : j = k - i
                  · subst e; rw [HX.out] at hx; injection hx with hx; rw [← hx, HWD.out]; exact hyy
                  · exact A1.out j (by omega) x hx
                have HGO := Lib.hid hgo
                clear hgo
                cases ys with
                | true =>
                  clear hyy
                  go_wp2_with (go_at_call 139; (with_reducible refine (HJ1.out _).mono ?_); rintro e w' ⟨rfl, rfl⟩)
                  go_roundg (s.size - (k + 1))
                  case measure => omega
                  case rel => exact ⟨k + 1, by omega, by omega, by omega, by go_num, rfl, aside HGO.out⟩
                | false =>
                  cases yd with
                  | false => cases hyy
                  | true =>
                    clear hyy
                    go_wp2_with (first
                        | (go_at_call 139; (with_reducible refine (HJ1.out _).mono ?_); rintro e w' ⟨rfl, rfl⟩)
                        | (go_at_call 139; (with_reducible refine (HJ2.out _).mono ?_); rintro e w' ⟨rfl, rfl⟩))
                    go_roundg (s.size - (k + 1))
                    case measure => omega
                    case rel => exact ⟨k + 1, by omega, by omega, by omega, by go_num, rfl, aside HGO.out⟩
              · obtain ⟨rfl, rfl⟩ : ys = false ∧ yd = false := by simpa using hyy
                have hw := while_of (p := wdB) (l := c :: r) (k := k - i) hk0 A1.out (.inr ⟨_, HX.out, HWD.out⟩)
                clear hyy
                have hkz3 : (i : Int) ≤ (k : Int) := by omega
                have hkz4 : (k : Int) ≤ (s.size : Int) := by omega
                have htx2 : lit ((c :: r).takeWhile wdB) = s.extract i (k) := by rw [hw.1, HXT.out, HCR.out]
                have hrl2 : (c :: r).dropWhile wdB = D.drop (k) := by rw [hw.2, ← HCR.out, List.drop_drop, show i + (k - i) = k by omega]
                have hB1 := HB.out
                have x0 := hB1.at_ 0 _ rfl
                have x1 := hB1.at_ 1 _ rfl
                have f0 := hB1.free 0
                have f1 := hB1.free 1
                have hez := HR.out.symm.trans (first_small r HN34.out HZS.out)
                rw [htx2, hrl2] at hez
                simp only [Prod.mk.injEq, Token.mk.injEq] at hez
                obtain ⟨⟨hK, hTX⟩, hRL, hOK⟩ := hez
                have hok : OK = tokOk ⟨K, TX⟩ := by rw [hOK, hK, hTX]; rfl
                have hkk : 1 ≤ K ∧ K ≤ 4 := by omega
                have h97 := HSI.out (by first | rfl | trivial)
                subst hK
                subst hTX
                have HOK := Lib.hid hok; have HRL2 := Lib.hid hRL; have HKK := Lib.hid hkk
                clear hok hRL hkk
                clear hOK hB1 htx2 hrl2 hw
                go_wp2_with (first
                          | (go_at_call 139; (with_reducible refine (HJ1.out _).mono ?_); rintro e w' ⟨rfl, rfl⟩)
                          | (go_at_call 139; (with_reducible refine (HJ2.out _).mono ?_); rintro e w' ⟨rfl, rfl⟩))
                go_meet
                refine ⟨k, rfl, by omega, by omega, aside HOK.out, aside HKK.out, aside HRL2.out, aside ?_, aside ((Hb.out.setCell (p := ⟨wo.heap.size, 0, none⟩) (Nat.le_refl _) _).setCell (p := ⟨wo.heap.size, 1, none⟩) (Nat.le_refl _) _)⟩
                have h := (HB.out.put 0 (.int .i64 1)).put 1 (.string (s.extract i k))
                simpa using h
            · have hltz2 : ¬ (k : Int) < (s.size : Int) := by omega
              obtain rfl : k = s.size := by omega
              have hw := while_of (p := wdB) (l := c :: r) (k := s.size - i) hk0 A1.out (.inl (by rw [List.length_cons]; have := HRL.out; omega))
              have hkz3 : (i : Int) ≤ (s.size : Int) := by omega
              have hkz4 : (s.size : Int) ≤ (s.size : Int) := by omega
              have htx2 : lit ((c :: r).takeWhile wdB) = s.extract i (s.size) := by rw [hw.1, HXT.out, HCR.out]
              have hrl2 : (c :: r).dropWhile wdB = D.drop (s.size) := by rw [hw.2, ← HCR.out, List.drop_drop, show i + (s.size - i) = s.size by omega]
              have hB1 := HB.out
              have x0 := hB1.at_ 0 _ rfl
              have x1 := hB1.at_ 1 _ rfl
              have f0 := hB1.free 0
              have f1 := hB1.free 1
              have hez := HR.out.symm.trans (first_small r HN34.out HZS.out)
              rw [htx2, hrl2] at hez
              simp only [Prod.mk.injEq, Token.mk.injEq] at hez
              obtain ⟨⟨hK, hTX⟩, hRL, hOK⟩ := hez
              have hok : OK = tokOk ⟨K, TX⟩ := by rw [hOK, hK, hTX]; rfl
              have hkk : 1 ≤ K ∧ K ≤ 4 := by omega
              have h97 := HSI.out (by first | rfl | trivial)
              subst hK
              subst hTX
              have HOK := Lib.hid hok; have HRL2 := Lib.hid hRL; have HKK := Lib.hid hkk
              clear hok hRL hkk
              clear hOK hB1 htx2 hrl2 hw
              go_wp2_with fail
              go_meet
              refine ⟨s.size, rfl, by omega, by omega, aside HOK.out, aside HKK.out, aside HRL2.out, aside ?_, aside ((Hb.out.setCell (p := ⟨wo.heap.size, 0, none⟩) (Nat.le_refl _) _).setCell (p := ⟨wo.heap.size, 1, none⟩) (Nat.le_refl _) _)⟩
              have h := (HB.out.put 0 (.int .i64 1)).put 1 (.string (s.extract i s.size))
              simpa using h
        | false =>
          obtain rfl : zd = true := by simpa using hzz
          clear hzz
          have hwc : wdB c = true := by rw [HWDC.out]; rfl
          have HWC := Lib.hid hwc
          clear hwc
          go_wp2_with (first | (go_at_call 139; (with_reducible refine (HI1.out _).mono ?_); rintro e w' ⟨rfl, rfl⟩) | (go_at_call 139; (with_reducible refine (HI2.out _).mono ?_); rintro e w' ⟨rfl, rfl⟩))
          go_loopg [6] s.size (fun gg s6 wr => ∃ k : Nat, i + 1 ≤ k ∧ k ≤ s.size ∧ s.size - k ≤ gg ∧ s6 = .int .i64 k ∧ wr = W1 ∧ Aside (∀ j, j < k - i → ∀ x, (c :: r)[j]? = some x → wdB x = true))
          case atStart =>
            refine ⟨i + 1, Nat.le_refl _, by omega, by omega, by go_num, rfl, aside ?_⟩
            intro j hj x hx
            obtain rfl : j = 0 := by omega
            simp only [List.getElem?_cons_zero, Option.some.injEq] at hx
            rw [← hx]; exact HWC.out
          case round =>
            obtain ⟨k, hk1, hk2, hg2, rfl, rfl, A1⟩ := hrel
            have hk0 : k - i ≤ (c :: r).length := by rw [List.length_cons]; have := HRL.out; omega
            by_cases hlt2 : k < s.size
            · have hltz2 : (k : Int) < (s.size : Int) := by omega
              have hb2 : (s[k].toNat : Int) < 256 := by have := s[k].toNat_lt; omega
              have hx := HCAT.out k (by omega)
              rw [HAT.out k hlt2] at hx
              have hin1 := fun U : World => in_any (s[k].toNat : Int) 97 122 U
              have hin2 := fun U : World => in_any (s[k].toNat : Int) 48 57 U
              rw [small_in] at hin1
              rw [digit_in] at hin2
              obtain ⟨ys, hys⟩ : ∃ z, smallB s[k] = z := ⟨_, rfl⟩
              obtain ⟨yd, hyd⟩ : ∃ z, digitB s[k] = z := ⟨_, rfl⟩
              have hwd : wdB s[k] = (ys || yd) := by unfold wdB; rw [hys, hyd]
              rw [hys] at hin1
              rw [hyd] at hin2
              have HX := Lib.hid hx; have HJ1 := Lib.hid hin1; have HJ2 := Lib.hid hin2; have HWD := Lib.hid hwd
              clear hx hin1 hin2 hwd
              clear hys hyd
              by_cases hyy : (ys || yd) = true
              · have hgo : ∀ j, j < k + 1 - i → ∀ x, (c :: r)[j]? = some x → wdB x = true := by
                  intro j hj x hx
                  by_cases e : j = k - i
                  · subst e; rw [HX.out] at hx; injection hx with hx; rw [← hx, HWD.out]; exact hyy
                  · exact A1.out j (by omega) x hx
                have HGO := Lib.hid hgo
                clear hgo
                cases ys with
                | true =>
                  clear hyy
                  go_wp2_with (go_at_call 139; (with_reducible refine (HJ1.out _).mono ?_); rintro e w' ⟨rfl, rfl⟩)
                  go_roundg (s.size - (k + 1))
                  case measure => omega
                  case rel => exact ⟨k + 1, by omega, by omega, by omega, by go_num, rfl, aside HGO.out⟩
                | false =>
                  cases yd with
                  | false => cases hyy
                  | true =>
                    clear hyy
                    go_wp2_with (first
                        | (go_at_call 139; (with_reducible refine (HJ1.out _).mono ?_); rintro e w' ⟨rfl, rfl⟩)
                        | (go_at_call 139; (with_reducible refine (HJ2.out _).mono ?_); rintro e w' ⟨rfl, rfl⟩))
                    go_roundg (s.size - (k + 1))
                    case measure => omega
                    case rel => exact ⟨k + 1, by omega, by omega, by omega, by go_num, rfl, aside HGO.out⟩
              · obtain ⟨rfl, rfl⟩ : ys = false ∧ yd = false := by simpa using hyy
                have hw := while_of (p := wdB) (l := c :: r) (k := k - i) hk0 A1.out (.inr ⟨_, HX.out, HWD.out⟩)
                clear hyy
                have hkz3 : (i : Int) ≤ (k : Int) := by omega
                have hkz4 : (k : Int) ≤ (s.size : Int) := by omega
                have htx2 : lit ((c :: r).takeWhile wdB) = s.extract i (k) := by rw [hw.1, HXT.out, HCR.out]
                have hrl2 : (c :: r).dropWhile wdB = D.drop (k) := by rw [hw.2, ← HCR.out, List.drop_drop, show i + (k - i) = k by omega]
                have hB1 := HB.out
                have x0 := hB1.at_ 0 _ rfl
                have x1 := hB1.at_ 1 _ rfl
                have f0 := hB1.free 0
                have f1 := hB1.free 1
                have hez := HR.out.symm.trans (first_digit r HN34.out HZS.out HZD.out)
                rw [htx2, hrl2] at hez
                simp only [Prod.mk.injEq, Token.mk.injEq] at hez
                obtain ⟨⟨hK, hTX⟩, hRL, hOK⟩ := hez
                have hok : OK = tokOk ⟨K, TX⟩ := by rw [hOK, hK, hTX]; rfl
                have hkk : 1 ≤ K ∧ K ≤ 4 := by omega
                have h57 := HDI.out (by first | rfl | trivial)
                subst hK
                subst hTX
                have HOK := Lib.hid hok; have HRL2 := Lib.hid hRL; have HKK := Lib.hid hkk
                clear hok hRL hkk
                clear hOK hB1 htx2 hrl2 hw
                go_wp2_with (first
                          | (go_at_call 139; (with_reducible refine (HJ1.out _).mono ?_); rintro e w' ⟨rfl, rfl⟩)
                          | (go_at_call 139; (with_reducible refine (HJ2.out _).mono ?_); rintro e w' ⟨rfl, rfl⟩))
                go_meet
                refine ⟨k, rfl, by omega, by omega, aside HOK.out, aside HKK.out, aside HRL2.out, aside ?_, aside (((Hb.out.setCell (p := ⟨wo.heap.size, 0, none⟩) (Nat.le_refl _) _).setCell (p := ⟨wo.heap.size, 1, none⟩) (Nat.le_refl _) _).setCell (p := ⟨wo.heap.size, 0, none⟩) (Nat.le_refl _) _)⟩
                have h := ((HB.out.put 0 (.int .i64 1)).put 1 (.string (s.extract i k))).put 0 (.int .i64 2)
                simpa using h
            · have hltz2 : ¬ (k : Int) < (s.size : Int) := by omega
              obtain rfl : k = s.size := by omega
              have hw := while_of (p := wdB) (l := c :: r) (k := s.size - i) hk0 A1.out (.inl (by rw [List.length_cons]; have := HRL.out; omega))
              have hkz3 : (i : Int) ≤ (s.size : Int) := by omega
              have hkz4 : (s.size : Int) ≤ (s.size : Int) := by omega
              have htx2 : lit ((c :: r).takeWhile wdB) = s.extract i (s.size) := by rw [hw.1, HXT.out, HCR.out]
              have hrl2 : (c :: r).dropWhile wdB = D.drop (s.size) := by rw [hw.2, ← HCR.out, List.drop_drop, show i + (s.size - i) = s.size by omega]
              have hB1 := HB.out
              have x0 := hB1.at_ 0 _ rfl
              have x1 := hB1.at_ 1 _ rfl
              have f0 := hB1.free 0
              have f1 := hB1.free 1
              have hez := HR.out.symm.trans (first_digit r HN34.out HZS.out HZD.out)
              rw [htx2, hrl2] at hez
              simp only [Prod.mk.injEq, Token.mk.injEq] at hez
              obtain ⟨⟨hK, hTX⟩, hRL, hOK⟩ := hez
              have hok : OK = tokOk ⟨K, TX⟩ := by rw [hOK, hK, hTX]; rfl
              have hkk : 1 ≤ K ∧ K ≤ 4 := by omega
              have h57 := HDI.out (by first | rfl | trivial)
              subst hK
              subst hTX
              have HOK := Lib.hid hok; have HRL2 := Lib.hid hRL; have HKK := Lib.hid hkk
              clear hok hRL hkk
              clear hOK hB1 htx2 hrl2 hw
              go_wp2_with fail
              go_meet
              refine ⟨s.size, rfl, by omega, by omega, aside HOK.out, aside HKK.out, aside HRL2.out, aside ?_, aside (((Hb.out.setCell (p := ⟨wo.heap.size, 0, none⟩) (Nat.le_refl _) _).setCell (p := ⟨wo.heap.size, 1, none⟩) (Nat.le_refl _) _).setCell (p := ⟨wo.heap.size, 0, none⟩) (Nat.le_refl _) _)⟩
              have h := ((HB.out.put 0 (.int .i64 1)).put 1 (.string (s.extract i s.size))).put 0 (.int .i64 2)
              simpa using h
    case rest =>
    obtain ⟨k, rfl, hk1, hk2, hOK, hK, hRL, hB2, hb2⟩ := hcut
    obtain ⟨W2, rfl⟩ : ∃ W, W = wc := ⟨_, rfl⟩
    have hki : I64 K := ⟨by have := hK.out.1; omega, by have := hK.out.2; omega⟩
    have htx : okS TX := by have := HFK.out.2; have h2 := HRL.out; unfold okS; rw [List.length_cons] at this; omega
    have hfa := fun (n : Nat) (U : World) (hU : Box U n 182 #[.int .i64 K, .string TX]) => toksFault_any [⟨K, TX⟩] (.slice (some ⟨n, 0, none⟩) 1 1) (fun k => k = n) U (fun k hk => by rw [hk]; exact hU.lt) (one_slice (cs := [.int .i64 K, .string TX]) hU ⟨rfl, hki, htx⟩ rfl (by decide))
    rw [toks_one] at hfa
    have hok := tokErr_ok (t := ⟨K, TX⟩) hK.out.1 hK.out.2
    have hno := tokErr_no (t := ⟨K, TX⟩) hK.out.1 hK.out.2
    obtain ⟨ze, hze⟩ : ∃ z, tokErr ⟨K, TX⟩ = z := ⟨_, rfl⟩
    rw [hze] at hfa hok hno
    rw [← hOK.out] at hok hno
    have hb3 := BW.out.trans (hb2.out.mono BW.out.size)
    have hO2 := hO.out.below TokenR.stays hb2.out
    have hB1 := hB2.out
    have hlB2 := hB1.lt
    have hi1 := hki.1
    have hi2 := hki.2
    have x0 := hB1.at_ 0 _ rfl
    have x1 := hB1.at_ 1 _ rfl
    have HFA := Lib.hid hfa; have HOK2 := Lib.hid hok; have HNO2 := Lib.hid hno; have HB3 := Lib.hid hb3; have HO2 := Lib.hid hO2; have HB1 := Lib.hid hB1
    clear hfa hok hno hb3 hO2 hB1
    clear hze hOK hb2 hO
    go_wp2_with fail
    refine (HFA.out _ _ (Box.made W2 182 #[.int .i64 K, .string TX])).mono ?_
    rintro e W4 ⟨rfl, hb4⟩
    have hb4' := below_stepA (Below.refl _ W2) hb4
    have hB4 := HB1.out.later hb4' HB1.out.lt
    have hO4 := HO2.out.below TokenR.stays hb4'
    have hbw4 := HB3.out.trans (hb4'.mono HB3.out.size)
    have hlB4 := hB4.lt
    clear x0 x1 hb4
    have x0 := hB4.at_ 0 _ rfl
    have x1 := hB4.at_ 1 _ rfl
    have HO4 := Lib.hid hO4; have HB4 := Lib.hid hbw4
    clear hO4 hbw4
    clear hb4' hB4
    cases OK with
    | false =>
      have hz4 := HNO2.out rfl
      subst hz4
      have hn : T0 = none := by rw [HTT.out]; rfl
      obtain rfl := HE0.out hn
      clear hn
      go_wp2_with fail
      go_ret2
      exact ⟨_, rfl, HB4.out, SliceOf.nil_⟩
    | true =>
      have hz4 := HOK2.out rfl
      subst hz4
      have hnx : T0 = (cutL (trimL (D.drop k))).map ((L ++ [⟨K, TX⟩]) ++ ·) := by rw [HTT.out, if_pos rfl, map_next, hRL.out]
      have HNX := Lib.hid hnx
      clear hnx
      go_wp2_with (at_builtin; go_must ((refine wpList_push TokenR.stays (.agg #[.int .i64 0, .string ⟨#[]⟩]) [.int .i64 K, .string TX] ⟨K, TX⟩ rfl rfl Tryz.underlying136 (bytes := 24) (by kernel_rfl) HO4.out rfl rfl (by decide) rfl rfl (show TokenR W4 none_ _ _ from ⟨rfl, hki, htx⟩) (tok_cells (d := ⟨K, TX⟩)) (fun k hk => hk.elim) (by unfold maxLen; omega) (by omega) HB4.out.size ?_); (intro A6 c6 W7 hO6 hgr _; have hb6 := HB4.out.trans (hgr.below (B := w.heap.size) (Nat.le_refl _) HB4.out.size); have HO6 := Lib.hid hO6; have HB6 := Lib.hid hb6; clear hO6 hgr hb6)))
      go_roundg (s.size - k)
      case measure => omega
      case rel =>
        refine ⟨k, c6, A6, L ++ [⟨K, TX⟩], hk1, Nat.le_refl _, rfl, by simp, by rw [List.length_append, List.length_singleton]; omega, aside HNX.out, aside ?_, aside HB6.out⟩
        have h := Owns.wider TokenR.stays HO6.out (F' := none_) (fun k hk => hk.elim id id) (fun k hk => hk.elim)
        simpa using h

end Go.Proofs.YtjaladhdnbhliaaGreatDoor
