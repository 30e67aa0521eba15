/- What comes of a type when something is put in for its variable: unify.Put, and the reference's PutOf. -/
import Derived.Test.YtoejhgbndehaiaaDoorPutPlain
import Derived.Test.YtoejhgbndehaiaaDoorOpenB
namespace Go.Proofs.YtoejhgbndehaiaaDoor
open Go.RowKit Go.Shelf

theorem ret_se {a b : ByteArray} {x y : Int} (h : a = b) (h2 : x = y) : Ending.returned (.tuple #[.string a, .int .i64 x]) = .returned (.tuple #[.string b, .int .i64 y]) := by rw [h, h2]

set_option maxRecDepth 100000 in
set_option maxHeartbeats 2000000 in
theorem put_any (p b : ByteArray) (m : Int) (w : World) (hp : p.size ≤ 140737488355328) (hb : b.size ≤ 140737488355328) (hm : w.cell? ⟨0, 0, none⟩ = some (.int .i64 m)) :
    Calls Tryd.prog 8 #[.string p, .string b] w fun e w' => e = .returned (.tuple #[.string (putR p b).1, .int .i64 (putR p b).2]) ∧ Below w.heap.size w w' := by
  have hk1 := kindCheck_any p w hp
  have hk2 := kindCheck_any b w hb
  have hop := kindOpen_any p w
  have hR1 := fun h => putR_bad (p := p) (b := b) h
  have hR2 := fun h ho => putR_closed (p := p) (b := b) h ho
  have hR3 := fun h ho hb => putR_bound (p := p) (b := b) h ho hb
  have hR4 := fun h ho hb hl => putR_long (p := p) (b := b) h ho hb hl
  have hR5 := fun h ho hb hl => putR_ok (p := p) (b := b) h ho hb hl
  have hrep : kindErr p = 0 → openB p = true → kindErr b = 0 → Calls Tryd.prog 22 #[.string p, .string ⟨#[42]⟩, .string b, .int .i64 1] w fun e w' => e = .returned (.string (putTxt p b)) ∧ Below w.heap.size w w' := fun h ho hb0 => by
    have h1 := (kind_base h).1
    have h2 := (kind_base hb0).1
    have h3 : Lib.countB p ⟨#[42]⟩ ≤ 600 := count_star h ho
    have h4 : Lib.countB p ⟨#[42]⟩ * b.size ≤ 600 * 600 := Nat.mul_le_mul h3 h2
    have hc := Tryd.strings_Replace p ⟨#[42]⟩ b 1 m w (by omega) hm (by decide) (by omega)
    rw [show (⟨(Lib.replace p.data.toList (⟨#[42]⟩ : ByteArray).data.toList b.data.toList 1).toArray⟩ : ByteArray) = putTxt p b from put_replace h ho b] at hc
    exact hc
  generalize putR p b = r at hR1 hR2 hR3 hR4 hR5 ⊢
  generalize putTxt p b = T at hR4 hR5 hrep
  generalize kindErr p = z1 at hk1 hR1 hR2 hR3 hR4 hR5 hrep
  generalize kindErr b = z2 at hk2 hR3 hR4 hR5 hrep
  generalize openB p = zo at hop hR2 hR3 hR4 hR5 hrep
  have HK1 := Lib.hid hk1; have HK2 := Lib.hid hk2; have HOP := Lib.hid hop; have HR1 := Lib.hid hR1; have HR2 := Lib.hid hR2; have HR3 := Lib.hid hR3; have HR4 := Lib.hid hR4; have HR5 := Lib.hid hR5; have HREP := Lib.hid hrep
  clear hk1 hk2 hop hR1 hR2 hR3 hR4 hR5 hrep
  go_enter Tryd.func8, Tryd.ntmps8
  go_wp2_with fail
  refine HK1.out.mono ?_
  rintro e w' ⟨rfl, rfl⟩
  by_cases h1 : z1 = 0
  · subst h1
    go_wp2_with fail
    refine HOP.out.mono ?_
    rintro e w' ⟨rfl, rfl⟩
    cases zo with
    | false =>
      have hr := HR2.out (by first | rfl | trivial) (by first | rfl | trivial)
      subst hr
      go_wp2_with fail
      go_ret2
      exact ⟨rfl, Below.refl _ _⟩
    | true =>
      go_wp2_with fail
      refine HK2.out.mono ?_
      rintro e w' ⟨rfl, rfl⟩
      by_cases h2 : z2 = 0
      · subst h2
        have hrep := HREP.out (by first | rfl | trivial) (by first | rfl | trivial) (by first | rfl | trivial)
        have HREP2 := Lib.hid hrep
        clear hrep
        go_wp2_with fail
        refine HREP2.out.mono ?_
        rintro e w2 ⟨rfl, hb2⟩
        by_cases hl : 600 < T.size
        · have hlz : (600 : Int) < (T.size : Int) := by omega
          have hr := HR4.out (by first | rfl | trivial) (by first | rfl | trivial) (by first | rfl | trivial) hl
          subst hr
          go_wp2_with fail
          go_ret2
          exact ⟨rfl, hb2⟩
        · have hlz : ¬ (600 : Int) < (T.size : Int) := by omega
          have hr := HR5.out (by first | rfl | trivial) (by first | rfl | trivial) (by first | rfl | trivial) hl
          subst hr
          go_wp2_with fail
          go_ret2
          exact ⟨rfl, hb2⟩
      · have h2b : (z2 == 0) = false := by simp [h2]
        have hr := HR3.out (by first | rfl | trivial) (by first | rfl | trivial) h2
        subst hr
        go_wp2_with fail
        go_ret2
        exact ⟨rfl, Below.refl _ _⟩
  · have h1b : (z1 == 0) = false := by simp [h1]
    have hr := HR1.out h1
    subst hr
    go_wp2_with fail
    go_ret2
    exact ⟨rfl, Below.refl _ _⟩

/-- What the reference has put together, up to a place. -/
def putTo (p b : ByteArray) (k : Nat) : ByteArray := ⟨((p.data.toList.take k).flatMap (putB b)).toArray⟩
theorem putTo_zero (p b : ByteArray) : putTo p b 0 = ⟨#[]⟩ := rfl
theorem putTo_star {p b : ByteArray} {k : Nat} (hk : k < p.size) (h : starByte p[k] = true) : putTo p b (k + 1) = putTo p b k ++ b := by
  refine ba_ext ?_
  rw [ba_app]
  unfold putTo
  rw [ba_of, ba_of, List.take_add_one, str_at? p k hk, List.flatMap_append]
  simp [putB, h]
theorem putTo_char {p b : ByteArray} {k : Nat} (hk : k < p.size) (h : starByte p[k] = false) : putTo p b (k + 1) = putTo p b k ++ p.extract k (k + 1) := by
  refine ba_ext ?_
  rw [ba_app]
  have he : (p.extract k (k + 1)).data.toList = [p[k]] := by
    have hl : p.data.toList.length = p.size := str_len p
    have : (p.extract k (k + 1)).data.toList = (p.data.toList.drop k).take (k + 1 - k) := by simp [List.extract_eq_take_drop]
    rw [this, show k + 1 - k = 1 by omega]
    refine List.ext_getElem? fun i => ?_
    cases i with
    | zero => rw [List.getElem?_take_of_lt (by omega), List.getElem?_drop, str_at? p (k + 0) (by omega)]; rfl
    | succ i => rw [List.getElem?_eq_none (by rw [List.length_take]; omega)]; rfl
  rw [he]
  unfold putTo
  rw [ba_of, ba_of, List.take_add_one, str_at? p k hk, List.flatMap_append]
  simp [putB, h]
theorem putTo_end (p b : ByteArray) : putTo p b p.size = putTxt p b := by
  unfold putTo putTxt
  rw [← str_len p, List.take_length]
theorem putTo_size (p b : ByteArray) : ∀ k, (putTo p b k).size ≤ k * (b.size + 1)
  | 0 => by rw [putTo_zero]; exact Nat.zero_le _
  | k + 1 => by
    have ih := putTo_size p b k
    rw [Nat.succ_mul]
    by_cases hk : k < p.size
    · cases h : starByte p[k] with
      | true => rw [putTo_star hk h, ba_app_size]; omega
      | false =>
        rw [putTo_char hk h, ba_app_size, ByteArray.size_extract]; omega
    · have : putTo p b (k + 1) = putTo p b k := by
        unfold putTo
        have hl : p.data.toList.length = p.size := str_len p
        rw [List.take_of_length_le (by omega), List.take_of_length_le (by omega)]
      rw [this]; omega

set_option maxRecDepth 100000 in
set_option maxHeartbeats 4000000 in
theorem putOf_any (p b : ByteArray) (w : World) (hp : p.size ≤ 140737488355328) (hb : b.size ≤ 140737488355328) :
    Calls Tryd.prog 9 #[.string p, .string b] w fun e w' => e = .returned (.tuple #[.string (putR p b).1, .int .i64 (putR p b).2]) ∧ Below w.heap.size w w' := by
  have hk1 := kindFault_any p w hp
  have hk2 := kindFault_any b w hb
  have hop := isOpen_any p w hp
  have hR1 := fun h => putR_bad (p := p) (b := b) h
  have hR2 := fun h ho => putR_closed (p := p) (b := b) h ho
  have hR3 := fun h ho hb => putR_bound (p := p) (b := b) h ho hb
  have hR4 := fun h ho hb hl => putR_long (p := p) (b := b) h ho hb hl
  have hR5 := fun h ho hb hl => putR_ok (p := p) (b := b) h ho hb hl
  have hcl := fun (h : openB p = false) => put_closed h b
  have hps := fun h => (kind_base (p := p) h).1
  have hbs := fun h => (kind_base (p := b) h).1
  have hno := fun (h : openB p = false) (k : Nat) (hk : k < p.size) => (show starByte p[k] = false by
    unfold openB at h
    rw [List.any_eq_false] at h
    simpa using h _ (List.mem_of_getElem? (str_at? p k hk)))
  generalize putR p b = r at hR1 hR2 hR3 hR4 hR5 ⊢
  generalize kindErr p = z1 at hk1 hR1 hR2 hR3 hR4 hR5 hps
  generalize kindErr b = z2 at hk2 hR3 hR4 hR5 hbs
  generalize openB p = zo at hop hR2 hR3 hR4 hR5 hcl hno
  -- what the loop tells
  have hloop : z1 = 0 → (zo = false ∨ z2 = 0) → ((600 < (putTxt p b).size → r = (⟨#[]⟩, 1)) ∧ (¬ 600 < (putTxt p b).size → r = (putTxt p b, 0))) := fun h1 h2 => by
    cases zo with
    | false =>
      have hr := hR2 h1 rfl
      have hc := hcl rfl
      rw [hc]
      exact ⟨fun h => absurd (hps h1) (by omega), fun _ => hr⟩
    | true =>
      have h3 : z2 = 0 := h2.elim (fun h => by cases h) id
      exact ⟨fun h => hR4 h1 rfl h3 h, fun h => hR5 h1 rfl h3 h⟩
  have HK1 := Lib.hid hk1; have HK2 := Lib.hid hk2; have HOP := Lib.hid hop; have HR1 := Lib.hid hR1; have HR3 := Lib.hid hR3; have HLOOP := Lib.hid hloop; have HPS := Lib.hid hps; have HBS := Lib.hid hbs; have HNO := Lib.hid hno
  clear hk1 hk2 hop hR1 hR3 hloop hps hbs hno
  clear hR2 hR4 hR5 hcl
  go_enter Tryd.func9, Tryd.ntmps9
  rcases Classical.em (z1 = 0) with h1 | h1
  · rcases (show (zo = true ∧ z2 ≠ 0) ∨ (zo = false ∨ (zo = true ∧ z2 = 0)) by cases zo <;> (by_cases h : z2 = 0 <;> simp [h])) with ⟨h2, h3⟩ | hgo
    · subst h1; subst h2
      have h3b : (z2 == 0) = false := by simp [h3]
      have hr := HR3.out (by first | rfl | trivial) (by first | rfl | trivial) h3
      subst hr
      go_wp2_with (first
        | (go_at_call 23; (with_reducible refine HK1.out.mono ?_); rintro e w' ⟨rfl, rfl⟩)
        | (go_at_call 23; (with_reducible refine HK2.out.mono ?_); rintro e w' ⟨rfl, rfl⟩)
        | (go_at_call 24; (with_reducible refine HOP.out.mono ?_); rintro e w' ⟨rfl, rfl⟩))
      go_ret2
      exact ⟨rfl, Below.refl _ _⟩
    · have hlp := HLOOP.out h1 (hgo.imp id And.right)
      have hp6 := HPS.out h1
      have hbd : ∀ k, k ≤ p.size → (putTo p b k).size ≤ 400000 ∧ ((∃ i, ∃ h : i < p.size, starByte p[i] = true) → b.size ≤ 600) := fun k hk => by
        rcases hgo with hz | ⟨hz, hz2⟩
        · refine ⟨?_, fun ⟨i, hi, h⟩ => by rw [HNO.out hz i hi] at h; cases h⟩
          have hn : ∀ c ∈ p.data.toList.take k, starByte c = false := fun c hc => by
            obtain ⟨i, hi, rfl⟩ := List.getElem_of_mem (List.mem_of_mem_take hc)
            have hi' : i < p.size := by rw [← str_len p]; exact hi
            exact HNO.out hz i hi'
          unfold putTo
          rw [put_none b _ hn, ba_size, ba_of, List.length_take]
          omega
        · have h6 := HBS.out hz2
          refine ⟨?_, fun _ => h6⟩
          have h7 := putTo_size p b k
          have h8 : k * (b.size + 1) ≤ 600 * 601 := Nat.mul_le_mul (by omega) (by omega)
          omega
      have hend := putTo_end p b
      generalize putTxt p b = T at hlp hend
      have HLP := Lib.hid hlp; have HBD := Lib.hid hbd; have HEND := Lib.hid hend
      clear hlp hbd hend
      clear HR1 HR3 HLOOP HPS HBS HNO
      subst h1
      rcases hgo with rfl | ⟨rfl, rfl⟩
      all_goals
        go_wp2_with (first
          | (go_at_call 23; (with_reducible refine HK1.out.mono ?_); rintro e w' ⟨rfl, rfl⟩)
          | (go_at_call 23; (with_reducible refine HK2.out.mono ?_); rintro e w' ⟨rfl, rfl⟩)
          | (go_at_call 24; (with_reducible refine HOP.out.mono ?_); rintro e w' ⟨rfl, rfl⟩))
        go_loopg [7, 8] p.size (fun gg s7 s8 wr => ∃ kk : Nat, kk ≤ p.size ∧ p.size - kk ≤ gg ∧ s8 = .int .i64 kk ∧ s7 = .string (putTo p b kk) ∧ wr = w)
        case atStart => exact ⟨0, Nat.zero_le _, by omega, rfl, rfl, rfl⟩
        case round =>
          obtain ⟨kk, hkk, hg, rfl, rfl, rfl⟩ := hrel
          by_cases hlt : kk < p.size
          · have hltz : (kk : Int) < (p.size : Int) := by omega
            have hb2 : (p[kk].toNat : Int) < 256 := by have := p[kk].toNat_lt; omega
            have hs1 := (HBD.out kk hkk).1
            cases hq : starByte p[kk] with
            | true =>
              have hs := putTo_star (b := b) hlt hq
              have hb6 := (HBD.out kk hkk).2 ⟨kk, hlt, hq⟩
              have hq2 : (p[kk].toNat : Int) = 42 := by (simp [starByte] at hq; omega)
              have hq3 : ((p[kk].toNat : Int) == 42) = true := by simp [hq2]
              obtain ⟨Q, hQ⟩ : ∃ z, putTo p b kk = z := ⟨_, rfl⟩
              rw [hQ] at hs hs1 ⊢
              have HS := Lib.hid hs; have HQ := Lib.hid hQ
              clear hs hQ
              clear hq
              go_wp2_with fail
              go_roundg (p.size - (kk + 1))
              case measure => omega
              case rel => exact ⟨kk + 1, by omega, by omega, by go_num, by rw [HS.out], rfl⟩
            | false =>
              have hs := putTo_char (b := b) hlt hq
              have hq2 : ¬ (p[kk].toNat : Int) = 42 := by (simp [starByte] at hq; omega)
              have hq3 : ((p[kk].toNat : Int) == 42) = false := by simp [hq2]
              obtain ⟨Q, hQ⟩ : ∃ z, putTo p b kk = z := ⟨_, rfl⟩
              rw [hQ] at hs hs1 ⊢
              have hxs : (p.extract kk (kk + 1)).size = 1 := by rw [ByteArray.size_extract]; omega
              have HS := Lib.hid hs; have HQ := Lib.hid hQ
              clear hs hQ
              clear hq
              go_wp2_with fail
              go_roundg (p.size - (kk + 1))
              case measure => omega
              case rel => exact ⟨kk + 1, by omega, by omega, by go_num, by rw [HS.out], rfl⟩
          · have hltz : ¬ (kk : Int) < (p.size : Int) := by omega
            obtain rfl : kk = p.size := by omega
            rw [HEND.out]
            by_cases hl : 600 < T.size
            · have hlz : (600 : Int) < (T.size : Int) := by omega
              have hr := HLP.out.1 hl
              subst hr
              go_wp2_with fail
              go_ret2
              exact ⟨rfl, Below.refl _ _⟩
            · have hlz : ¬ (600 : Int) < (T.size : Int) := by omega
              have hr := HLP.out.2 hl
              subst hr
              go_wp2_with fail
              go_ret2
              exact ⟨rfl, Below.refl _ _⟩
  · have h1b : (z1 == 0) = false := by simp [h1]
    have hr := HR1.out h1
    subst hr
    go_wp2_with (go_at_call 23; (with_reducible refine HK1.out.mono ?_); rintro e w' ⟨rfl, rfl⟩)
    go_ret2
    exact ⟨rfl, Below.refl _ _⟩

end Go.Proofs.YtoejhgbndehaiaaDoor
