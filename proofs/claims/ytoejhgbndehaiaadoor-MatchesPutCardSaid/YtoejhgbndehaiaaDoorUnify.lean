/- unify.Match and the reference's MatchOf. -/
import Derived.Test.YtoejhgbndehaiaaDoorKind
namespace Go.Proofs.YtoejhgbndehaiaaDoor
open Go.RowKit

def starB (s : ByteArray) : Bool := s.toList == [42]
/-- What is refused ahead of a match; 0: nothing. -/
def matchPre (p i b : ByteArray) : Int := if kindErr p = 0 then (if kindErr i = 0 then (if b.size = 0 then 0 else kindErr b) else kindErr i) else kindErr p
/-- Both without the brackets that both have. -/
def peelF : Nat → ByteArray → ByteArray → ByteArray × ByteArray
  | 0, p, i => (p, i)
  | n + 1, p, i => match elemOf p, elemOf i with
    | some q, some j => peelF n q j
    | _, _ => (p, i)
def peel (p i : ByteArray) : ByteArray × ByteArray := peelF p.size p i
def matchEnd (p i b : ByteArray) : ByteArray × Int :=
  if starB p then (if b.toList.isEmpty || b.toList == i.toList then (i, 0) else (⟨#[]⟩, 8)) else if p.toList == i.toList then (b, 0) else (⟨#[]⟩, 8)
def matchR (p i b : ByteArray) : ByteArray × Int := if matchPre p i b = 0 then matchEnd (peel p i).1 (peel p i).2 b else (⟨#[]⟩, matchPre p i b)

theorem peelF_more : ∀ (n m : Nat) (p i : ByteArray), p.size ≤ n → p.size ≤ m → peelF n p i = peelF m p i
  | 0, 0, _, _, _, _ => rfl
  | 0, m + 1, p, i, h, _ => by
    have : elemOf p = none := by
      cases he : elemOf p with
      | none => rfl
      | some t => have := elemOf_size he; omega
    simp [peelF, this]
  | n + 1, 0, p, i, _, h => by
    have : elemOf p = none := by
      cases he : elemOf p with
      | none => rfl
      | some t => have := elemOf_size he; omega
    simp [peelF, this]
  | n + 1, m + 1, p, i, h1, h2 => by
    unfold peelF
    cases he : elemOf p with
    | none => rfl
    | some t =>
      cases hf : elemOf i with
      | none => rfl
      | some j =>
        have := elemOf_size he
        exact peelF_more n m t j (by omega) (by omega)
theorem peel_some {p i q j : ByteArray} (h : elemOf p = some q) (h' : elemOf i = some j) : peel p i = peel q j := by
  have hz := elemOf_size h
  unfold peel
  obtain ⟨k, hk⟩ : ∃ k, p.size = k + 1 := ⟨p.size - 1, by omega⟩
  rw [hk]
  show (match elemOf p, elemOf i with | some q, some j => peelF k q j | _, _ => (p, i)) = _
  rw [h, h']
  exact peelF_more _ _ _ _ (by omega) (by omega)
theorem peel_none {p i : ByteArray} (h : elemOf p = none ∨ elemOf i = none) : peel p i = (p, i) := by
  unfold peel
  cases hk : p.size with
  | zero => rfl
  | succ k =>
    unfold peelF
    rcases h with h | h
    · rw [h]
    · rw [h]; cases elemOf p <;> rfl

set_option maxRecDepth 100000 in
set_option maxHeartbeats 1000000 in
theorem match_pre (p i b : ByteArray) (w : World) (hp : p.size ≤ 140737488355328) (_hi : i.size ≤ 140737488355328) (_hb : b.size ≤ 140737488355328) (hz : kindErr p ≠ 0) :
    Calls Tryd.prog 13 #[.string p, .string i, .string b] w fun e w' => e = .returned (.tuple #[.string ⟨#[]⟩, .int .i64 (kindErr p)]) ∧ Below w.heap.size w w' := by
  have hk := fun W => kindCheck_any p W hp
  generalize kindErr p = z at hk hz ⊢
  have HK := Lib.hid hk; clear hk
  have h0n : (z != 0) = true := by simp [hz]
  go_enter Tryd.func13, Tryd.ntmps13
  go_wp2_with fail
  refine wp_loop_rounds 3 ?_
  rw [rounds_succ]
  go_wp2_with fail
  refine (HK.out _).mono ?_
  rintro e w' ⟨rfl, rfl⟩
  go_wp2_with fail
  go_ret2
  exact ⟨rfl, (Below.refl _ _).alloc (Nat.le_refl _) _⟩

set_option maxRecDepth 100000 in
set_option maxHeartbeats 1000000 in
theorem match_is (p i b : ByteArray) (w : World) (hp : p.size ≤ 140737488355328) (hi : i.size ≤ 140737488355328) (_hb : b.size ≤ 140737488355328) (h0 : kindErr p = 0) (hz : kindErr i ≠ 0) :
    Calls Tryd.prog 13 #[.string p, .string i, .string b] w fun e w' => e = .returned (.tuple #[.string ⟨#[]⟩, .int .i64 (kindErr i)]) ∧ Below w.heap.size w w' := by
  have hk0 := fun W => kindCheck_any p W hp
  rw [h0] at hk0
  have hk := fun W => kindCheck_any i W hi
  generalize kindErr i = z at hk hz ⊢
  have HK := Lib.hid hk; clear hk
  have HK0 := Lib.hid hk0; clear hk0 h0
  have h0n : (z != 0) = true := by simp [hz]
  go_enter Tryd.func13, Tryd.ntmps13
  go_wp2_with fail
  refine wp_loop_rounds 3 ?_
  rw [rounds_succ]
  go_wp2_with fail
  refine (HK0.out _).mono ?_
  rintro e w' ⟨rfl, rfl⟩
  go_wp2_with fail
  rw [rounds_succ]
  go_wp2_with fail
  refine (HK.out _).mono ?_
  rintro e w' ⟨rfl, rfl⟩
  go_wp2_with fail
  go_ret2
  exact ⟨rfl, (Below.refl _ _).alloc (Nat.le_refl _) _⟩

set_option maxRecDepth 100000 in
set_option maxHeartbeats 1000000 in
theorem match_bound (p i b : ByteArray) (w : World) (hp : p.size ≤ 140737488355328) (hi : i.size ≤ 140737488355328) (hb : b.size ≤ 140737488355328) (h0 : kindErr p = 0) (h1 : kindErr i = 0) (hbz : b.size ≠ 0) (hz : kindErr b ≠ 0) :
    Calls Tryd.prog 13 #[.string p, .string i, .string b] w fun e w' => e = .returned (.tuple #[.string ⟨#[]⟩, .int .i64 (kindErr b)]) ∧ Below w.heap.size w w' := by
  have hk0 := fun W => kindCheck_any p W hp
  rw [h0] at hk0
  have hk1 := fun W => kindCheck_any i W hi
  rw [h1] at hk1
  have hk := fun W => kindCheck_any b W hb
  generalize kindErr b = z at hk hz ⊢
  have HK := Lib.hid hk; clear hk
  have HK0 := Lib.hid hk0; clear hk0 h0
  have HK1 := Lib.hid hk1; clear hk1 h1
  have h0n : (z != 0) = true := by simp [hz]
  have hbe : b.toList.isEmpty = false := by rw [str_isEmpty]; simp [hbz]
  go_enter Tryd.func13, Tryd.ntmps13
  go_wp2_with fail
  refine wp_loop_rounds 3 ?_
  rw [rounds_succ]
  go_wp2_with fail
  refine (HK0.out _).mono ?_
  rintro e w' ⟨rfl, rfl⟩
  go_wp2_with fail
  rw [rounds_succ]
  go_wp2_with fail
  refine (HK1.out _).mono ?_
  rintro e w' ⟨rfl, rfl⟩
  go_wp2_with fail
  rw [rounds_succ]
  go_wp2_with fail
  refine (HK.out _).mono ?_
  rintro e w' ⟨rfl, rfl⟩
  go_wp2_with fail
  go_ret2
  exact ⟨rfl, (Below.refl _ _).alloc (Nat.le_refl _) _⟩

set_option maxRecDepth 100000 in
set_option maxHeartbeats 2000000 in
theorem match_ok (p i b : ByteArray) (w : World) (hp : p.size ≤ 140737488355328) (hi : i.size ≤ 140737488355328) (hb : b.size ≤ 140737488355328) (h0 : kindErr p = 0) (h1 : kindErr i = 0) (h2 : b.size = 0 ∨ b.size ≠ 0 ∧ kindErr b = 0) :
    Calls Tryd.prog 13 #[.string p, .string i, .string b] w fun e w' => e = .returned (.tuple #[.string (matchEnd (peel p i).1 (peel p i).2 b).1, .int .i64 (matchEnd (peel p i).1 (peel p i).2 b).2]) ∧ Below w.heap.size w w' := by
  have hk0 := fun W => kindCheck_any p W hp
  rw [h0] at hk0
  have hk1 := fun W => kindCheck_any i W hi
  rw [h1] at hk1
  have HK0 := Lib.hid hk0; clear hk0 h0
  have HK1 := Lib.hid hk1; clear hk1 h1
  rcases h2 with h2 | ⟨h3, h2⟩
  · have hbe : b.toList.isEmpty = true := by rw [str_isEmpty]; simp [h2]
    go_enter Tryd.func13, Tryd.ntmps13
    go_wp2_with fail
    refine wp_loop_rounds 3 ?_
    rw [rounds_succ]
    go_wp2_with fail
    refine (HK0.out _).mono ?_
    rintro e w' ⟨rfl, rfl⟩
    go_wp2_with fail
    rw [rounds_succ]
    go_wp2_with fail
    refine (HK1.out _).mono ?_
    rintro e w' ⟨rfl, rfl⟩
    go_wp2_with fail
    rw [rounds_succ]
    go_wp2_with fail
    go_loopg [0, 1] p.size (fun gg s0 s1 wr => ∃ q j : ByteArray, q.size ≤ gg ∧ q.size ≤ p.size ∧ j.size ≤ i.size ∧ s0 = .string q ∧ s1 = .string j ∧ wr = w.alloc (.cells #[.string p, .string i] 9) ∧ Aside (peel p i = peel q j))
    case atStart => exact ⟨p, i, Nat.le_refl _, Nat.le_refl _, Nat.le_refl _, rfl, rfl, rfl, (show Aside _ from rfl)⟩
    case round =>
      obtain ⟨q, j, hg, hq, hj, rfl, rfl, rfl, A1⟩ := hrel
      cases he : elemOf q with
      | some q' =>
        cases hf : elemOf j with
        | some j' =>
          have hz := elemOf_size he
          have HZ : q'.size < q.size := by omega
          have hz2 := elemOf_size hf
          have HZ2 : j'.size < j.size := by omega
          have HE := Lib.hid he; clear he hz
          have HF := Lib.hid hf; clear hf hz2
          go_wp2_with fail
          refine (elem_some HE.out _ (by omega)).mono ?_
          rintro e w' ⟨rfl, rfl⟩
          go_wp2_with fail
          refine (elem_some HF.out _ (by omega)).mono ?_
          rintro e w' ⟨rfl, rfl⟩
          go_wp2_with fail
          go_roundg (q'.size)
          case measure => omega
          case rel => exact ⟨q', j', Nat.le_refl _, by omega, by omega, rfl, rfl, rfl, (show Aside _ from A1.out.trans (peel_some HE.out HF.out))⟩
        | none =>
          have HP := Lib.hid (A1.out.trans (peel_none (p := q) (i := j) (Or.inr hf)))
          have HE := Lib.hid he; clear he
          have HF := Lib.hid hf; clear hf
          go_wp2_with fail
          refine (elem_some HE.out _ (by omega)).mono ?_
          rintro e w' ⟨rfl, rfl⟩
          go_wp2_with fail
          refine (elem_none HF.out _ (by omega)).mono ?_
          rintro e w' ⟨rfl, rfl⟩
          go_wp2_with fail
          all_goals (go_ret2; go_tidy; refine ⟨?_, (Below.refl _ _).alloc (Nat.le_refl _) _⟩; rw [HP.out]; simp_all [matchEnd, starB])
      | none =>
        have HP := Lib.hid (A1.out.trans (peel_none (p := q) (i := j) (Or.inl he)))
        have HE := Lib.hid he; clear he
        have hk2 := fun W => elem_any j W (by omega)
        generalize (elemOf j).getD ⟨#[]⟩ = j1 at hk2
        generalize (elemOf j).isSome = j2 at hk2
        have HK2 := Lib.hid hk2; clear hk2
        go_wp2_with fail
        refine (elem_none HE.out _ (by omega)).mono ?_
        rintro e w' ⟨rfl, rfl⟩
        go_wp2_with fail
        refine (HK2.out _).mono ?_
        rintro e w' ⟨rfl, rfl⟩
        go_wp2_with fail
        all_goals (go_ret2; go_tidy; refine ⟨?_, (Below.refl _ _).alloc (Nat.le_refl _) _⟩; rw [HP.out]; simp_all [matchEnd, starB])
  · have hbe : b.toList.isEmpty = false := by rw [str_isEmpty]; simp [h3]
    have hk3 := fun W => kindCheck_any b W hb
    rw [h2] at hk3
    have HK3 := Lib.hid hk3; clear hk3 h2
    go_enter Tryd.func13, Tryd.ntmps13
    go_wp2_with fail
    refine wp_loop_rounds 3 ?_
    rw [rounds_succ]
    go_wp2_with fail
    refine (HK0.out _).mono ?_
    rintro e w' ⟨rfl, rfl⟩
    go_wp2_with fail
    rw [rounds_succ]
    go_wp2_with fail
    refine (HK1.out _).mono ?_
    rintro e w' ⟨rfl, rfl⟩
    go_wp2_with fail
    rw [rounds_succ]
    go_wp2_with fail
    refine (HK3.out _).mono ?_
    rintro e w' ⟨rfl, rfl⟩
    go_wp2_with fail
    go_loopg [0, 1] p.size (fun gg s0 s1 wr => ∃ q j : ByteArray, q.size ≤ gg ∧ q.size ≤ p.size ∧ j.size ≤ i.size ∧ s0 = .string q ∧ s1 = .string j ∧ wr = w.alloc (.cells #[.string p, .string i] 9) ∧ Aside (peel p i = peel q j))
    case atStart => exact ⟨p, i, Nat.le_refl _, Nat.le_refl _, Nat.le_refl _, rfl, rfl, rfl, (show Aside _ from rfl)⟩
    case round =>
      obtain ⟨q, j, hg, hq, hj, rfl, rfl, rfl, A1⟩ := hrel
      cases he : elemOf q with
      | some q' =>
        cases hf : elemOf j with
        | some j' =>
          have hz := elemOf_size he
          have HZ : q'.size < q.size := by omega
          have hz2 := elemOf_size hf
          have HZ2 : j'.size < j.size := by omega
          have HE := Lib.hid he; clear he hz
          have HF := Lib.hid hf; clear hf hz2
          go_wp2_with fail
          refine (elem_some HE.out _ (by omega)).mono ?_
          rintro e w' ⟨rfl, rfl⟩
          go_wp2_with fail
          refine (elem_some HF.out _ (by omega)).mono ?_
          rintro e w' ⟨rfl, rfl⟩
          go_wp2_with fail
          go_roundg (q'.size)
          case measure => omega
          case rel => exact ⟨q', j', Nat.le_refl _, by omega, by omega, rfl, rfl, rfl, (show Aside _ from A1.out.trans (peel_some HE.out HF.out))⟩
        | none =>
          have HP := Lib.hid (A1.out.trans (peel_none (p := q) (i := j) (Or.inr hf)))
          have HE := Lib.hid he; clear he
          have HF := Lib.hid hf; clear hf
          go_wp2_with fail
          refine (elem_some HE.out _ (by omega)).mono ?_
          rintro e w' ⟨rfl, rfl⟩
          go_wp2_with fail
          refine (elem_none HF.out _ (by omega)).mono ?_
          rintro e w' ⟨rfl, rfl⟩
          go_wp2_with fail
          all_goals (go_ret2; go_tidy; refine ⟨?_, (Below.refl _ _).alloc (Nat.le_refl _) _⟩; rw [HP.out]; simp_all [matchEnd, starB])
      | none =>
        have HP := Lib.hid (A1.out.trans (peel_none (p := q) (i := j) (Or.inl he)))
        have HE := Lib.hid he; clear he
        have hk2 := fun W => elem_any j W (by omega)
        generalize (elemOf j).getD ⟨#[]⟩ = j1 at hk2
        generalize (elemOf j).isSome = j2 at hk2
        have HK2 := Lib.hid hk2; clear hk2
        go_wp2_with fail
        refine (elem_none HE.out _ (by omega)).mono ?_
        rintro e w' ⟨rfl, rfl⟩
        go_wp2_with fail
        refine (HK2.out _).mono ?_
        rintro e w' ⟨rfl, rfl⟩
        go_wp2_with fail
        all_goals (go_ret2; go_tidy; refine ⟨?_, (Below.refl _ _).alloc (Nat.le_refl _) _⟩; rw [HP.out]; simp_all [matchEnd, starB])

theorem match_any (p i b : ByteArray) (w : World) (hp : p.size ≤ 140737488355328) (hi : i.size ≤ 140737488355328) (hb : b.size ≤ 140737488355328) :
    Calls Tryd.prog 13 #[.string p, .string i, .string b] w fun e w' => e = .returned (.tuple #[.string (matchR p i b).1, .int .i64 (matchR p i b).2]) ∧ Below w.heap.size w w' := by
  by_cases h0 : kindErr p = 0
  · by_cases h1 : kindErr i = 0
    · by_cases h2 : b.size = 0
      · have := match_ok p i b w hp hi hb h0 h1 (Or.inl h2)
        simpa [matchR, matchPre, h0, h1, h2] using this
      · by_cases h3 : kindErr b = 0
        · have := match_ok p i b w hp hi hb h0 h1 (Or.inr ⟨h2, h3⟩)
          simpa [matchR, matchPre, h0, h1, h2, h3] using this
        · have := match_bound p i b w hp hi hb h0 h1 h2 h3
          simpa [matchR, matchPre, h0, h1, h2, h3] using this
    · have := match_is p i b w hp hi hb h0 h1
      simpa [matchR, matchPre, h0, h1] using this
  · have := match_pre p i b w hp hi hb h0
    simpa [matchR, matchPre, h0] using this


theorem kindErr_elem {p q : ByteArray} (h : elemOf p = some q) (h0 : kindErr p = 0) : kindErr q = 0 := by
  have hz := elemOf_size h
  unfold kindErr at h0 ⊢
  rw [strip_some h] at h0
  by_cases h6 : 600 < p.size
  · rw [if_pos h6] at h0; cases h0
  · rw [if_neg h6] at h0
    rw [if_neg (by omega)]
    exact h0

set_option maxRecDepth 100000 in
set_option maxHeartbeats 2000000 in
theorem matchOf_n : ∀ (n : Nat) (p i b : ByteArray) (w : World), p.size ≤ n → p.size ≤ 140737488355328 → i.size ≤ 140737488355328 → b.size ≤ 140737488355328 →
    Calls Tryd.prog 25 #[.string p, .string i, .string b] w fun e w' => e = .returned (.tuple #[.string (matchR p i b).1, .int .i64 (matchR p i b).2]) ∧ w = w' := by
  intro n
  induction n using Nat.strongRecOn with
  | _ n ih =>
  intro p i b w hn hp hi hb
  by_cases h0 : kindErr p = 0
  · have hk0 := fun W => kindFault_any p W hp
    rw [h0] at hk0
    by_cases h1 : kindErr i = 0
    · have hk1 := fun W => kindFault_any i W hi
      rw [h1] at hk1
      by_cases h2 : b.size = 0 ∨ b.size ≠ 0 ∧ kindErr b = 0
      · have hR : matchR p i b = matchEnd (peel p i).1 (peel p i).2 b := by
          have : matchPre p i b = 0 := by
            rcases h2 with h2 | ⟨h2, h3⟩ <;> simp [matchPre, h0, h1, h2]
            exact h3
          simp [matchR, this]
        cases he : elemOf p with
        | some q =>
          cases hf : elemOf i with
          | some j =>
            have hz := elemOf_size he
            have hz2 := elemOf_size hf
            have hR2 : matchR p i b = matchR q j b := by
              have h0' := kindErr_elem he h0
              have h1' := kindErr_elem hf h1
              have : matchPre q j b = 0 := by
                rcases h2 with h2 | ⟨h2, h3⟩ <;> simp [matchPre, h0', h1', h2]
                exact h3
              rw [hR, peel_some he hf]
              simp [matchR, this]
            have hrec := ih q.size (by omega) q j b
            rw [hR2]
            generalize matchR q j b = z at hrec
            have HR := Lib.hid hrec
            have HE := Lib.hid he
            have HF := Lib.hid hf
            have HK0 := Lib.hid hk0
            have HK1 := Lib.hid hk1
            have HZ : q.size < p.size := by omega
            have HZ2 : j.size < i.size := by omega
            clear hrec hR hR2 ih he hf hk0 hk1 hz hz2 h0 h1
            rcases h2 with h2 | ⟨h3, h2⟩
            · have hbe : b.toList.isEmpty = true := by rw [str_isEmpty]; simp [h2]
              clear h2
              go_enter Tryd.func25, Tryd.ntmps25
              go_wp2_with fail
              refine (HK0.out _).mono ?_
              rintro e w' ⟨rfl, rfl⟩
              go_wp2_with fail
              refine (HK1.out _).mono ?_
              rintro e w' ⟨rfl, rfl⟩
              go_wp2_with fail
              refine (elemOf_some HE.out _ (by omega)).mono ?_
              rintro e w' ⟨rfl, rfl⟩
              go_wp2_with fail
              refine (elemOf_some HF.out _ (by omega)).mono ?_
              rintro e w' ⟨rfl, rfl⟩
              go_wp2_with fail
              refine (HR.out _ (Nat.le_refl _) (by omega) (by omega) hb).mono ?_
              rintro e w' ⟨rfl, rfl⟩
              go_wp2_with fail
              go_ret2
              exact ⟨rfl, rfl⟩
            · have hbe : b.toList.isEmpty = false := by rw [str_isEmpty]; simp [h3]
              have hk3 := fun W => kindFault_any b W hb
              rw [h2] at hk3
              have HK3 := Lib.hid hk3; clear hk3 h2 h3
              go_enter Tryd.func25, Tryd.ntmps25
              go_wp2_with fail
              refine (HK0.out _).mono ?_
              rintro e w' ⟨rfl, rfl⟩
              go_wp2_with fail
              refine (HK1.out _).mono ?_
              rintro e w' ⟨rfl, rfl⟩
              go_wp2_with fail
              refine (HK3.out _).mono ?_
              rintro e w' ⟨rfl, rfl⟩
              go_wp2_with fail
              refine (elemOf_some HE.out _ (by omega)).mono ?_
              rintro e w' ⟨rfl, rfl⟩
              go_wp2_with fail
              refine (elemOf_some HF.out _ (by omega)).mono ?_
              rintro e w' ⟨rfl, rfl⟩
              go_wp2_with fail
              refine (HR.out _ (Nat.le_refl _) (by omega) (by omega) hb).mono ?_
              rintro e w' ⟨rfl, rfl⟩
              go_wp2_with fail
              go_ret2
              exact ⟨rfl, rfl⟩
          | none =>
            have HP := Lib.hid (peel_none (p := p) (i := i) (Or.inr hf))
            have HF := Lib.hid hf
            clear hf
            have HR := Lib.hid hR
            have HE := Lib.hid he
            have HK0 := Lib.hid hk0
            have HK1 := Lib.hid hk1
            clear hR he hk0 hk1 ih h0 h1
            rcases h2 with h2 | ⟨h3, h2⟩
            · have hbe : b.toList.isEmpty = true := by rw [str_isEmpty]; simp [h2]
              clear h2
              go_enter Tryd.func25, Tryd.ntmps25
              go_wp2_with fail
              refine (HK0.out _).mono ?_
              rintro e w' ⟨rfl, rfl⟩
              go_wp2_with fail
              refine (HK1.out _).mono ?_
              rintro e w' ⟨rfl, rfl⟩
              go_wp2_with fail
              refine (elemOf_some HE.out _ (by omega)).mono ?_
              rintro e w' ⟨rfl, rfl⟩
              go_wp2_with fail
              refine (elemOf_none HF.out _ (by omega)).mono ?_
              rintro e w' ⟨rfl, rfl⟩
              go_wp2_with fail
              all_goals (go_ret2; go_tidy; refine ⟨?_, rfl⟩; rw [HR.out, HP.out]; simp_all [matchEnd, starB])
            · have hbe : b.toList.isEmpty = false := by rw [str_isEmpty]; simp [h3]
              have hk3 := fun W => kindFault_any b W hb
              rw [h2] at hk3
              have HK3 := Lib.hid hk3
              clear hk3 h2 h3
              go_enter Tryd.func25, Tryd.ntmps25
              go_wp2_with fail
              refine (HK0.out _).mono ?_
              rintro e w' ⟨rfl, rfl⟩
              go_wp2_with fail
              refine (HK1.out _).mono ?_
              rintro e w' ⟨rfl, rfl⟩
              go_wp2_with fail
              refine (HK3.out _).mono ?_
              rintro e w' ⟨rfl, rfl⟩
              go_wp2_with fail
              refine (elemOf_some HE.out _ (by omega)).mono ?_
              rintro e w' ⟨rfl, rfl⟩
              go_wp2_with fail
              refine (elemOf_none HF.out _ (by omega)).mono ?_
              rintro e w' ⟨rfl, rfl⟩
              go_wp2_with fail
              all_goals (go_ret2; go_tidy; refine ⟨?_, rfl⟩; rw [HR.out, HP.out]; simp_all [matchEnd, starB])
        | none =>
          have HP := Lib.hid (peel_none (p := p) (i := i) (Or.inl he))
          have hk2 := fun W => elemOf_any i W hi
          generalize (elemOf i).getD ⟨#[]⟩ = j1 at hk2
          generalize (elemOf i).isSome = j2 at hk2
          have HK2 := Lib.hid hk2
          clear hk2
          have HR := Lib.hid hR
          have HE := Lib.hid he
          have HK0 := Lib.hid hk0
          have HK1 := Lib.hid hk1
          clear hR he hk0 hk1 ih h0 h1
          rcases h2 with h2 | ⟨h3, h2⟩
          · have hbe : b.toList.isEmpty = true := by rw [str_isEmpty]; simp [h2]
            clear h2
            go_enter Tryd.func25, Tryd.ntmps25
            go_wp2_with fail
            refine (HK0.out _).mono ?_
            rintro e w' ⟨rfl, rfl⟩
            go_wp2_with fail
            refine (HK1.out _).mono ?_
            rintro e w' ⟨rfl, rfl⟩
            go_wp2_with fail
            refine (elemOf_none HE.out _ (by omega)).mono ?_
            rintro e w' ⟨rfl, rfl⟩
            go_wp2_with fail
            refine (HK2.out _).mono ?_
            rintro e w' ⟨rfl, rfl⟩
            go_wp2_with fail
            all_goals (go_ret2; go_tidy; refine ⟨?_, rfl⟩; rw [HR.out, HP.out]; simp_all [matchEnd, starB])
          · have hbe : b.toList.isEmpty = false := by rw [str_isEmpty]; simp [h3]
            have hk3 := fun W => kindFault_any b W hb
            rw [h2] at hk3
            have HK3 := Lib.hid hk3
            clear hk3 h2 h3
            go_enter Tryd.func25, Tryd.ntmps25
            go_wp2_with fail
            refine (HK0.out _).mono ?_
            rintro e w' ⟨rfl, rfl⟩
            go_wp2_with fail
            refine (HK1.out _).mono ?_
            rintro e w' ⟨rfl, rfl⟩
            go_wp2_with fail
            refine (HK3.out _).mono ?_
            rintro e w' ⟨rfl, rfl⟩
            go_wp2_with fail
            refine (elemOf_none HE.out _ (by omega)).mono ?_
            rintro e w' ⟨rfl, rfl⟩
            go_wp2_with fail
            refine (HK2.out _).mono ?_
            rintro e w' ⟨rfl, rfl⟩
            go_wp2_with fail
            all_goals (go_ret2; go_tidy; refine ⟨?_, rfl⟩; rw [HR.out, HP.out]; simp_all [matchEnd, starB])
      · have h3 : b.size ≠ 0 := fun e => h2 (Or.inl e)
        have h4 : kindErr b ≠ 0 := fun e => h2 (Or.inr ⟨h3, e⟩)
        have hR : matchR p i b = (⟨#[]⟩, kindErr b) := by simp [matchR, matchPre, h0, h1, h3, h4]
        rw [hR]
        have hk3 := fun W => kindFault_any b W hb
        generalize kindErr b = z at hk3 h4 ⊢
        have HK0 := Lib.hid hk0
        have HK1 := Lib.hid hk1
        have HK3 := Lib.hid hk3
        have h4n : (z != 0) = true := by simp [h4]
        have h4b : (z == 0) = false := by simp [h4]
        have hbe : b.toList.isEmpty = false := by rw [str_isEmpty]; simp [h3]
        clear hR hk0 hk1 hk3 ih h0 h1 h2 h3 h4
        go_enter Tryd.func25, Tryd.ntmps25
        go_wp2_with fail
        refine (HK0.out _).mono ?_
        rintro e w' ⟨rfl, rfl⟩
        go_wp2_with fail
        refine (HK1.out _).mono ?_
        rintro e w' ⟨rfl, rfl⟩
        go_wp2_with fail
        refine (HK3.out _).mono ?_
        rintro e w' ⟨rfl, rfl⟩
        go_wp2_with fail
        go_ret2
        exact ⟨rfl, rfl⟩
    · have hR : matchR p i b = (⟨#[]⟩, kindErr i) := by simp [matchR, matchPre, h0, h1]
      rw [hR]
      have hk1 := fun W => kindFault_any i W hi
      generalize kindErr i = z at hk1 h1 ⊢
      have HK0 := Lib.hid hk0
      have HK1 := Lib.hid hk1
      have h1n : (z != 0) = true := by simp [h1]
      have h1b : (z == 0) = false := by simp [h1]
      clear hR hk0 hk1 ih h0 h1
      go_enter Tryd.func25, Tryd.ntmps25
      go_wp2_with fail
      refine (HK0.out _).mono ?_
      rintro e w' ⟨rfl, rfl⟩
      go_wp2_with fail
      refine (HK1.out _).mono ?_
      rintro e w' ⟨rfl, rfl⟩
      go_wp2_with fail
      go_ret2
      exact ⟨rfl, rfl⟩
  · have hR : matchR p i b = (⟨#[]⟩, kindErr p) := by simp [matchR, matchPre, h0]
    rw [hR]
    have hk0 := fun W => kindFault_any p W hp
    generalize kindErr p = z at hk0 h0 ⊢
    have HK0 := Lib.hid hk0
    have h0n : (z != 0) = true := by simp [h0]
    have h0b : (z == 0) = false := by simp [h0]
    clear hR hk0 ih h0
    go_enter Tryd.func25, Tryd.ntmps25
    go_wp2_with fail
    refine (HK0.out _).mono ?_
    rintro e w' ⟨rfl, rfl⟩
    go_wp2_with fail
    go_ret2
    exact ⟨rfl, rfl⟩

end Go.Proofs.YtoejhgbndehaiaaDoor
