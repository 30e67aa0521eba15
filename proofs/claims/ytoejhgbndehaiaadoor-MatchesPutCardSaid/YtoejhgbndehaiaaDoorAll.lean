/- Types one by one with what is there: unify.All, and the reference's AllOf. -/
import Derived.Test.YtoejhgbndehaiaaDoorPut
import Derived.Test.YtoejhgbndehaiaaDoorUnify
import Derived.Test.YtoejhgbndehaiaaDoorBase
import Derived.Deep.RegionWith
import Derived.Deep.DeepCutAuto
import Derived.Deep.QuietTactic
import Derived.BigQuiet
import Derived.WalkSmall
namespace Go.Proofs.YtoejhgbndehaiaaDoor
open Go.RowKit Go.Shelf

/-- What the variable stands for behind all of a list. -/
def bindN : List (ByteArray × ByteArray) → ByteArray → ByteArray × Int
  | [], b => (b, 0)
  | x :: l, b => if (matchR x.1 x.2 b).2 = 0 then bindN l (matchR x.1 x.2 b).1 else (⟨#[]⟩, (matchR x.1 x.2 b).2)
def bound0 (ps as_ : List ByteArray) : ByteArray × Int := bindN (ps.zip as_) ⟨#[]⟩
def allR (ps as_ : List ByteArray) (r : ByteArray) : ByteArray × Int :=
  if 8 < ps.length ∨ 8 < as_.length then (⟨#[]⟩, 1) else if ps.length ≠ as_.length then (⟨#[]⟩, 6)
  else if (bound0 ps as_).2 ≠ 0 then (⟨#[]⟩, (bound0 ps as_).2) else if kindErr r ≠ 0 then (⟨#[]⟩, kindErr r)
  else if openB r = true ∧ (bound0 ps as_).1.size = 0 then (⟨#[]⟩, 8) else putR r (bound0 ps as_).1

section
variable {ps as_ : List ByteArray} {r B p a : ByteArray} {z : Int} {k : Nat}
theorem all_many (h : 8 < ps.length ∨ 8 < as_.length) : allR ps as_ r = (⟨#[]⟩, 1) := by unfold allR; rw [if_pos h]
theorem all_other (h : ¬ (8 < ps.length ∨ 8 < as_.length)) (h2 : ps.length ≠ as_.length) : allR ps as_ r = (⟨#[]⟩, 6) := by unfold allR; rw [if_neg h, if_pos h2]
theorem all_match (h : ¬ (8 < ps.length ∨ 8 < as_.length)) (h2 : ps.length = as_.length) (h3 : bound0 ps as_ = (⟨#[]⟩, z)) (hz : z ≠ 0) : allR ps as_ r = (⟨#[]⟩, z) := by
  unfold allR; rw [if_neg h, if_neg (by simp [h2]), h3, if_pos hz]
theorem all_kind (h : ¬ (8 < ps.length ∨ 8 < as_.length)) (h2 : ps.length = as_.length) (h3 : bound0 ps as_ = (B, 0)) (hz : kindErr r ≠ 0) : allR ps as_ r = (⟨#[]⟩, kindErr r) := by
  unfold allR; rw [if_neg h, if_neg (by simp [h2]), h3, if_neg (by simp), if_pos hz]
theorem all_open (h : ¬ (8 < ps.length ∨ 8 < as_.length)) (h2 : ps.length = as_.length) (h3 : bound0 ps as_ = (B, 0)) (hz : kindErr r = 0) (ho : openB r = true) (hb : B.size = 0) : allR ps as_ r = (⟨#[]⟩, 8) := by
  unfold allR; rw [if_neg h, if_neg (by simp [h2]), h3, if_neg (by simp), if_neg (by simp [hz]), if_pos ⟨ho, hb⟩]
theorem all_put (h : ¬ (8 < ps.length ∨ 8 < as_.length)) (h2 : ps.length = as_.length) (h3 : bound0 ps as_ = (B, 0)) (hz : kindErr r = 0) (ho : ¬ (openB r = true ∧ B.size = 0)) : allR ps as_ r = putR r B := by
  unfold allR; rw [if_neg h, if_neg (by simp [h2]), h3, if_neg (by simp), if_neg (by simp [hz]), if_neg ho]
theorem zip_at (hp : ps[k]? = some p) (ha : as_[k]? = some a) : (ps.zip as_).drop k = (p, a) :: (ps.zip as_).drop (k + 1) := by
  have h : (ps.zip as_)[k]? = some (p, a) := by rw [List.getElem?_zip_eq_some]; exact ⟨hp, ha⟩
  obtain ⟨hk, he⟩ := List.getElem?_eq_some_iff.1 h
  rw [List.drop_eq_getElem_cons hk, he]
theorem bind_step {S : ByteArray} (hp : ps[k]? = some p) (ha : as_[k]? = some a) (hm : matchR p a B = (S, 0)) : bindN ((ps.zip as_).drop k) B = bindN ((ps.zip as_).drop (k + 1)) S := by
  rw [zip_at hp ha]
  conv => lhs; unfold bindN
  rw [hm, if_pos rfl]
theorem bind_err {S : ByteArray} (hp : ps[k]? = some p) (ha : as_[k]? = some a) (hm : matchR p a B = (S, z)) (hz : z ≠ 0) : bindN ((ps.zip as_).drop k) B = (⟨#[]⟩, z) := by
  rw [zip_at hp ha]; unfold bindN; rw [hm, if_neg hz]
theorem bind_end (h : ps.length = as_.length) : bindN ((ps.zip as_).drop ps.length) B = (B, 0) := by
  rw [List.drop_of_length_le (by rw [List.length_zip]; omega)]; rfl
theorem peelF_size : ∀ (n : Nat) (p i : ByteArray), (peelF n p i).2.size ≤ i.size
  | 0, _, _ => Nat.le_refl _
  | n + 1, p, i => by
    unfold peelF
    split
    · next q j hq hj =>
      have := elemOf_size hj
      have := peelF_size n q j
      omega
    · exact Nat.le_refl _
theorem matchR_size {i b : ByteArray} {n : Nat} (hi : i.size ≤ n) (hb : b.size ≤ n) : (matchR p i b).1.size ≤ n := by
  have h0 : (⟨#[]⟩ : ByteArray).size ≤ n := Nat.zero_le _
  unfold matchR
  split
  · unfold matchEnd
    split
    · split
      · exact Nat.le_trans (peelF_size _ _ _) hi
      · exact h0
    · split
      · exact hb
      · exact h0
  · exact h0
theorem empty_iff (s : ByteArray) : s.toList.isEmpty = decide (s.size = 0) := by
  rw [ByteArray.toList_eq, Bool.eq_iff_iff]
  simp only [List.isEmpty_iff, decide_eq_true_eq]
  constructor
  · intro h; show s.data.size = 0; rw [← Array.length_toList, h]; rfl
  · intro h; exact List.length_eq_zero_iff.1 (by rw [Array.length_toList]; exact h)
end

set_option maxRecDepth 100000 in
set_option maxHeartbeats 4000000 in
theorem all_any (ps as_ : List ByteArray) (r : ByteArray) (v1 v2 : Value) (F G : Foot) (m : Int) (w : World) (hF : ∀ k, F k → k < w.heap.size) (hG : ∀ k, G k → k < w.heap.size) (h1 : SliceOf StrR 1 16 w F v1 ps) (h2 : SliceOf StrR 1 16 w G v2 as_)
    (hr : r.size ≤ 140737488355328) (hm : w.cell? ⟨0, 0, none⟩ = some (.int .i64 m)) :
    Calls Tryd.prog 10 #[v1, v2, .string r] w fun e w' => e = .returned (.tuple #[.string (allR ps as_ r).1, .int .i64 (allR ps as_ r).2]) ∧ Below w.heap.size w w' := by
  obtain ⟨A1, c1, rfl, _, _, hl1, _⟩ := h1.form
  obtain ⟨A2, c2, rfl, _, _, hl2, _⟩ := h2.form
  have hk := fun U => kindCheck_any r U hr
  have hop := fun U => kindOpen_any r U
  have hput := fun (B : ByteArray) (hB : B.size ≤ 140737488355328) U (hU : Below w.heap.size w U) => put_any r B m U hr hB ((hU.cell (World.block_lt_of_cell? w _ hm)).trans hm)
  have hm1 := fun h => all_many (ps := ps) (as_ := as_) (r := r) h
  have hm2 := fun h h2 => all_other (ps := ps) (as_ := as_) (r := r) h h2
  have hm3 := fun (z : Int) h h2 h3 hz => all_match (ps := ps) (as_ := as_) (r := r) (z := z) h h2 h3 hz
  have hm4 := fun (B : ByteArray) h h2 h3 hz => all_kind (ps := ps) (as_ := as_) (r := r) (B := B) h h2 h3 hz
  have hm5 := fun (B : ByteArray) h h2 h3 hz ho hb => all_open (ps := ps) (as_ := as_) (r := r) (B := B) h h2 h3 hz ho hb
  have hm6 := fun (B : ByteArray) h h2 h3 hz ho => all_put (ps := ps) (as_ := as_) (r := r) (B := B) h h2 h3 hz ho
  generalize allR ps as_ r = E at hm1 hm2 hm3 hm4 hm5 hm6 ⊢
  generalize kindErr r = z1 at hk hm4 hm5 hm6
  generalize openB r = zo at hop hm5 hm6
  have HK := Lib.hid hk; have HOP := Lib.hid hop; have HPUT := Lib.hid hput; have HM1 := Lib.hid hm1; have HM2 := Lib.hid hm2; have HM3 := Lib.hid hm3; have HM4 := Lib.hid hm4; have HM5 := Lib.hid hm5; have HM6 := Lib.hid hm6; have H1 := Lib.hid h1; have H2 := Lib.hid h2
  clear hk hop hput hm1 hm2 hm3 hm4 hm5 hm6 h1 h2
  go_enter Tryd.func10, Tryd.ntmps10
  by_cases h8 : 8 < ps.length
  · have h8z : (8 : Int) < (ps.length : Int) := by omega
    have he := HM1.out (.inl h8)
    subst he
    go_wp2_with fail
    go_ret2
    exact ⟨rfl, Below.refl _ _⟩
  by_cases h9 : 8 < as_.length
  · have h8z : ¬ (8 : Int) < (ps.length : Int) := by omega
    have h9z : (8 : Int) < (as_.length : Int) := by omega
    have he := HM1.out (.inr h9)
    subst he
    go_wp2_with fail
    go_ret2
    exact ⟨rfl, Below.refl _ _⟩
  have h8z : ¬ (8 : Int) < (ps.length : Int) := by omega
  have h9z : ¬ (8 : Int) < (as_.length : Int) := by omega
  have hn89 : ¬ (8 < ps.length ∨ 8 < as_.length) := by omega
  by_cases hne : ps.length ≠ as_.length
  · have hnez : ¬ (ps.length : Int) = (as_.length : Int) := by omega
    have hneb : ((ps.length : Int) == (as_.length : Int)) = false := by simp [hnez]
    have he := HM2.out hn89 hne
    subst he
    go_wp2_with fail
    go_ret2
    exact ⟨rfl, Below.refl _ _⟩
  have heq : ps.length = as_.length := by omega
  have heqb : ((ps.length : Int) == (as_.length : Int)) = true := by simp [heq]
  have HEQ := Lib.hid heq
  have HN89 := Lib.hid hn89
  clear hne hn89 heq
  go_wp2_with fail
  go_loopg [8, 9, 10, 11, 28] ps.length (fun gg s8 s9 s10 s11 s28 wr => ∃ (kk : Nat) (B : ByteArray), kk ≤ ps.length ∧ ps.length - kk ≤ gg ∧ s28 = .int .i64 kk ∧ s8 = .string B ∧ Aside (B.size ≤ 140737488355328) ∧ Aside (bindN ((ps.zip as_).drop kk) B = bound0 ps as_) ∧ Aside (Below w.heap.size w wr))
  case atStart => exact ⟨0, ⟨#[]⟩, Nat.zero_le _, by omega, rfl, rfl, aside (Nat.zero_le _), aside rfl, aside (Below.refl _ _)⟩
  case round =>
    obtain ⟨kk, B, hkk, hg, rfl, rfl, hB, hbn, BW⟩ := hrel
    by_cases hlt : kk < ps.length
    · have hltz : (kk : Int) < (ps.length : Int) := by omega
      have hlt2 : kk < as_.length := by have := HEQ.out; omega
      have hltz2 : (kk : Int) < (as_.length : Int) := by omega
      obtain ⟨b1, off1, cs1, hA1, hb1F, hcs1, ⟨rfl, hps⟩, hcell1⟩ := (H1.out.up StrR.stays hF BW.out).at_ hlt
      obtain ⟨b2, off2, cs2, hA2, hb2F, hcs2, ⟨rfl, has⟩, hcell2⟩ := (H2.out.up StrR.stays hG BW.out).at_ hlt2
      have hx1 := List.getElem?_eq_getElem hlt
      have hx2 := List.getElem?_eq_getElem hlt2
      generalize ps[kk] = p at hx1 hps hcell1
      generalize as_[kk] = a at hx2 has hcell2
      have hc1 := hcell1 0 _ rfl
      have hc2 := hcell2 0 _ rfl
      simp only [Nat.mul_one, Nat.add_zero] at hc1 hc2
      subst hA1; subst hA2
      have hmt := fun U => match_any p a B U hps has hB.out
      have hsz := matchR_size (p := p) has hB.out
      have hst := fun S h => bind_step (ps := ps) (as_ := as_) (B := B) (S := S) hx1 hx2 h
      have her := fun S z h hz => bind_err (ps := ps) (as_ := as_) (B := B) (S := S) (z := z) hx1 hx2 h hz
      generalize matchR p a B = q at hmt hsz hst her
      obtain ⟨S, C⟩ := q
      dsimp only at hmt hsz
      have hst := fun (h : C = 0) => hst S (by rw [h])
      have her := fun (h : C ≠ 0) => her S C rfl h
      have HMT := Lib.hid hmt; have HSZ := Lib.hid hsz; have HST := Lib.hid hst; have HER := Lib.hid her
      clear hmt hsz hst her
      clear hcell1 hcell2 hcs1 hcs2 hx1 hx2
      go_wp2_with fail
      refine (HMT.out _).mono ?_
      rintro e w1 ⟨rfl, hb1⟩
      have hbw := BW.out.trans (hb1.mono BW.out.size)
      by_cases hC : C = 0
      · subst hC
        have hs := HST.out rfl
        have HS := Lib.hid hs; have HBW := Lib.hid hbw
        clear hs hbw
        go_wp2_with fail
        go_roundg (ps.length - (kk + 1))
        case measure => omega
        case rel => exact ⟨kk + 1, S, by omega, by omega, by go_num, rfl, aside HSZ.out, aside (HS.out.symm.trans hbn.out), aside HBW.out⟩
      · have hCb : (C == 0) = false := by simp [hC]
        have he := HM3.out C HN89.out HEQ.out (hbn.out.symm.trans (HER.out hC)) hC
        subst he
        have HBW := Lib.hid hbw
        clear hbw
        go_wp2_with fail
        go_ret2
        exact ⟨rfl, HBW.out⟩
    · have hltz : ¬ (kk : Int) < (ps.length : Int) := by omega
      obtain rfl : kk = ps.length := by omega
      have hb0 : bound0 ps as_ = (B, 0) := hbn.out.symm.trans (bind_end HEQ.out)
      have hbe := empty_iff B
      have hpt := HPUT.out B hB.out
      have HB0 := Lib.hid hb0; have HPT := Lib.hid hpt
      clear hb0 hpt
      go_wp2_with fail
      refine (HK.out _).mono ?_
      rintro e w' ⟨rfl, rfl⟩
      by_cases hz1 : z1 = 0
      · subst hz1
        go_wp2_with fail
        refine (HOP.out _).mono ?_
        rintro e w' ⟨rfl, rfl⟩
        by_cases hob : zo = true ∧ B.size = 0
        · obtain ⟨rfl, hob⟩ := hob
          have hbe2 : B.toList.isEmpty = true := by rw [hbe]; simp [hob]
          clear hbe
          have he := HM5.out B HN89.out HEQ.out HB0.out (by first | rfl | trivial) (by first | rfl | trivial) hob
          subst he
          go_wp2_with fail
          go_ret2
          exact ⟨rfl, BW.out⟩
        · have he := HM6.out B HN89.out HEQ.out HB0.out (by first | rfl | trivial) hob
          subst he
          cases zo with
          | false =>
            go_wp2_with fail
            refine (HPT.out _ BW.out).mono ?_
            rintro e w2 ⟨rfl, hb2⟩
            have hbw := BW.out.trans (hb2.mono BW.out.size)
            have HBW := Lib.hid hbw
            clear hbw
            go_wp2_with fail
            go_ret2
            exact ⟨rfl, HBW.out⟩
          | true =>
            have hbe2 : B.toList.isEmpty = false := by rw [hbe]; simp at hob; simp [hob]
            clear hbe hob
            go_wp2_with fail
            refine (HPT.out _ BW.out).mono ?_
            rintro e w2 ⟨rfl, hb2⟩
            have hbw := BW.out.trans (hb2.mono BW.out.size)
            have HBW := Lib.hid hbw
            clear hbw
            go_wp2_with fail
            go_ret2
            exact ⟨rfl, HBW.out⟩
      · have hzb : (z1 == 0) = false := by simp [hz1]
        have he := HM4.out B HN89.out HEQ.out HB0.out hz1
        subst he
        go_wp2_with fail
        go_ret2
        exact ⟨rfl, BW.out⟩

set_option maxRecDepth 100000 in
set_option maxHeartbeats 4000000 in
theorem allOf_any (ps as_ : List ByteArray) (r : ByteArray) (v1 v2 : Value) (F G : Foot) (w : World) (hF : ∀ k, F k → k < w.heap.size) (hG : ∀ k, G k → k < w.heap.size) (h1 : SliceOf StrR 1 16 w F v1 ps) (h2 : SliceOf StrR 1 16 w G v2 as_)
    (hr : r.size ≤ 140737488355328) :
    Calls Tryd.prog 11 #[v1, v2, .string r] w fun e w' => e = .returned (.tuple #[.string (allR ps as_ r).1, .int .i64 (allR ps as_ r).2]) ∧ Below w.heap.size w w' := by
  obtain ⟨A1, c1, rfl, _, _, hl1, _⟩ := h1.form
  obtain ⟨A2, c2, rfl, _, _, hl2, _⟩ := h2.form
  have hk := fun U => kindFault_any r U hr
  have hop := fun U => isOpen_any r U hr
  have hput := fun (B : ByteArray) (hB : B.size ≤ 140737488355328) U => putOf_any r B U hr hB
  have hm1 := fun h => all_many (ps := ps) (as_ := as_) (r := r) h
  have hm2 := fun h h2 => all_other (ps := ps) (as_ := as_) (r := r) h h2
  have hm3 := fun (z : Int) h h2 h3 hz => all_match (ps := ps) (as_ := as_) (r := r) (z := z) h h2 h3 hz
  have hm4 := fun (B : ByteArray) h h2 h3 hz => all_kind (ps := ps) (as_ := as_) (r := r) (B := B) h h2 h3 hz
  have hm5 := fun (B : ByteArray) h h2 h3 hz ho hb => all_open (ps := ps) (as_ := as_) (r := r) (B := B) h h2 h3 hz ho hb
  have hm6 := fun (B : ByteArray) h h2 h3 hz ho => all_put (ps := ps) (as_ := as_) (r := r) (B := B) h h2 h3 hz ho
  generalize allR ps as_ r = E at hm1 hm2 hm3 hm4 hm5 hm6 ⊢
  generalize kindErr r = z1 at hk hm4 hm5 hm6
  generalize openB r = zo at hop hm5 hm6
  have HK := Lib.hid hk; have HOP := Lib.hid hop; have HPUT := Lib.hid hput; have HM1 := Lib.hid hm1; have HM2 := Lib.hid hm2; have HM3 := Lib.hid hm3; have HM4 := Lib.hid hm4; have HM5 := Lib.hid hm5; have HM6 := Lib.hid hm6; have H1 := Lib.hid h1; have H2 := Lib.hid h2
  clear hk hop hput hm1 hm2 hm3 hm4 hm5 hm6 h1 h2
  go_enter Tryd.func11, Tryd.ntmps11
  by_cases h8 : 8 < ps.length
  · have h8z : (8 : Int) < (ps.length : Int) := by omega
    have he := HM1.out (.inl h8)
    subst he
    go_wp2_with fail
    go_ret2
    exact ⟨rfl, Below.refl _ _⟩
  by_cases h9 : 8 < as_.length
  · have h8z : ¬ (8 : Int) < (ps.length : Int) := by omega
    have h9z : (8 : Int) < (as_.length : Int) := by omega
    have he := HM1.out (.inr h9)
    subst he
    go_wp2_with fail
    go_ret2
    exact ⟨rfl, Below.refl _ _⟩
  have h8z : ¬ (8 : Int) < (ps.length : Int) := by omega
  have h9z : ¬ (8 : Int) < (as_.length : Int) := by omega
  have hn89 : ¬ (8 < ps.length ∨ 8 < as_.length) := by omega
  by_cases hne : ps.length ≠ as_.length
  · have hnez : ¬ (ps.length : Int) = (as_.length : Int) := by omega
    have hneb : ((ps.length : Int) == (as_.length : Int)) = false := by simp [hnez]
    have he := HM2.out hn89 hne
    subst he
    go_wp2_with fail
    go_ret2
    exact ⟨rfl, Below.refl _ _⟩
  have heq : ps.length = as_.length := by omega
  have heqb : ((ps.length : Int) == (as_.length : Int)) = true := by simp [heq]
  have HEQ := Lib.hid heq
  have HN89 := Lib.hid hn89
  clear hne hn89 heq
  go_wp2_with fail
  go_loopg [8, 9, 10, 11] ps.length (fun gg s8 s9 s10 s11 wr => ∃ (kk : Nat) (B : ByteArray), kk ≤ ps.length ∧ ps.length - kk ≤ gg ∧ s9 = .int .i64 kk ∧ s8 = .string B ∧ Aside (B.size ≤ 140737488355328) ∧ Aside (bindN ((ps.zip as_).drop kk) B = bound0 ps as_) ∧ Aside (Below w.heap.size w wr))
  case atStart => exact ⟨0, ⟨#[]⟩, Nat.zero_le _, by omega, rfl, rfl, aside (Nat.zero_le _), aside rfl, aside (Below.refl _ _)⟩
  case round =>
    obtain ⟨kk, B, hkk, hg, rfl, rfl, hB, hbn, BW⟩ := hrel
    obtain ⟨wo, rfl⟩ : ∃ W, W = wr := ⟨_, rfl⟩
    by_cases hlt : kk < ps.length
    · have hltz : (kk : Int) < (ps.length : Int) := by omega
      have hlt2 : kk < as_.length := by have := HEQ.out; omega
      have hltz2 : (kk : Int) < (as_.length : Int) := by omega
      obtain ⟨b1, off1, cs1, hA1, hb1F, hcs1, ⟨rfl, hps⟩, hcell1⟩ := (H1.out.up StrR.stays hF BW.out).at_ hlt
      obtain ⟨b2, off2, cs2, hA2, hb2F, hcs2, ⟨rfl, has⟩, hcell2⟩ := (H2.out.up StrR.stays hG BW.out).at_ hlt2
      have hx1 := List.getElem?_eq_getElem hlt
      have hx2 := List.getElem?_eq_getElem hlt2
      generalize ps[kk] = p at hx1 hps hcell1
      generalize as_[kk] = a at hx2 has hcell2
      have hc1 := hcell1 0 _ rfl
      have hc2 := hcell2 0 _ rfl
      simp only [Nat.mul_one, Nat.add_zero] at hc1 hc2
      subst hA1; subst hA2
      have hmt := fun U => matchOf_n p.size p a B U (Nat.le_refl _) hps has hB.out
      have hsz := matchR_size (p := p) has hB.out
      have hst := fun S h => bind_step (ps := ps) (as_ := as_) (B := B) (S := S) hx1 hx2 h
      have her := fun S z h hz => bind_err (ps := ps) (as_ := as_) (B := B) (S := S) (z := z) hx1 hx2 h hz
      generalize matchR p a B = q at hmt hsz hst her
      obtain ⟨S, C⟩ := q
      dsimp only at hmt hsz
      have hst := fun (h : C = 0) => hst S (by rw [h])
      have her := fun (h : C ≠ 0) => her S C rfl h
      have hmt' := fun U => (hmt U).mono fun e w' h => (⟨h.1, h.2.symm⟩ : e = .returned (.tuple #[.string S, .int .i64 C]) ∧ w' = U)
      have HMT := Lib.hid hmt'; have HSZ := Lib.hid hsz; have HST := Lib.hid hst; have HER := Lib.hid her
      clear hmt' hsz hst her
      clear hcell1 hcell2 hcs1 hcs2 hx1 hx2 hmt
      go_upto_region 9 with fail
      go_cut [10, 11] (fun s10 s11 wc => s10 = .string S ∧ s11 = .int .i64 C ∧ Aside (Below wo.heap.size wo wc))
      case first =>
        go_wp2_with fail
        go_quiet ((go_at_call 25; exact Calls.quiet_of_same (HMT.out _)))
        go_wp2_with fail
        go_meet
        exact ⟨rfl, rfl, aside (below_drewN (Below.refl _ _) _)⟩
      case rest =>
      obtain ⟨rfl, rfl, hb1⟩ := hcut
      obtain ⟨w1, rfl⟩ : ∃ W, W = wc := ⟨_, rfl⟩
      have hbw := BW.out.trans (hb1.out.mono BW.out.size)
      by_cases hC : C = 0
      · subst hC
        have hs := HST.out rfl
        have HS := Lib.hid hs; have HBW := Lib.hid hbw
        clear hs hbw
        go_wp2_with fail
        go_roundg (ps.length - (kk + 1))
        case measure => omega
        case rel => exact ⟨kk + 1, S, by omega, by omega, by go_num, rfl, aside HSZ.out, aside (HS.out.symm.trans hbn.out), aside HBW.out⟩
      · have hCb : (C == 0) = false := by simp [hC]
        have he := HM3.out C HN89.out HEQ.out (hbn.out.symm.trans (HER.out hC)) hC
        subst he
        have HBW := Lib.hid hbw
        clear hbw
        go_wp2_with fail
        go_ret2
        exact ⟨rfl, HBW.out⟩
    · have hltz : ¬ (kk : Int) < (ps.length : Int) := by omega
      obtain rfl : kk = ps.length := by omega
      have hb0 : bound0 ps as_ = (B, 0) := hbn.out.symm.trans (bind_end HEQ.out)
      have hbe := empty_iff B
      have hpt := HPUT.out B hB.out
      have HB0 := Lib.hid hb0; have HPT := Lib.hid hpt
      clear hb0 hpt
      go_wp2_with fail
      refine (HK.out _).mono ?_
      rintro e w' ⟨rfl, rfl⟩
      by_cases hz1 : z1 = 0
      · subst hz1
        by_cases hob : zo = true ∧ B.size = 0
        · obtain ⟨rfl, hob⟩ := hob
          have hbe2 : B.toList.isEmpty = true := by rw [hbe]; simp [hob]
          clear hbe
          have he := HM5.out B HN89.out HEQ.out HB0.out (by first | rfl | trivial) (by first | rfl | trivial) hob
          subst he
          go_wp2_with fail
          refine (HOP.out _).mono ?_
          rintro e w' ⟨rfl, rfl⟩
          go_wp2_with fail
          go_ret2
          exact ⟨rfl, BW.out⟩
        · have he := HM6.out B HN89.out HEQ.out HB0.out (by first | rfl | trivial) hob
          subst he
          cases zo with
          | false =>
            clear hbe hob
            go_wp2_with fail
            refine (HOP.out _).mono ?_
            rintro e w' ⟨rfl, rfl⟩
            go_wp2_with fail
            refine (HPT.out _).mono ?_
            rintro e w2 ⟨rfl, hb2⟩
            have hbw := BW.out.trans (hb2.mono BW.out.size)
            have HBW := Lib.hid hbw
            clear hbw
            go_wp2_with fail
            go_ret2
            exact ⟨rfl, HBW.out⟩
          | true =>
            have hbe2 : B.toList.isEmpty = false := by rw [hbe]; simp at hob; simp [hob]
            clear hbe hob
            go_wp2_with fail
            refine (HOP.out _).mono ?_
            rintro e w' ⟨rfl, rfl⟩
            go_wp2_with fail
            refine (HPT.out _).mono ?_
            rintro e w2 ⟨rfl, hb2⟩
            have hbw := BW.out.trans (hb2.mono BW.out.size)
            have HBW := Lib.hid hbw
            clear hbw
            go_wp2_with fail
            go_ret2
            exact ⟨rfl, HBW.out⟩
      · have hzb : (z1 == 0) = false := by simp [hz1]
        have he := HM4.out B HN89.out HEQ.out HB0.out hz1
        subst he
        clear hbe
        go_wp2_with fail
        go_ret2
        exact ⟨rfl, BW.out⟩

end Go.Proofs.YtoejhgbndehaiaaDoor
