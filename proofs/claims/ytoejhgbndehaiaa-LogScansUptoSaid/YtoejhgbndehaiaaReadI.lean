/- The reader's closure for an import. -/
import Derived.Test.YtoejhgbndehaiaaReadF
namespace Go.Proofs.Ytoejhgbndehaiaa
open Go.RowKit Go.Shelf

theorem Stays.put {α : Type} {R : CR α} {n m : Nat} {w : World} {cs : List Value} {x : α} (hR : Stays R) (h : R w (fresh n m) cs x) {p : Addr} (hp : p.block < n) (u : Value) : R (w.setCell p u) (fresh n m) cs x :=
  hR _ _ _ _ _ _ h (fun _ h => h) ((Keeps.refl _ _).setCell (fresh_no hp) u)
theorem FaceR.pf {n m : Nat} {w : World} {cs : List Value} {x : Face} (h : FaceR w (fresh n m) cs x) {p : Addr} (hp : p.block < n) (u : Value) : FaceR (w.setCell p u) (fresh n m) cs x := FaceR.stays.put h hp u
theorem FaceR.ff {n m n' m' : Nat} {w : World} {cs : List Value} {x : Face} (h : FaceR w (fresh n m) cs x) (h1 : n' ≤ n) (h2 : m ≤ m') : FaceR w (fresh n' m') cs x := FaceR.stays _ _ _ _ _ _ h (fresh_up h1 h2) (Keeps.refl _ _)
theorem Reads.there {s s' : List UInt8} {e e' : Int} {n : Nat} (h : Reads rdNum s e n s' e') : Reads rdThere s e (decide (n = 1)) s' (if e' = 0 ∧ 1 < n then 4 else e') := by
  refine Reads.bind (f := fun n s => if 1 < n then .error 4 else .ok (decide (n = 1), s)) h ?_
  by_cases h0 : e' = 0
  · by_cases h1 : 1 < n
    · rw [if_pos ⟨h0, h1⟩]
      exact .inr (.inl ⟨h0, by simp [h1], by decide⟩)
    · rw [if_neg (fun h => h1 h.2)]
      exact .inl ⟨h0, by simp [h1], h0⟩
  · rw [if_neg (fun h => h0 h.1)]
    exact .inr (.inr ⟨h0, rfl⟩)

set_option maxRecDepth 100000 in
set_option maxHeartbeats 8000000 in
theorem import_read (b q : Nat) (s : ByteArray) (e : Int) (w : World) (hs : okS s) (hei : I64 e) (hB : Eye w b s e) (hqb : q ≠ b) (hQ : Held w q b) :
    Calls Try.prog 58 #[.pointer (some ⟨q, 0, none⟩)] w fun en w' => ∃ (x : Import) (A1 : Option Addr) (n1 c1 : Nat) (A2 : Option Addr) (n2 c2 : Nat), en = .returned (.agg #[.string x.name, .bool x.there, .slice A1 n1 c1, .slice A2 n2 c2]) ∧ okS x.name ∧
      FaceR w' (fresh w.heap.size w'.heap.size) [.slice A1 n1 c1, .slice A2 n2 c2] x.face ∧ ReadTo b rdImport s e x w w' := by
  have hbl := hB.lt
  have hql := hQ.lt
  have HB0 := Lib.hid hB; have HH0 := Lib.hid hQ
  clear hB hQ
  go_enter Try.func58, Try.ntmps58
  go_upto_region 1 with fail
  have hBb := Box.made w 94 #[.string ⟨#[]⟩, .bool false, .slice none 0 0, .slice none 0 0]
  have hbb : Below w.heap.size w (w.alloc (.cells #[.string ⟨#[]⟩, .bool false, .slice none 0 0, .slice none 0 0] 94)) := by go_grown
  have hzb : (w.alloc (.cells #[.string ⟨#[]⟩, .bool false, .slice none 0 0, .slice none 0 0] 94)).heap.size = w.heap.size + 1 := by simp
  generalize w.alloc (.cells #[.string ⟨#[]⟩, .bool false, .slice none 0 0, .slice none 0 0] 94) = W1 at hBb hbb hzb ⊢
  have hB1 := HB0.out.later hbb hbl
  have hQ1 := HH0.out.later hbb hql
  have hg1 := Grew.of_below (b := b) hbb some_le
  have q1 := hQ1.at_ 0 _ rfl
  have hne : w.heap.size ≠ b := by omega
  have hqr : w.heap.size ≠ q := by omega
  have ht := text_any b s e W1 hs hei hB1
  have HT1 := Lib.hid ht; have HQ1 := Lib.hid hQ1; have HG1 := Lib.hid hg1; have HX1 := Lib.hid hBb; have HZ1 := Lib.hid hzb
  clear ht hQ1 hg1 hBb hzb
  clear hbb HB0 HH0 hB1
  go_wp2_with fail
  refine HT1.out.mono ?_
  rintro en w2 ⟨x2, hx2, rfl, s2, e2, hB2, hg2, hs2, he2, hR2⟩
  have hz2 := hg2.size
  have hQ2 := hg2.box_ HQ1.out hqb
  have hX2 := hg2.box_ HX1.out hne
  have hg12 := HG1.out.trans_ hg2
  clear q1 HT1 HX1 HQ1
  have HB2 := Lib.hid hB2; have HQ2 := Lib.hid hQ2; have HX2 := Lib.hid hX2; have HG2 := Lib.hid hg12; have HZ2 := Lib.hid hz2; have HR2 := Lib.hid hR2; have HN2 := Lib.hid hx2
  clear hB2 hQ2 hX2 hg12 hz2 hR2 hx2
  clear hg2
  go_upto_region 2 with fail
  have hBm := Box.made w2 94 #[.string x2, .bool false, .slice none 0 0, .slice none 0 0]
  have hbm : Below w2.heap.size w2 (w2.alloc (.cells #[.string x2, .bool false, .slice none 0 0, .slice none 0 0] 94)) := by go_grown
  have hzm : (w2.alloc (.cells #[.string x2, .bool false, .slice none 0 0, .slice none 0 0] 94)).heap.size = w2.heap.size + 1 := by simp
  generalize w2.alloc (.cells #[.string x2, .bool false, .slice none 0 0, .slice none 0 0] 94) = W3 at hBm hbm hzm ⊢
  have hB3 := HB2.out.later hbm HB2.out.lt
  have hQ3 := HQ2.out.later hbm HQ2.out.lt
  have hX3 := HX2.out.later hbm HX2.out.lt
  have hg3 := HG2.out.trans_ (Grew.of_below (b := b) hbm some_le)
  have q3 := hQ3.at_ 0 _ rfl
  have hbl2 := HB2.out.lt
  have hxl2 := HX2.out.lt
  have hc := count_any b s2 e2 W3 hs2 he2 hB3
  have HC := Lib.hid hc; have HQ3 := Lib.hid hQ3; have HX3 := Lib.hid hX3; have HM3 := Lib.hid hBm; have HG3 := Lib.hid hg3; have HZ3 := Lib.hid hzm
  clear hc hQ3 hX3 hBm hg3 hzm
  clear hbm hB3 HB2 HQ2 HX2 HG2
  go_wp2_with fail
  refine HC.out.mono ?_
  rintro en w4 ⟨n, hn, rfl, s4, e4, hB4, hg4, hs4, he4, hR4⟩
  have hmbn : w2.heap.size ≠ b := by omega
  have hz4 := hg4.size
  have hQ4 := hg4.box_ HQ3.out hqb
  have hX4 := hg4.box_ HX3.out hne
  have hM4 := hg4.box_ HM3.out hmbn
  have hg14 := HG3.out.trans_ hg4
  have hmb : b ≠ (⟨w2.heap.size, 1, none⟩ : Addr).block := by simpa using hmbn.symm
  have hxm : w.heap.size ≠ (⟨w2.heap.size, 1, none⟩ : Addr).block := by have := HZ1.out; simp; omega
  have hzm : w.heap.size ≤ (⟨w2.heap.size, 1, none⟩ : Addr).block := by have := HZ1.out; have := HZ2.out; simp; omega
  have hlo : w.heap.size < w2.heap.size ∧ w2.heap.size < w4.heap.size ∧ b < w.heap.size := ⟨hxl2, by have := HZ3.out; omega, hbl⟩
  clear q3 HC HX3 HQ3 HM3 HG3
  have q4 := hQ4.at_ 0 _ rfl
  obtain ⟨t, ht⟩ : ∃ t, decide (n = 1) = t := ⟨_, rfl⟩
  have hnt : ((n : Int) == 1) = t := by rw [← ht]; by_cases h : n = 1 <;> simp [h]; omega
  have HB4 := Lib.hid hB4; have HQ4 := Lib.hid hQ4; have HX4 := Lib.hid hX4; have HM4 := Lib.hid hM4; have HG4 := Lib.hid hg14; have HR4 := Lib.hid hR4; have HI4' := Lib.hid hs4; have HT := Lib.hid ht; have HZM := Lib.hid hzm; have HLO := Lib.hid hlo
  clear hB4 hQ4 hX4 hM4 hg14 hR4 hs4 ht hzm hlo
  have HI4 := Lib.hid (And.intro HI4'.out he4)
  clear hg4 he4
  by_cases hbad : e4 = 0 ∧ 1 < n
  · obtain ⟨rfl, hn1⟩ := hbad
    have hnz : ((n : Int) > 1) := by omega
    have hnz2 : (1 : Int) < (n : Int) := by omega
    have y1 := HB4.out.at_ 1 _ rfl
    have yf := HB4.out.free 1
    have hE5 : Eye (w4.setCell ⟨b, 1, none⟩ (.int .i64 4)) b s4 (4) := HB4.out.put 1 (.int .i64 4)
    have hX5 : Box (w4.setCell ⟨b, 1, none⟩ (.int .i64 4)) w.heap.size 94 #[.string ⟨#[]⟩, .bool false, .slice none 0 0, .slice none 0 0] := HX4.out.far (by simpa using hne) _
    have hM5 : Box (w4.setCell ⟨b, 1, none⟩ (.int .i64 4)) w2.heap.size 94 #[.string x2, .bool false, .slice none 0 0, .slice none 0 0] := HM4.out.far (by simpa using hmbn) _
    have hQ5 : Held (w4.setCell ⟨b, 1, none⟩ (.int .i64 4)) q b := HQ4.out.far (by simpa using hqb) _
    have hg5 : Grew b w (w4.setCell ⟨b, 1, none⟩ (.int .i64 4)) (some b) := HG4.out.trans_ (Grew.cell_ _ _ _)
    have hz5 : (w4.setCell ⟨b, 1, none⟩ (.int .i64 4)).heap.size = w4.heap.size := by rw [size_set]
    have hT5 : Reads rdThere s2.data.toList e2 t s4.data.toList (4) := by
      have h := HR4.out.there
      rw [HT.out, if_pos ⟨rfl, hn1⟩] at h
      exact h
    have he5 : I64 (4) := ⟨by decide, by decide⟩
    have m0 := hM5.at_ 0 _ rfl
    have m1 := hM5.at_ 1 _ rfl
    have m2 := hM5.at_ 2 _ rfl
    have m3 := hM5.at_ 3 _ rfl
    have g0 := hM5.free 0
    have g1 := hM5.free 1
    have g2 := hM5.free 2
    have g3 := hM5.free 3
    have q5 := hQ5.at_ 0 _ rfl
    have hF := fun U hE => face_read b s4 (4) U HI4.out.1 he5 hE
    have hE6 := hE5.far (p := ⟨w2.heap.size, 1, none⟩) hmb (.bool t)
    have hX6 := hX5.far (p := ⟨w2.heap.size, 1, none⟩) hxm (.bool t)
    have hM6 : Box ((w4.setCell ⟨b, 1, none⟩ (.int .i64 4)).setCell ⟨w2.heap.size, 1, none⟩ (.bool t)) w2.heap.size 94 #[.string x2, .bool t, .slice none 0 0, .slice none 0 0] := hM5.put 1 (.bool t)
    have hg6 := hg5.set_new (p := ⟨w2.heap.size, 1, none⟩) HZM.out (.bool t)
    have HF := Lib.hid hF; have HE6 := Lib.hid hE6; have HX6 := Lib.hid hX6; have HM6 := Lib.hid hM6; have HG6 := Lib.hid hg6; have HZ5 := Lib.hid hz5; have HT5 := Lib.hid hT5
    clear hF hE6 hX6 hM6 hg6 hz5 hT5
    clear hE5 hX5 hM5 hQ5 hg5 he5
    go_wp2_with fail
    clear m0 m1 m2 m3 g0 g1 g2 g3 q5
    refine (HF.out _ HE6.out).mono ?_
    rintro en w6 ⟨f, A1, n1, c1, A2, n2, c2, rfl, hf, s6, e6, hB6, hg6, hs6, he6, hR6⟩
    have hX7 := hg6.box_ HX6.out hne
    have hM7 := hg6.box_ HM6.out hmbn
    have hz6 := hg6.size
    rw [size_set, HZ5.out] at hz6 hf
    have hg7 := HG6.out.trans_ hg6
    have m0 := hM7.at_ 0 _ rfl
    have m1 := hM7.at_ 1 _ rfl
    have m2 := hM7.at_ 2 _ rfl
    have m3 := hM7.at_ 3 _ rfl
    have g0 := hM7.free 0
    have g1 := hM7.free 1
    have g2 := hM7.free 2
    have g3 := hM7.free 3
    have r0 := hX7.at_ 0 _ rfl
    have r1 := hX7.at_ 1 _ rfl
    have r2 := hX7.at_ 2 _ rfl
    have r3 := hX7.at_ 3 _ rfl
    have h0 := hX7.free 0
    have h1 := hX7.free 1
    have h2 := hX7.free 2
    have h3 := hX7.free 3
    have hlo := HLO.out
    have HFR := Lib.hid hf; have HB6 := Lib.hid hB6; have HG7 := Lib.hid hg7; have HR6 := Lib.hid hR6; have HZ6 := Lib.hid hz6; have HLO := Lib.hid hlo
    clear hf hB6 hg7 hR6 hz6 hlo
    clear hX7 hM7 hg6 HF HE6 HX6 HM6 HG6
    go_wp2_with fail
    have hlo := HLO.out
    have hz6 := HZ6.out
    exact bodyPost_ret (v := .agg #[.string x2, .bool t, .slice A1 n1 c1, .slice A2 n2 c2]) (by simp [results, Try.results58, go_sem, r0, r1, r2, r3]) rfl ⟨⟨x2, t, f⟩, A1, n1, c1, A2, n2, c2, rfl, HN2.out,
      (((((((FaceR.stays.put HFR.out (by simp <;> omega) _).pf (by simp <;> omega) _).pf (by simp <;> omega) _).pf (by simp <;> omega) _).pf (by simp <;> omega) _).pf (by simp <;> omega) _).ff (by omega) (by simp [size_set])),
      s6, e6, (((((HB6.out.far (by simp; omega) _).far (by simp; omega) _).far (by simp; omega) _).far (by simp; omega) _).far (by simp; omega) _).far (by simp; omega) _, (((((HG7.out.set_new (by simp <;> omega) _).set_new (by simp <;> omega) _).set_new (by simp <;> omega) _).set_new (by simp <;> omega) _).set_new (by simp <;> omega) _).set_new (by simp <;> omega) _, hs6, he6, HR2.out.bind (HT5.out.bind (HR6.out.map (g := fun f => (⟨x2, t, f⟩ : Import))))⟩
  · by_cases he4 : e4 = 0
    · subst he4
      have hnz : ¬ ((n : Int) > 1) := fun h => hbad ⟨rfl, by omega⟩
      have hnz2 : ¬ (1 : Int) < (n : Int) := fun h => hbad ⟨rfl, by omega⟩
      have y1 := HB4.out.at_ 1 _ rfl
      have hE5 : Eye w4 b s4 (0) := HB4.out
      have hX5 : Box w4 w.heap.size 94 #[.string ⟨#[]⟩, .bool false, .slice none 0 0, .slice none 0 0] := HX4.out
      have hM5 : Box w4 w2.heap.size 94 #[.string x2, .bool false, .slice none 0 0, .slice none 0 0] := HM4.out
      have hQ5 : Held w4 q b := HQ4.out
      have hg5 : Grew b w w4 (some b) := HG4.out
      have hz5 : w4.heap.size = w4.heap.size := rfl
      have hT5 : Reads rdThere s2.data.toList e2 t s4.data.toList (0) := by
        have h := HR4.out.there
        rw [HT.out, if_neg hbad] at h
        exact h
      have he5 : I64 (0) := HI4.out.2
      have m0 := hM5.at_ 0 _ rfl
      have m1 := hM5.at_ 1 _ rfl
      have m2 := hM5.at_ 2 _ rfl
      have m3 := hM5.at_ 3 _ rfl
      have g0 := hM5.free 0
      have g1 := hM5.free 1
      have g2 := hM5.free 2
      have g3 := hM5.free 3
      have q5 := hQ5.at_ 0 _ rfl
      have hF := fun U hE => face_read b s4 (0) U HI4.out.1 he5 hE
      have hE6 := hE5.far (p := ⟨w2.heap.size, 1, none⟩) hmb (.bool t)
      have hX6 := hX5.far (p := ⟨w2.heap.size, 1, none⟩) hxm (.bool t)
      have hM6 : Box (w4.setCell ⟨w2.heap.size, 1, none⟩ (.bool t)) w2.heap.size 94 #[.string x2, .bool t, .slice none 0 0, .slice none 0 0] := hM5.put 1 (.bool t)
      have hg6 := hg5.set_new (p := ⟨w2.heap.size, 1, none⟩) HZM.out (.bool t)
      have HF := Lib.hid hF; have HE6 := Lib.hid hE6; have HX6 := Lib.hid hX6; have HM6 := Lib.hid hM6; have HG6 := Lib.hid hg6; have HZ5 := Lib.hid hz5; have HT5 := Lib.hid hT5
      clear hF hE6 hX6 hM6 hg6 hz5 hT5
      clear hE5 hX5 hM5 hQ5 hg5 he5
      go_wp2_with fail
      clear m0 m1 m2 m3 g0 g1 g2 g3 q5
      refine (HF.out _ HE6.out).mono ?_
      rintro en w6 ⟨f, A1, n1, c1, A2, n2, c2, rfl, hf, s6, e6, hB6, hg6, hs6, he6, hR6⟩
      have hX7 := hg6.box_ HX6.out hne
      have hM7 := hg6.box_ HM6.out hmbn
      have hz6 := hg6.size
      rw [size_set] at hz6 hf
      have hg7 := HG6.out.trans_ hg6
      have m0 := hM7.at_ 0 _ rfl
      have m1 := hM7.at_ 1 _ rfl
      have m2 := hM7.at_ 2 _ rfl
      have m3 := hM7.at_ 3 _ rfl
      have g0 := hM7.free 0
      have g1 := hM7.free 1
      have g2 := hM7.free 2
      have g3 := hM7.free 3
      have r0 := hX7.at_ 0 _ rfl
      have r1 := hX7.at_ 1 _ rfl
      have r2 := hX7.at_ 2 _ rfl
      have r3 := hX7.at_ 3 _ rfl
      have h0 := hX7.free 0
      have h1 := hX7.free 1
      have h2 := hX7.free 2
      have h3 := hX7.free 3
      have hlo := HLO.out
      have HFR := Lib.hid hf; have HB6 := Lib.hid hB6; have HG7 := Lib.hid hg7; have HR6 := Lib.hid hR6; have HZ6 := Lib.hid hz6; have HLO := Lib.hid hlo
      clear hf hB6 hg7 hR6 hz6 hlo
      clear hX7 hM7 hg6 HF HE6 HX6 HM6 HG6
      go_wp2_with fail
      have hlo := HLO.out
      have hz6 := HZ6.out
      exact bodyPost_ret (v := .agg #[.string x2, .bool t, .slice A1 n1 c1, .slice A2 n2 c2]) (by simp [results, Try.results58, go_sem, r0, r1, r2, r3]) rfl ⟨⟨x2, t, f⟩, A1, n1, c1, A2, n2, c2, rfl, HN2.out,
        (((((((FaceR.stays.put HFR.out (by simp <;> omega) _).pf (by simp <;> omega) _).pf (by simp <;> omega) _).pf (by simp <;> omega) _).pf (by simp <;> omega) _).pf (by simp <;> omega) _).ff (by omega) (by simp [size_set])),
        s6, e6, (((((HB6.out.far (by simp; omega) _).far (by simp; omega) _).far (by simp; omega) _).far (by simp; omega) _).far (by simp; omega) _).far (by simp; omega) _, (((((HG7.out.set_new (by simp <;> omega) _).set_new (by simp <;> omega) _).set_new (by simp <;> omega) _).set_new (by simp <;> omega) _).set_new (by simp <;> omega) _).set_new (by simp <;> omega) _, hs6, he6, HR2.out.bind (HT5.out.bind (HR6.out.map (g := fun f => (⟨x2, t, f⟩ : Import))))⟩
    · have hez : (e4 == 0) = false := by simp [he4]
      have y1 := HB4.out.at_ 1 _ rfl
      have hE5 : Eye w4 b s4 (e4) := HB4.out
      have hX5 : Box w4 w.heap.size 94 #[.string ⟨#[]⟩, .bool false, .slice none 0 0, .slice none 0 0] := HX4.out
      have hM5 : Box w4 w2.heap.size 94 #[.string x2, .bool false, .slice none 0 0, .slice none 0 0] := HM4.out
      have hQ5 : Held w4 q b := HQ4.out
      have hg5 : Grew b w w4 (some b) := HG4.out
      have hz5 : w4.heap.size = w4.heap.size := rfl
      have hT5 : Reads rdThere s2.data.toList e2 t s4.data.toList (e4) := by
        have h := HR4.out.there
        rw [HT.out, if_neg hbad] at h
        exact h
      have he5 : I64 (e4) := HI4.out.2
      have m0 := hM5.at_ 0 _ rfl
      have m1 := hM5.at_ 1 _ rfl
      have m2 := hM5.at_ 2 _ rfl
      have m3 := hM5.at_ 3 _ rfl
      have g0 := hM5.free 0
      have g1 := hM5.free 1
      have g2 := hM5.free 2
      have g3 := hM5.free 3
      have q5 := hQ5.at_ 0 _ rfl
      have hF := fun U hE => face_read b s4 (e4) U HI4.out.1 he5 hE
      have hE6 := hE5.far (p := ⟨w2.heap.size, 1, none⟩) hmb (.bool t)
      have hX6 := hX5.far (p := ⟨w2.heap.size, 1, none⟩) hxm (.bool t)
      have hM6 : Box (w4.setCell ⟨w2.heap.size, 1, none⟩ (.bool t)) w2.heap.size 94 #[.string x2, .bool t, .slice none 0 0, .slice none 0 0] := hM5.put 1 (.bool t)
      have hg6 := hg5.set_new (p := ⟨w2.heap.size, 1, none⟩) HZM.out (.bool t)
      have HF := Lib.hid hF; have HE6 := Lib.hid hE6; have HX6 := Lib.hid hX6; have HM6 := Lib.hid hM6; have HG6 := Lib.hid hg6; have HZ5 := Lib.hid hz5; have HT5 := Lib.hid hT5
      clear hF hE6 hX6 hM6 hg6 hz5 hT5
      clear hE5 hX5 hM5 hQ5 hg5 he5
      go_wp2_with fail
      clear m0 m1 m2 m3 g0 g1 g2 g3 q5
      refine (HF.out _ HE6.out).mono ?_
      rintro en w6 ⟨f, A1, n1, c1, A2, n2, c2, rfl, hf, s6, e6, hB6, hg6, hs6, he6, hR6⟩
      have hX7 := hg6.box_ HX6.out hne
      have hM7 := hg6.box_ HM6.out hmbn
      have hz6 := hg6.size
      rw [size_set] at hz6 hf
      have hg7 := HG6.out.trans_ hg6
      have m0 := hM7.at_ 0 _ rfl
      have m1 := hM7.at_ 1 _ rfl
      have m2 := hM7.at_ 2 _ rfl
      have m3 := hM7.at_ 3 _ rfl
      have g0 := hM7.free 0
      have g1 := hM7.free 1
      have g2 := hM7.free 2
      have g3 := hM7.free 3
      have r0 := hX7.at_ 0 _ rfl
      have r1 := hX7.at_ 1 _ rfl
      have r2 := hX7.at_ 2 _ rfl
      have r3 := hX7.at_ 3 _ rfl
      have h0 := hX7.free 0
      have h1 := hX7.free 1
      have h2 := hX7.free 2
      have h3 := hX7.free 3
      have hlo := HLO.out
      have HFR := Lib.hid hf; have HB6 := Lib.hid hB6; have HG7 := Lib.hid hg7; have HR6 := Lib.hid hR6; have HZ6 := Lib.hid hz6; have HLO := Lib.hid hlo
      clear hf hB6 hg7 hR6 hz6 hlo
      clear hX7 hM7 hg6 HF HE6 HX6 HM6 HG6
      go_wp2_with fail
      have hlo := HLO.out
      have hz6 := HZ6.out
      exact bodyPost_ret (v := .agg #[.string x2, .bool t, .slice A1 n1 c1, .slice A2 n2 c2]) (by simp [results, Try.results58, go_sem, r0, r1, r2, r3]) rfl ⟨⟨x2, t, f⟩, A1, n1, c1, A2, n2, c2, rfl, HN2.out,
        (((((((FaceR.stays.put HFR.out (by simp <;> omega) _).pf (by simp <;> omega) _).pf (by simp <;> omega) _).pf (by simp <;> omega) _).pf (by simp <;> omega) _).pf (by simp <;> omega) _).ff (by omega) (by simp [size_set])),
        s6, e6, (((((HB6.out.far (by simp; omega) _).far (by simp; omega) _).far (by simp; omega) _).far (by simp; omega) _).far (by simp; omega) _).far (by simp; omega) _, (((((HG7.out.set_new (by simp <;> omega) _).set_new (by simp <;> omega) _).set_new (by simp <;> omega) _).set_new (by simp <;> omega) _).set_new (by simp <;> omega) _).set_new (by simp <;> omega) _, hs6, he6, HR2.out.bind (HT5.out.bind (HR6.out.map (g := fun f => (⟨x2, t, f⟩ : Import))))⟩

end Go.Proofs.Ytoejhgbndehaiaa
