/- The reader's face. -/
import Derived.Test.YtoejhgbndehaiaaReadKL
import Derived.Test.YtoejhgbndehaiaaReadSL
namespace Go.Proofs.Ytoejhgbndehaiaa
open Go.RowKit Go.Shelf

theorem SliceOf.read {α : Type} {R : CR α} {sz by_ n m b : Nat} {w w' : World} {v : Value} {l : List α} (hR : Stays R) (h : SliceOf R sz by_ w (fresh n m) v l) (hg : Grew b w w' (some b)) (hb : b < n) (hs : m ≤ w.heap.size) : SliceOf R sz by_ w' (fresh n m) v l :=
  h.stays hR (fun _ h => h) (hg.keeps hb hs)
theorem SliceOf.put {α : Type} {R : CR α} {sz by_ n m : Nat} {w : World} {v : Value} {l : List α} (hR : Stays R) (h : SliceOf R sz by_ w (fresh n m) v l) {p : Addr} (hp : p.block < n) (u : Value) : SliceOf R sz by_ (w.setCell p u) (fresh n m) v l :=
  h.stays hR (fun _ h => h) ((Keeps.refl _ _).setCell (fresh_no hp) u)
theorem SliceOf.foot {α : Type} {R : CR α} {sz by_ n m n' m' : Nat} {w : World} {v : Value} {l : List α} (hR : Stays R) (h : SliceOf R sz by_ w (fresh n m) v l) (h1 : n' ≤ n) (h2 : m ≤ m') : SliceOf R sz by_ w (fresh n' m') v l :=
  h.stays hR (fresh_up h1 h2) (Keeps.refl _ _)

set_option maxRecDepth 100000 in
set_option maxHeartbeats 4000000 in
theorem face_read (b : Nat) (s : ByteArray) (e : Int) (w : World) (hs : okS s) (hei : I64 e) (hB : Eye w b s e) :
    Calls Try.prog 60 #[.pointer (some ⟨b, 0, none⟩)] w fun en w' => ∃ (x : Face) (A1 : Option Addr) (n1 c1 : Nat) (A2 : Option Addr) (n2 c2 : Nat), en = .returned (.agg #[.slice A1 n1 c1, .slice A2 n2 c2]) ∧
      FaceR w' (fresh w.heap.size w'.heap.size) [.slice A1 n1 c1, .slice A2 n2 c2] x ∧ ReadTo b rdFace s e x w w' := by
  have hbl := hB.lt
  have HB0 := Lib.hid hB; clear hB
  go_enter Try.func60, Try.ntmps60
  go_upto_region 2 with fail
  have hBb1 := (((Box.made w 112 #[.pointer (some ⟨b, 0, none⟩)]).alloc (.cells #[.slice none 0 0, .slice none 0 0] 30)).alloc (.cells #[.slice none 0 0, .slice none 0 0] 30))
  have hBb2 := ((Box.made (w.alloc (.cells #[.pointer (some ⟨b, 0, none⟩)] 112)) 30 #[.slice none 0 0, .slice none 0 0]).alloc (.cells #[.slice none 0 0, .slice none 0 0] 30))
  rw [show (w.alloc (.cells #[.pointer (some ⟨b, 0, none⟩)] 112)).heap.size = w.heap.size + 1 by simp only [World.size_alloc]] at hBb2
  have hBb3 := (Box.made ((w.alloc (.cells #[.pointer (some ⟨b, 0, none⟩)] 112)).alloc (.cells #[.slice none 0 0, .slice none 0 0] 30)) 30 #[.slice none 0 0, .slice none 0 0])
  rw [show ((w.alloc (.cells #[.pointer (some ⟨b, 0, none⟩)] 112)).alloc (.cells #[.slice none 0 0, .slice none 0 0] 30)).heap.size = w.heap.size + 1 + 1 by simp only [World.size_alloc]] at hBb3
  have hbb : Below w.heap.size w (((w.alloc (.cells #[.pointer (some ⟨b, 0, none⟩)] 112)).alloc (.cells #[.slice none 0 0, .slice none 0 0] 30)).alloc (.cells #[.slice none 0 0, .slice none 0 0] 30)) := by go_grown
  have hzb : (((w.alloc (.cells #[.pointer (some ⟨b, 0, none⟩)] 112)).alloc (.cells #[.slice none 0 0, .slice none 0 0] 30)).alloc (.cells #[.slice none 0 0, .slice none 0 0] 30)).heap.size = w.heap.size + 1 + 1 + 1 := by simp only [World.size_alloc]
  generalize ((w.alloc (.cells #[.pointer (some ⟨b, 0, none⟩)] 112)).alloc (.cells #[.slice none 0 0, .slice none 0 0] 30)).alloc (.cells #[.slice none 0 0, .slice none 0 0] 30) = W1 at hBb1 hBb2 hBb3 hbb hzb ⊢
  have hE1 := HB0.out.later hbb hbl
  have hqb : w.heap.size ≠ b := by omega
  have hqb1 : w.heap.size + 1 ≠ b := by omega
  have hqb2 : w.heap.size + 1 + 1 ≠ b := by omega
  have hl1 := listKnown_any b w.heap.size s e W1 hs hei hE1 hqb hBb1
  have hg1 := Grew.of_below (b := b) hbb some_le
  have q0 := hBb1.at_ 0 _ rfl
  have HL1 := Lib.hid hl1; have HH1 := Lib.hid hBb1; have HX1 := Lib.hid hBb2; have HY1 := Lib.hid hBb3; have HG1 := Lib.hid hg1; have HZ1 := Lib.hid hzb
  clear hl1 hBb1 hBb2 hBb3 hg1 hzb
  clear hE1 hbb HB0
  go_wp2_with fail
  refine HL1.out.mono ?_
  rintro en w2 ⟨A1, n1, c1, xs1, rfl, hsl1, hln1, s2, e2, hB2, hg2, hs2, he2, hR2⟩
  have hH2 := hg2.box_ HH1.out hqb
  have hX2 := hg2.box_ HX1.out hqb1
  have hY2 := hg2.box_ HY1.out hqb2
  have hz2 := hg2.size
  have hg12 := HG1.out.trans_ hg2
  have hl2 := fun U hE hQ => listSig_any b w.heap.size s2 e2 U hs2 he2 hE hqb hQ
  clear q0
  have q0 := hH2.at_ 0 _ rfl
  have y0 := hY2.at_ 0 _ rfl
  have y1 := hY2.at_ 1 _ rfl
  have g0 := hY2.free 0
  have g1 := hY2.free 1
  have HL2 := Lib.hid hl2; have HH2 := Lib.hid hH2; have HX2 := Lib.hid hX2; have HY2 := Lib.hid hY2; have HG2 := Lib.hid hg12; have HZ2 := Lib.hid hz2; have HS1 := Lib.hid hsl1; have HR2 := Lib.hid hR2; have HB2 := Lib.hid hB2
  clear hl2 hH2 hX2 hY2 hg12 hz2 hsl1 hR2 hB2
  clear hg2 hs2 he2 hln1 HL1 HH1 HX1 HY1
  go_wp2_with fail
  have hE2 := HB2.out.far (p := ⟨w.heap.size + 1 + 1, 0, none⟩) (by simpa using hqb2.symm) (.slice A1 n1 c1)
  have hH3 := HH2.out.far (p := ⟨w.heap.size + 1 + 1, 0, none⟩) (by simp; omega) (.slice A1 n1 c1)
  refine (HL2.out _ hE2 hH3).mono ?_
  rintro en w3 ⟨A2, n2, c2, xs2, rfl, hsl2, hln2, s3, e3, hB3, hg3, hs3, he3, hR3⟩
  have hX3 := hg3.box_ (HX2.out.far (p := ⟨w.heap.size + 1 + 1, 0, none⟩) (by simp) (.slice A1 n1 c1)) hqb1
  have hY3 := hg3.box_ (HY2.out.put 0 (.slice A1 n1 c1)) hqb2
  have hz3 := hg3.size
  rw [size_set] at hz3 hsl2
  have hsl1 := (HS1.out.put KnownR.stays (p := ⟨w.heap.size + 1 + 1, 0, none⟩) (by have := HZ1.out; simp; omega) (.slice A1 n1 c1)).read KnownR.stays hg3 (by have := HZ1.out; omega) (by rw [size_set]; exact Nat.le_refl _)
  have hg13 := (HG2.out.set_new (p := ⟨w.heap.size + 1 + 1, 0, none⟩) (by simp <;> omega) (.slice A1 n1 c1)).trans_ hg3
  clear y0 y1 g0 g1 q0 hE2 hH3
  simp only [List.setIfInBounds_toArray, List.set_cons_zero] at hY3
  have y0 := hY3.at_ 0 _ rfl
  have y1 := hY3.at_ 1 _ rfl
  have g0 := hY3.free 0
  have g1 := hY3.free 1
  have x0 := hX3.at_ 0 _ rfl
  have x1 := hX3.at_ 1 _ rfl
  have h0 := hX3.free 0
  have h1 := hX3.free 1
  have HS1' := Lib.hid hsl1; have HS2 := Lib.hid hsl2; have HG3 := Lib.hid hg13; have HZ3 := Lib.hid hz3; have HR3 := Lib.hid hR3; have HB3 := Lib.hid hB3
  clear hsl1 hsl2 hg13 hz3 hR3 hB3
  clear hX3 hY3 hg3 HL2 HH2 HX2 HY2 HB2 HS1
  go_wp2_with fail
  have hz1 := HZ1.out
  have hz2 := HZ2.out
  have hz3 := HZ3.out
  exact bodyPost_ret (v := .agg #[.slice A1 n1 c1, .slice A2 n2 c2]) (by simp [results, Try.results60, go_sem, x0, x1]) rfl ⟨⟨xs1, xs2⟩, A1, n1, c1, A2, n2, c2, rfl,
    ⟨_, _, rfl, (((HS1'.out.put KnownR.stays (by simp <;> omega) _).put KnownR.stays (by simp <;> omega) _).put KnownR.stays (by simp <;> omega) _).foot KnownR.stays (by omega) (by simp [size_set]; omega), (((HS2.out.put SigR.stays (by simp <;> omega) _).put SigR.stays (by simp <;> omega) _).put SigR.stays (by simp <;> omega) _).foot SigR.stays (by omega) (by simp [size_set])⟩,
    s3, e3, ((HB3.out.far (by simp; omega) _).far (by simp; omega) _).far (by simp; omega) _, ((HG3.out.set_new (by simp <;> omega) _).set_new (by simp <;> omega) _).set_new (by simp <;> omega) _, hs3, he3, HR2.out.bind (HR3.out.map (g := fun fs => (⟨xs1, fs⟩ : Face)))⟩

end Go.Proofs.Ytoejhgbndehaiaa
