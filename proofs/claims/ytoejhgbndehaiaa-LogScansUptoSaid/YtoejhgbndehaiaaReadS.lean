/- The reader's closure for a function. -/
import Derived.Test.YtoejhgbndehaiaaReadStL
namespace Go.Proofs.Ytoejhgbndehaiaa
open Go.RowKit Go.Shelf

set_option maxRecDepth 100000 in
set_option maxHeartbeats 2000000 in
theorem sig_read (b q : Nat) (s : ByteArray) (e : Int) (w : World) (hs : okS s) (hei : I64 e) (hB : Eye w b s e) (hqb : q ≠ b) (hQ : Held w q b) :
    Calls Try.prog 103 #[.pointer (some ⟨q, 0, none⟩)] w fun en w' => ∃ (x : Sig) (A : Option Addr) (n c : Nat), en = .returned (.agg #[.string x.name, .slice A n c, .string x.result]) ∧ okS x.name ∧ okS x.result ∧ SliceOf StrR 1 16 w' (fresh w.heap.size w'.heap.size) (.slice A n c) x.params ∧ ReadTo b rdSig s e x w w' := by
  have hbl := hB.lt
  have hql := hQ.lt
  have HB0 := Lib.hid hB; have HH0 := Lib.hid hQ
  clear hB hQ
  go_enter Try.func103, Try.ntmps103
  go_upto_region 1 with fail
  have hBb := Box.made w 74 #[.string ⟨#[]⟩, .slice none 0 0, .string ⟨#[]⟩]
  have hbb : Below w.heap.size w (w.alloc (.cells #[.string ⟨#[]⟩, .slice none 0 0, .string ⟨#[]⟩] 74)) := by go_grown
  have hzb : (w.alloc (.cells #[.string ⟨#[]⟩, .slice none 0 0, .string ⟨#[]⟩] 74)).heap.size = w.heap.size + 1 := by simp
  generalize w.alloc (.cells #[.string ⟨#[]⟩, .slice none 0 0, .string ⟨#[]⟩] 74) = W1 at hBb hbb hzb ⊢
  have hB1 := HB0.out.later hbb hbl
  have hQ1 := HH0.out.later hbb hql
  have hg1 := Grew.of_below (b := b) hbb some_le
  have q1 := hQ1.at_ 0 _ rfl
  have hne : w.heap.size ≠ b := by omega
  have hqr : w.heap.size ≠ q := by omega
  have HB1 := Lib.hid hB1; have HH1 := Lib.hid hQ1; have HG1 := Lib.hid hg1; have HC1 := Lib.hid q1; have HBX := Lib.hid hBb; have HZ1 := Lib.hid hzb
  clear hB1 hQ1 hg1 q1 hBb hzb
  clear hbb HB0 HH0
  go_region_held3 (fun w' => w'.cell? ⟨q, 0, none⟩ = some (.pointer (some ⟨b, 0, none⟩))) (first | exact HC4.out | exact HC3.out | exact HC2.out | exact HC1.out | (simp [World.cell?_setCell_far, hqr, HC4.out]; done))
    (first
      | (go_at_call 104; (with_reducible refine (listStr_any b s2 e2 _ HI2.out.1 HI2.out.2 (by first | exact HB2.out | exact HB2.out.drew)).mono ?_); rintro en w3 ⟨A3, n3, c3, xs3, rfl, hsl, hln, s3, e3, hB3, hg3, hs3, he3, hR3⟩; have hsz := hg3.size; have hg3 := HG2.out.trans_ (by first | exact hg3 | exact hg3.drew_); have hQ3 := hg3.box_ HH1.out hqb; have q3 := hQ3.at_ 0 _ rfl; have HB3 := Lib.hid hB3; have HG3 := Lib.hid hg3; have HI3 := Lib.hid (And.intro hs3 he3); have HC3 := Lib.hid q3; have HR3 := Lib.hid hR3; have HSL := Lib.hid hsl; have HSZ3 := Lib.hid (And.intro HG2.out.size hsz); clear hB3 hg3 hs3 he3 hQ3 q3 hR3 hsl hln hsz)
      | (go_at_call 56; (with_reducible refine (text_any b s e _ hs hei (by first | exact HB1.out | exact HB1.out.drew)).mono ?_); rintro en w2 ⟨x2, hx2, rfl, s2, e2, hB2, hg2, hs2, he2, hR2⟩; have hg2 := (show Grew b W1 w2 (some b) from by first | exact hg2 | exact hg2.drew_); have hQ2 := hg2.box_ HH1.out hqb; have q2 := hQ2.at_ 0 _ rfl; have HB2 := Lib.hid hB2; have HG2 := Lib.hid hg2; have HI2 := Lib.hid (And.intro hs2 he2); have HC2 := Lib.hid q2; have HR2 := Lib.hid hR2; clear HB1 hB2 hg2 hs2 he2 hQ2 q2 hR2)
      | (go_at_call 56; (with_reducible refine (text_any b s3 e3 _ HI3.out.1 HI3.out.2 (by first | exact HB3.out | exact HB3.out.drew)).mono ?_); rintro en w4 ⟨x4, hx4, rfl, s4, e4, hB4, hg4, hs4, he4, hR4⟩; have hsl := HSL.out.stays StrR.stays (fun _ h => h) (hg4.keeps (by have := HSZ3.out.1; have := HZ1.out; omega) (Nat.le_refl _)); have hsz := hg4.size; have hg4 := HG3.out.trans_ (by first | exact hg4 | exact hg4.drew_); have hQ4 := hg4.box_ HH1.out hqb; have q4 := hQ4.at_ 0 _ rfl; have HB4 := Lib.hid hB4; have HG4 := Lib.hid hg4; have HI4 := Lib.hid (And.intro hs4 he4); have HC4 := Lib.hid q4; have HR4 := Lib.hid hR4; have HSL4 := Lib.hid hsl; have HSZ4 := Lib.hid hsz; have hBX := hg4.box_ HBX.out hne; have r0 := hBX.at_ 0 _ rfl; have r1 := hBX.at_ 1 _ rfl; have r2 := hBX.at_ 2 _ rfl; have f0 := hBX.free 0; have f1 := hBX.free 1; have f2 := hBX.free 2; clear hBX hB4 hg4 hs4 he4 hQ4 q4 hR4 hsl hsz))
  all_goals
    go_wp2_with fail
    exact bodyPost_ret (v := .agg #[.string x2, .slice A3 n3 c3, .string x4]) (by simp [results, Try.results103, go_sem, r0, r1, r2]) rfl ⟨⟨x2, xs3, x4⟩, A3, n3, c3, rfl, hx2, hx4, HSL4.out.stays StrR.stays (fun k hk => ⟨by have := hk.1; have := HSZ3.out.1; have := HZ1.out; omega, by simpa [size_set] using Nat.lt_of_lt_of_le hk.2 HSZ4.out⟩) ((((Keeps.refl _ _).setCell (fresh_no (by have := HSZ3.out.1; have := HZ1.out; simp; omega)) _).setCell (fresh_no (by have := HSZ3.out.1; have := HZ1.out; simp; omega)) _).setCell (fresh_no (by have := HSZ3.out.1; have := HZ1.out; simp; omega)) _), s4, e4, ((HB4.out.far (by simpa using hne.symm) _).far (by simpa using hne.symm) _).far (by simpa using hne.symm) _, (((HG1.out.trans_ HG4.out).set_new (by simp) _).set_new (by simp) _).set_new (by simp) _, HI4.out.1, HI4.out.2, HR2.out.bind (HR3.out.bind (HR4.out.map (g := fun i => (⟨x2, xs3, i⟩ : Sig))))⟩

end Go.Proofs.Ytoejhgbndehaiaa
