/- The reader's closure for what is wrong. -/
import Derived.Test.YtoejhgbndehaiaaReader
namespace Go.Proofs.Ytoejhgbndehaiaa
open Go.RowKit Go.Shelf

set_option maxRecDepth 100000 in
set_option maxHeartbeats 2000000 in
theorem diag_read (b q : Nat) (s : ByteArray) (e : Int) (w : World) (hs : okS s) (hei : I64 e) (hB : Eye w b s e) (hqb : q ≠ b) (hQ : Held w q b) :
    Calls Try.prog 62 #[.pointer (some ⟨q, 0, none⟩)] w fun en w' => ∃ x : Diag, en = .returned (.agg #[.string x.where_, .int .i64 x.code]) ∧ okS x.where_ ∧ I64 x.code ∧ ReadTo b rdDiag s e x w w' := by
  have hbl := hB.lt
  have hql := hQ.lt
  have HB0 := Lib.hid hB; have HH0 := Lib.hid hQ
  clear hB hQ
  go_enter Try.func62, Try.ntmps62
  go_upto_region 1 with fail
  have hBb := Box.made w 64 #[.string ⟨#[]⟩, .int .i64 0]
  have hbb : Below w.heap.size w (w.alloc (.cells #[.string ⟨#[]⟩, .int .i64 0] 64)) := by go_grown
  have hzb : (w.alloc (.cells #[.string ⟨#[]⟩, .int .i64 0] 64)).heap.size = w.heap.size + 1 := by simp
  generalize w.alloc (.cells #[.string ⟨#[]⟩, .int .i64 0] 64) = W1 at hBb hbb hzb ⊢
  have hB1 := HB0.out.later hbb hbl
  have hQ1 := HH0.out.later hbb hql
  have hg1 := Grew.of_below (b := b) hbb some_le
  have q1 := hQ1.at_ 0 _ rfl
  have hne : w.heap.size ≠ b := by omega
  have hqr : w.heap.size ≠ q := by omega
  have HB1 := Lib.hid hB1; have HH1 := Lib.hid hQ1; have HG1 := Lib.hid hg1; have HC1 := Lib.hid q1; have HBX := Lib.hid hBb
  clear hB1 hQ1 hg1 q1 hBb
  clear hbb hzb HB0 HH0
  go_region_held3 (fun w' => w'.cell? ⟨q, 0, none⟩ = some (.pointer (some ⟨b, 0, none⟩))) (first | exact HC3.out | exact HC2.out | exact HC1.out | (simp [World.cell?_setCell_far, hqr, HC3.out]; done))
    (first
      | (go_at_call 59; (with_reducible refine (count_any b s2 e2 _ HI2.out.1 HI2.out.2 (by first | exact HB2.out | exact HB2.out.drew)).mono ?_); rintro en w3 ⟨x3, hx3, rfl, s3, e3, hB3, hg3, hs3, he3, hR3⟩; have hg3 := HG2.out.trans_ (by first | exact hg3 | exact hg3.drew_); have hQ3 := hg3.box_ HH1.out hqb; have q3 := hQ3.at_ 0 _ rfl; have HB3 := Lib.hid hB3; have HG3 := Lib.hid hg3; have HI3 := Lib.hid (And.intro hs3 he3); have HC3 := Lib.hid q3; have HR3 := Lib.hid hR3; have hBX := hg3.box_ HBX.out hne; have r0 := hBX.at_ 0 _ rfl; have r1 := hBX.at_ 1 _ rfl; have f0 := hBX.free 0; have f1 := hBX.free 1; clear hBX hB3 hg3 hs3 he3 hQ3 q3 hR3)
      | (go_at_call 56; (with_reducible refine (text_any b s e _ hs hei (by first | exact HB1.out | exact HB1.out.drew)).mono ?_); rintro en w2 ⟨x2, hx2, rfl, s2, e2, hB2, hg2, hs2, he2, hR2⟩; have hg2 := (show Grew b W1 w2 (some b) from by first | exact hg2 | exact hg2.drew_); have hQ2 := hg2.box_ HH1.out hqb; have q2 := hQ2.at_ 0 _ rfl; have HB2 := Lib.hid hB2; have HG2 := Lib.hid hg2; have HI2 := Lib.hid (And.intro hs2 he2); have HC2 := Lib.hid q2; have HR2 := Lib.hid hR2; clear hB2 hg2 hs2 he2 hQ2 q2 hR2))
  all_goals
    go_wp2_with fail
    exact bodyPost_ret (v := .agg #[.string x2, .int .i64 (x3 : Int)]) (by simp [results, Try.results62, go_sem, r0, r1]) rfl ⟨⟨x2, (x3 : Int)⟩, rfl, hx2, ⟨by show (-9223372036854775808 : Int) ≤ (x3 : Int); omega, by show (x3 : Int) ≤ 9223372036854775807; omega⟩, s3, e3, (HB3.out.far (by simpa using hne.symm) _).far (by simpa using hne.symm) _, ((HG1.out.trans_ HG3.out).set_new (by simp) _).set_new (by simp) _, HI3.out.1, HI3.out.2, HR2.out.bind (HR3.out.map (g := fun i : Nat => (⟨x2, (i : Int)⟩ : Diag)))⟩

end Go.Proofs.Ytoejhgbndehaiaa
