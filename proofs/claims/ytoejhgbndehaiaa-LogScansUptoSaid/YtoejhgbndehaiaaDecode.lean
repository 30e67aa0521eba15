/- record.Decode. -/
import Derived.Test.YtoejhgbndehaiaaReadIL
import Derived.Test.YtoejhgbndehaiaaReadDL
import Derived.Test.YtoejhgbndehaiaaRecErr
namespace Go.Proofs.Ytoejhgbndehaiaa
open Go.RowKit Go.Shelf

def noRecord : Record := ⟨⟨#[]⟩, ⟨#[]⟩, [], ⟨[], []⟩, []⟩
/-- What record.Decode tells. -/
def decCode (s : ByteArray) : Int := match decRecord recErr s.data.toList with | .ok _ => 0 | .error e => e
def decRec (s : ByteArray) : Record := match decRecord recErr s.data.toList with | .ok x => x | .error _ => noRecord
theorem dec_err {s : ByteArray} {e : Int} (h : decRecord recErr s.data.toList = .error e) : decCode s = e ∧ decRec s = noRecord := by unfold decCode decRec; rw [h]; exact ⟨rfl, rfl⟩
theorem dec_rec {s : ByteArray} {x : Record} (h : decRecord recErr s.data.toList = .ok x) : decCode s = 0 ∧ decRec s = x := by unfold decCode decRec; rw [h]; exact ⟨rfl, rfl⟩
theorem noRecord_row {w : World} {F : Foot} : RecordR w F [.string ⟨#[]⟩, .string ⟨#[]⟩, .slice none 0 0, .slice none 0 0, .slice none 0 0, .slice none 0 0] noRecord :=
  ⟨_, _, _, _, rfl, Nat.zero_le _, Nat.zero_le _, SliceOf.nil_, ⟨_, _, rfl, SliceOf.nil_, SliceOf.nil_⟩, SliceOf.nil_⟩

theorem FaceR.rd {n m b : Nat} {w w' : World} {cs : List Value} {x : Face} (h : FaceR w (fresh n m) cs x) (hg : Grew b w w' (some b)) (hb : b < n) (hs : m ≤ w.heap.size) : FaceR w' (fresh n m) cs x := FaceR.stays _ _ _ _ _ _ h (fun _ h => h) (hg.keeps hb hs)
theorem below_res {w W : World} (h : Below w.heap.size w W) {v0 v1 v2 v3 v4 v5 : Value} : Below w.heap.size w ((((((W.setCell ⟨w.heap.size, 0, none⟩ v0).setCell ⟨w.heap.size, 1, none⟩ v1).setCell ⟨w.heap.size, 2, none⟩ v2).setCell ⟨w.heap.size, 3, none⟩ v3).setCell ⟨w.heap.size, 4, none⟩ v4).setCell ⟨w.heap.size, 5, none⟩ v5) :=
  (((((h.setCell (Nat.le_refl _) _).setCell (Nat.le_refl _) _).setCell (Nat.le_refl _) _).setCell (Nat.le_refl _) _).setCell (Nat.le_refl _) _).setCell (Nat.le_refl _) _
theorem below_resD {w W : World} (h : Below w.heap.size w W) : Below w.heap.size w W.drew := h.trans (by go_grown)
/-- Where record.Decode stands: blocks w.heap.size (what it tells), + 1 (the reader), + 2 (the pointer to it). -/
structure Deco (w W : World) (s : ByteArray) (e : Int) : Prop where
  eye : Eye W (w.heap.size + 1) s e
  held : Held W (w.heap.size + 1 + 1) (w.heap.size + 1)
  res : Box W w.heap.size 33 #[.string ⟨#[]⟩, .string ⟨#[]⟩, .slice none 0 0, .slice none 0 0, .slice none 0 0, .slice none 0 0]
  below : Below w.heap.size w W
  ok : okS s
  i64 : I64 e
section
variable {w W W' : World} {s s' : ByteArray} {e e' : Int}
theorem Deco.drew (h : Deco w W s e) : Deco w W.drew s e := ⟨h.eye, h.held, h.res, h.below.trans (by go_grown), h.ok, h.i64⟩
theorem Deco.alloc (h : Deco w W s e) (o : Obj) : Deco w (W.alloc o) s e := ⟨h.eye.alloc o, h.held.alloc o, h.res.alloc o, h.below.alloc h.below.size o, h.ok, h.i64⟩
theorem Deco.set (h : Deco w W s e) {p : Addr} (hp : w.heap.size + 1 + 1 < p.block) (u : Value) : Deco w (W.setCell p u) s e :=
  ⟨h.eye.far (by omega) u, h.held.far (by omega) u, h.res.far (by omega) u, h.below.setCell (by omega) u, h.ok, h.i64⟩
theorem Deco.next (h : Deco w W s e) (hg : Grew (w.heap.size + 1) W W' (some (w.heap.size + 1))) (hE : Eye W' (w.heap.size + 1) s' e') (ho : okS s') (hi : I64 e') : Deco w W' s' e' :=
  ⟨hE, hg.box_ h.held (by omega), hg.box_ h.res (by omega), h.below.trans (hg.below (by omega) h.below.size), ho, hi⟩
theorem Deco.ptr (h : Deco w W s e) : W.cell? ⟨w.heap.size + 1 + 1, 0, none⟩ = some (.pointer (some ⟨w.heap.size + 1, 0, none⟩)) := h.held.at_ 0 _ rfl
theorem Deco.text (h : Deco w W s e) : Calls Try.prog 56 #[.pointer (some ⟨w.heap.size + 1, 0, none⟩)] W fun en w' => ∃ (x s' : ByteArray) (e' : Int), okS x ∧ en = .returned (.string x) ∧ Deco w w' s' e' ∧ Grew (w.heap.size + 1) W w' (some (w.heap.size + 1)) ∧ Reads rdStr s.data.toList e x s'.data.toList e' :=
  (text_any (w.heap.size + 1) s e W h.ok h.i64 h.eye).mono fun _ _ ⟨x, hx, he, s', e', hB, hg, hs, hi, hR⟩ => ⟨x, s', e', hx, he, h.next hg hB hs hi, hg, hR⟩
theorem Deco.imports (h : Deco w W s e) : Calls Try.prog 57 #[.pointer (some ⟨w.heap.size + 1, 0, none⟩), .func (.func 58) #[] #[.pointer (some ⟨w.heap.size + 1 + 1, 0, none⟩)]] W fun en w' =>
    ∃ (A : Option Addr) (n c : Nat) (xs : List Import) (s' : ByteArray) (e' : Int), en = .returned (.slice A n c) ∧ SliceOf ImportR 4 72 w' (fresh W.heap.size w'.heap.size) (.slice A n c) xs ∧ Deco w w' s' e' ∧ Grew (w.heap.size + 1) W w' (some (w.heap.size + 1)) ∧ Reads (rdList rdImport) s.data.toList e xs s'.data.toList e' :=
  (listImport_any (w.heap.size + 1) (w.heap.size + 1 + 1) s e W h.ok h.i64 h.eye (by omega) h.held).mono fun _ _ ⟨A, n, c, xs, he, hsl, _, s', e', hB, hg, hs, hi, hR⟩ => ⟨A, n, c, xs, s', e', he, hsl, h.next hg hB hs hi, hg, hR⟩
theorem Deco.diags (h : Deco w W s e) : Calls Try.prog 61 #[.pointer (some ⟨w.heap.size + 1, 0, none⟩), .func (.func 62) #[] #[.pointer (some ⟨w.heap.size + 1 + 1, 0, none⟩)]] W fun en w' =>
    ∃ (A : Option Addr) (n c : Nat) (xs : List Diag) (s' : ByteArray) (e' : Int), en = .returned (.slice A n c) ∧ SliceOf DiagR 2 24 w' (fresh W.heap.size w'.heap.size) (.slice A n c) xs ∧ Deco w w' s' e' ∧ Grew (w.heap.size + 1) W w' (some (w.heap.size + 1)) ∧ Reads (rdList rdDiag) s.data.toList e xs s'.data.toList e' :=
  (listDiag_any (w.heap.size + 1) (w.heap.size + 1 + 1) s e W h.ok h.i64 h.eye (by omega) h.held).mono fun _ _ ⟨A, n, c, xs, he, hsl, _, s', e', hB, hg, hs, hi, hR⟩ => ⟨A, n, c, xs, s', e', he, hsl, h.next hg hB hs hi, hg, hR⟩
theorem Deco.face (h : Deco w W s e) : Calls Try.prog 60 #[.pointer (some ⟨w.heap.size + 1, 0, none⟩)] W fun en w' =>
    ∃ (x : Face) (A1 : Option Addr) (n1 c1 : Nat) (A2 : Option Addr) (n2 c2 : Nat) (s' : ByteArray) (e' : Int), en = .returned (.agg #[.slice A1 n1 c1, .slice A2 n2 c2]) ∧ FaceR w' (fresh W.heap.size w'.heap.size) [.slice A1 n1 c1, .slice A2 n2 c2] x ∧ Deco w w' s' e' ∧ Grew (w.heap.size + 1) W w' (some (w.heap.size + 1)) ∧ Reads rdFace s.data.toList e x s'.data.toList e' :=
  (face_read (w.heap.size + 1) s e W h.ok h.i64 h.eye).mono fun _ _ ⟨x, A1, n1, c1, A2, n2, c2, he, hf, s', e', hB, hg, hs, hi, hR⟩ => ⟨x, A1, n1, c1, A2, n2, c2, s', e', he, hf, h.next hg hB hs hi, hg, hR⟩
theorem Deco.low (h : Deco w W s e) : w.heap.size + 1 + 1 < W.heap.size := h.held.lt
end

set_option maxRecDepth 100000 in
set_option maxHeartbeats 8000000 in
theorem decode_any (s : ByteArray) (w : World) (hs : okS s) :
    Calls Try.prog 36 #[.string s] w fun en w' => ∃ cs : List Value, en = .returned (.tuple #[.agg cs.toArray, .int .i64 (decCode s)]) ∧ Below w.heap.size w w' ∧ RecordR w' (fresh w.heap.size w'.heap.size) cs (decRec s) := by
  by_cases hlen : s.size > 60000
  · have hltz : (s.size : Int) > 60000 := by omega
    have hltz2 : (60000 : Int) < (s.size : Int) := by omega
    have hd : decCode s = 1 ∧ decRec s = noRecord := dec_err (dec_long (by rw [Array.length_toList]; exact hlen))
    rw [hd.1, hd.2]
    clear hd
    go_enter Try.func36, Try.ntmps36
    go_wp2_with fail
    exact bodyPost_ret (v := .tuple #[.agg #[.string ⟨#[]⟩, .string ⟨#[]⟩, .slice none 0 0, .slice none 0 0, .slice none 0 0, .slice none 0 0], .int .i64 1]) (by simp [results, Try.results36, go_sem]) rfl ⟨_, rfl, by go_grown, noRecord_row⟩
  · have hltz : ¬ (s.size : Int) > 60000 := by omega
    have hltz2 : ¬ (60000 : Int) < (s.size : Int) := by omega
    go_enter Try.func36, Try.ntmps36
    go_upto_region 4 with fail
    have hBb1 := (((Box.made w 33 #[.string ⟨#[]⟩, .string ⟨#[]⟩, .slice none 0 0, .slice none 0 0, .slice none 0 0, .slice none 0 0]).alloc (.cells #[.string s, .int .i64 0] 114)).alloc (.cells #[.pointer (some ⟨w.heap.size + 1, 0, none⟩)] 112))
    have hBb2 := ((Box.made (w.alloc (.cells #[.string ⟨#[]⟩, .string ⟨#[]⟩, .slice none 0 0, .slice none 0 0, .slice none 0 0, .slice none 0 0] 33)) 114 #[.string s, .int .i64 0]).alloc (.cells #[.pointer (some ⟨w.heap.size + 1, 0, none⟩)] 112))
    rw [show (w.alloc (.cells #[.string ⟨#[]⟩, .string ⟨#[]⟩, .slice none 0 0, .slice none 0 0, .slice none 0 0, .slice none 0 0] 33)).heap.size = w.heap.size + 1 by simp only [World.size_alloc]] at hBb2
    have hBb3 := (Box.made ((w.alloc (.cells #[.string ⟨#[]⟩, .string ⟨#[]⟩, .slice none 0 0, .slice none 0 0, .slice none 0 0, .slice none 0 0] 33)).alloc (.cells #[.string s, .int .i64 0] 114)) 112 #[.pointer (some ⟨w.heap.size + 1, 0, none⟩)])
    rw [show ((w.alloc (.cells #[.string ⟨#[]⟩, .string ⟨#[]⟩, .slice none 0 0, .slice none 0 0, .slice none 0 0, .slice none 0 0] 33)).alloc (.cells #[.string s, .int .i64 0] 114)).heap.size = w.heap.size + 1 + 1 by simp only [World.size_alloc]] at hBb3
    have hbb : Below w.heap.size w (((w.alloc (.cells #[.string ⟨#[]⟩, .string ⟨#[]⟩, .slice none 0 0, .slice none 0 0, .slice none 0 0, .slice none 0 0] 33)).alloc (.cells #[.string s, .int .i64 0] 114)).alloc (.cells #[.pointer (some ⟨w.heap.size + 1, 0, none⟩)] 112)) := by go_grown
    have hzb : (((w.alloc (.cells #[.string ⟨#[]⟩, .string ⟨#[]⟩, .slice none 0 0, .slice none 0 0, .slice none 0 0, .slice none 0 0] 33)).alloc (.cells #[.string s, .int .i64 0] 114)).alloc (.cells #[.pointer (some ⟨w.heap.size + 1, 0, none⟩)] 112)).heap.size = w.heap.size + 1 + 1 + 1 := by simp only [World.size_alloc]
    generalize ((w.alloc (.cells #[.string ⟨#[]⟩, .string ⟨#[]⟩, .slice none 0 0, .slice none 0 0, .slice none 0 0, .slice none 0 0] 33)).alloc (.cells #[.string s, .int .i64 0] 114)).alloc (.cells #[.pointer (some ⟨w.heap.size + 1, 0, none⟩)] 112) = W1 at hBb1 hBb2 hBb3 hbb hzb ⊢
    have hi0 : I64 0 := by unfold I64; omega
    have hD1 : Deco w W1 s 0 := ⟨hBb2, hBb3, hBb1, hbb, hs, hi0⟩
    have q1 := hD1.ptr
    have HD1 := Lib.hid hD1
    clear hBb1 hBb2 hBb3 hbb hzb hD1
    go_cut [5] (fun s5 wc => ∃ (X : Nat) (x2 x3 s2 s3 : ByteArray) (e2 e3 : Int), s5 = .pointer (some ⟨X, 0, none⟩) ∧ Aside (w.heap.size + 1 + 1 < X) ∧ Aside (Box wc X 33 #[.string x2, .string x3, .slice none 0 0, .slice none 0 0, .slice none 0 0, .slice none 0 0]) ∧ Aside (Deco w wc s3 e3) ∧ Aside (okS x2 ∧ okS x3) ∧
      Aside (Reads rdStr s.data.toList 0 x2 s2.data.toList e2) ∧ Aside (Reads rdStr s2.data.toList e2 x3 s3.data.toList e3))
    case first =>
      go_region_held3 (fun w' => w'.cell? ⟨w.heap.size + 1 + 1, 0, none⟩ = some (.pointer (some ⟨w.heap.size + 1, 0, none⟩))) (with_reducible first | exact HD3.out.ptr | exact (HD3.out.alloc _).ptr | exact HD2.out.ptr | exact (HD2.out.alloc _).ptr | exact HD1.out.drew.ptr | exact (HD1.out.drew.alloc _).ptr | exact (HD1.out.alloc _).drew.ptr | exact (((((((HD3.out.alloc _).set (by first | (have := HXL.out; simp; omega) | (have := HD3.out.low; simp; omega)) _).set (by first | (have := HXL.out; simp; omega) | (have := HD3.out.low; simp; omega)) _).set (by first | (have := HXL.out; simp; omega) | (have := HD3.out.low; simp; omega)) _).set (by first | (have := HXL.out; simp; omega) | (have := HD3.out.low; simp; omega)) _).set (by first | (have := HXL.out; simp; omega) | (have := HD3.out.low; simp; omega)) _).set (by first | (have := HXL.out; simp; omega) | (have := HD3.out.low; simp; omega)) _).ptr | exact ((((((HD3.out.set (by first | (have := HXL.out; simp; omega) | (have := HD3.out.low; simp; omega)) _).set (by first | (have := HXL.out; simp; omega) | (have := HD3.out.low; simp; omega)) _).set (by first | (have := HXL.out; simp; omega) | (have := HD3.out.low; simp; omega)) _).set (by first | (have := HXL.out; simp; omega) | (have := HD3.out.low; simp; omega)) _).set (by first | (have := HXL.out; simp; omega) | (have := HD3.out.low; simp; omega)) _).set (by first | (have := HXL.out; simp; omega) | (have := HD3.out.low; simp; omega)) _).ptr)
        (first
          | (go_at_call 56; (with_reducible refine (Deco.text (w := w) (s := s2) (e := e2) (by first | exact HD2.out | exact HD2.out.alloc _)).mono ?_); rintro en w3 ⟨x3, s3, e3, hx3, rfl, hD3, hg3, hR3⟩; have HD3 := Lib.hid hD3; have HN3 := Lib.hid hx3; have HR3 := Lib.hid hR3; (first | (have hX3 := hg3.box_ HX.out (by have := HXL.out; omega); have HX3 := Lib.hid hX3; clear hX3) | (have hX3 := hg3.box_ (Box.made _ _ _) (by have := HD2.out.low; omega); have hXX := HD2.out.low; have HXL := Lib.hid hXX; have HX3 := Lib.hid hX3; clear hX3 hXX) | skip); (first | (have c0 := HX3.out.at_ 0 _ rfl; have f0 := HX3.out.free 0; have c1 := HX3.out.at_ 1 _ rfl; have f1 := HX3.out.free 1; have c2 := HX3.out.at_ 2 _ rfl; have f2 := HX3.out.free 2; have c3 := HX3.out.at_ 3 _ rfl; have f3 := HX3.out.free 3; have c4 := HX3.out.at_ 4 _ rfl; have f4 := HX3.out.free 4; have c5 := HX3.out.at_ 5 _ rfl; have f5 := HX3.out.free 5) | skip); clear hg3 hD3 hR3 hx3)
          | (go_at_call 56; (with_reducible refine (Deco.text (w := w) (s := s) (e := 0) (by first | exact HD1.out.drew | exact HD1.out.drew.alloc _ | exact (HD1.out.alloc _).drew)).mono ?_); rintro en w2 ⟨x2, s2, e2, hx2, rfl, hD2, hg2, hR2⟩; have HD2 := Lib.hid hD2; have HN2 := Lib.hid hx2; have HR2 := Lib.hid hR2; (first | (have hX := hg2.box_ (by first | exact (Box.made _ _ _).drew | exact Box.made _ _ _) (by have := HD1.out.low; simp; omega); have hXX := HD1.out.low; have HXL := Lib.hid hXX; have HX := Lib.hid hX; clear hX hXX) | skip); clear hg2 hD2 hR2 hx2 HD1))
      all_goals
        go_wp2_with fail
        go_meet
        first
          | exact ⟨_, x2, x3, s2, s3, e2, e3, rfl, aside HD3.out.low, aside (Box.made _ _ _), aside (HD3.out.alloc _), aside ⟨HN2.out, HN3.out⟩, aside HR2.out, aside HR3.out⟩
          | exact ⟨_, x2, x3, s2, s3, e2, e3, rfl, aside HXL.out, aside (by have h := (((((HX3.out.put 0 (.string x2)).put 1 (.string x3)).put 2 (.slice none 0 0)).put 3 (.slice none 0 0)).put 4 (.slice none 0 0)).put 5 (.slice none 0 0); simpa using h), aside ((((((HD3.out.set (by have := HXL.out; simp; omega) _).set (by have := HXL.out; simp; omega) _).set (by have := HXL.out; simp; omega) _).set (by have := HXL.out; simp; omega) _).set (by have := HXL.out; simp; omega) _).set (by have := HXL.out; simp; omega) _), aside ⟨HN2.out, HN3.out⟩, aside HR2.out, aside HR3.out⟩
    case rest =>
      obtain ⟨X, x2, x3, s2, s3, e2, e3, rfl, hXL, hX3, hD3, hN, hR2, hR3⟩ := hcut
      obtain ⟨w3, rfl⟩ : ∃ W, W = wc := ⟨_, rfl⟩
      have hX3l := hX3.out.lt
      have hDI := hD3.out.imports
      have q3 := hD3.out.ptr
      clear q1
      have HDI := Lib.hid hDI; clear hDI
      go_wp2_with fail
      refine HDI.out.mono ?_
      rintro en w4 ⟨A4, n4, c4, xs4, s4, e4, rfl, hsl4, hD4, hg4, hR4⟩
      have hXb : X ≠ w.heap.size + 1 := by have := hXL.out; omega
      have hbx : w.heap.size + 1 < w3.heap.size := by have := hXL.out; omega
      have hX4 := hg4.box_ hX3.out hXb
      have hsz4 := hg4.size
      clear q3 HDI
      have ca2 := hX4.at_ 2 _ rfl
      have f2 := hX4.free 2
      have hD5 := hD4.set (p := ⟨X, 2, none⟩) hXL.out (.slice A4 n4 c4)
      have hX5 : Box (w4.setCell ⟨X, 2, none⟩ (.slice A4 n4 c4)) X 33 #[.string x2, .string x3, .slice A4 n4 c4, .slice none 0 0, .slice none 0 0, .slice none 0 0] := by simpa using hX4.put 2 (.slice A4 n4 c4)
      have hsl5 := hsl4.put ImportR.stays (p := ⟨X, 2, none⟩) hX3l (.slice A4 n4 c4)
      have hDF := hD5.face
      have q4 := hD4.ptr
      have HDF := Lib.hid hDF; have HX5 := Lib.hid hX5; have HSL5 := Lib.hid hsl5; have HSZ4 := Lib.hid hsz4; have HR4 := Lib.hid hR4
      clear hDF hX5 hsl5 hsz4 hR4
      clear hX4 hsl4 hD4 hg4
      go_wp2_with fail
      refine HDF.out.mono ?_
      rintro en w6 ⟨fa, A6, n6, c6, A7, n7, c7, s6, e6, rfl, hf6, hD6, hg6, hR6⟩
      have hX6 := hg6.box_ HX5.out hXb
      have hsz6 := hg6.size
      rw [size_set] at hsz6 hf6
      have hsl6 := HSL5.out.read ImportR.stays hg6 hbx (by rw [size_set]; exact Nat.le_refl _)
      clear q4 HDF ca2 f2 HX5 HSL5 hD5
      have ca3 := hX6.at_ 3 _ rfl
      have ca4 := hX6.at_ 4 _ rfl
      have f3 := hX6.free 3
      have f4 := hX6.free 4
      have hD7 := (hD6.set (p := ⟨X, 3, none⟩) hXL.out (.slice A6 n6 c6)).set (p := ⟨X, 4, none⟩) hXL.out (.slice A7 n7 c7)
      have hX7 : Box ((w6.setCell ⟨X, 3, none⟩ (.slice A6 n6 c6)).setCell ⟨X, 4, none⟩ (.slice A7 n7 c7)) X 33 #[.string x2, .string x3, .slice A4 n4 c4, .slice A6 n6 c6, .slice A7 n7 c7, .slice none 0 0] := by simpa using (hX6.put 3 (.slice A6 n6 c6)).put 4 (.slice A7 n7 c7)
      have hsl7 := (hsl6.put ImportR.stays (p := ⟨X, 3, none⟩) hX3l (.slice A6 n6 c6)).put ImportR.stays (p := ⟨X, 4, none⟩) hX3l (.slice A7 n7 c7)
      have hX4l : X < w4.heap.size := by have := HSZ4.out; omega
      have hf7 := FaceR.pf (p := ⟨X, 4, none⟩) (FaceR.pf (p := ⟨X, 3, none⟩) hf6 hX4l (.slice A6 n6 c6)) hX4l (.slice A7 n7 c7)
      have hDD := hD7.diags
      have q6 := hD6.ptr
      have HDD := Lib.hid hDD; have HX7 := Lib.hid hX7; have HSL7 := Lib.hid hsl7; have HSZ6 := Lib.hid hsz6; have HR6 := Lib.hid hR6; have HF7 := Lib.hid hf7
      clear hDD hX7 hsl7 hsz6 hR6 hf7
      clear hX6 hsl6 hD6 hg6 hf6
      go_wp2_with fail
      refine HDD.out.mono ?_
      rintro en w8 ⟨A8, n8, c8, xs8, s8, e8, rfl, hsl8, hD8, hg8, hR8⟩
      have hX8 := hg8.box_ HX7.out hXb
      have hsz8 := hg8.size
      simp only [size_set] at hsz8 hsl8
      have hsl8' := HSL7.out.read ImportR.stays hg8 hbx (by simp only [size_set]; have := HSZ6.out; exact this)
      have hf8 := FaceR.rd HF7.out hg8 (by have := HSZ4.out; omega) (by simp only [size_set]; exact Nat.le_refl _)
      have hX6l : X < w6.heap.size := by have := HSZ6.out; omega
      clear q6 HDD ca3 ca4 f3 f4 HX7 HSL7 HF7 hD7
      have ca5 := hX8.at_ 5 _ rfl
      have f5 := hX8.free 5
      have hD9 := hD8.set (p := ⟨X, 5, none⟩) hXL.out (.slice A8 n8 c8)
      have hX9 : Box (w8.setCell ⟨X, 5, none⟩ (.slice A8 n8 c8)) X 33 #[.string x2, .string x3, .slice A4 n4 c4, .slice A6 n6 c6, .slice A7 n7 c7, .slice A8 n8 c8] := by simpa using hX8.put 5 (.slice A8 n8 c8)
      have hsl9 := hsl8'.put ImportR.stays (p := ⟨X, 5, none⟩) hX3l (.slice A8 n8 c8)
      have hf9 := FaceR.pf (p := ⟨X, 5, none⟩) hf8 hX4l (.slice A8 n8 c8)
      have hds9 := hsl8.put DiagR.stays (p := ⟨X, 5, none⟩) hX6l (.slice A8 n8 c8)
      have hlow : w.heap.size + 1 + 1 < X := hXL.out
      obtain ⟨R, hRe⟩ : ∃ R : Record, R = ⟨x2, x3, xs4, fa, xs8⟩ := ⟨_, rfl⟩
      have hrec : RecordR (w8.setCell ⟨X, 5, none⟩ (.slice A8 n8 c8)) (fresh (w.heap.size + 1 + 1 + 1) w8.heap.size) [.string x2, .string x3, .slice A4 n4 c4, .slice A6 n6 c6, .slice A7 n7 c7, .slice A8 n8 c8] R := by
        rw [hRe]
        have h4 := HSZ4.out
        have h6 := HSZ6.out
        exact ⟨_, _, _, _, rfl, hN.out.1, hN.out.2, hsl9.foot ImportR.stays (by omega) (by omega), FaceR.ff hf9 (by omega) (by omega), hds9.foot DiagR.stays (by omega) (Nat.le_refl _)⟩
      have hall : Reads rdRecord s.data.toList 0 R s8.data.toList e8 := by
        rw [hRe]
        exact hR2.out.bind (hR3.out.bind (HR4.out.bind (HR6.out.bind (hR8.map (g := fun ds => (⟨x2, x3, xs4, fa, ds⟩ : Record))))))
      clear hsl9 hf9 hds9 hsl8 hf8 hsl8' hRe hR2 hR3 HR4 HR6 hR8 hX3 hD3 hg8
      have hln : ¬ 60000 < s.data.toList.length := by rw [Array.length_toList]; exact hlen
      have q8 := hD8.ptr
      have e0 := hD8.eye.at_ 0 _ rfl
      have e1 := hD8.eye.at_ 1 _ rfl
      have ef := hD8.eye.free 1
      have r0 := hD8.res.at_ 0 _ rfl
      have r1 := hD8.res.at_ 1 _ rfl
      have r2 := hD8.res.at_ 2 _ rfl
      have r3 := hD8.res.at_ 3 _ rfl
      have r4 := hD8.res.at_ 4 _ rfl
      have r5 := hD8.res.at_ 5 _ rfl
      have g0 := hD8.res.free 0
      have g1 := hD8.res.free 1
      have g2 := hD8.res.free 2
      have g3 := hD8.res.free 3
      have g4 := hD8.res.free 4
      have g5 := hD8.res.free 5
      have d0 := hX8.at_ 0 _ rfl
      have d1 := hX8.at_ 1 _ rfl
      have d2 := hX8.at_ 2 _ rfl
      have d3 := hX8.at_ 3 _ rfl
      have d4 := hX8.at_ 4 _ rfl
      have d5 := hX8.at_ 5 _ rfl
      have hs8b : s8.size ≤ 140737488355328 := hD8.ok
      have hl8 : s8.size = s8.data.toList.length := by rw [Array.length_toList]; rfl
      have HREC := Lib.hid hrec; have HALL := Lib.hid hall; have HD9 := Lib.hid hD9; have HX9 := Lib.hid hX9; have HL8 := Lib.hid hl8; have HLN := Lib.hid hln
      clear hrec hall hD9 hX9 hl8 hln
      by_cases he : e8 = 0
      · subst he
        by_cases hs8 : 0 < s8.size
        · have hsz : (0 : Int) < (s8.size : Int) := by omega
          have hsz2 : (s8.size : Int) > 0 := by omega
          have hd := dec_err (dec_more HLN.out HALL.out (by have := HL8.out; omega))
          have HDC := Lib.hid hd
          clear hd hX8 hD8
          go_wp2_with fail
          go_region
          all_goals
            (try go_wp2_with fail)
            exact bodyPost_ret (v := .tuple #[.agg #[.string ⟨#[]⟩, .string ⟨#[]⟩, .slice none 0 0, .slice none 0 0, .slice none 0 0, .slice none 0 0], .int .i64 4]) (by simp [results, Try.results36, go_sem, r0, r1, r2, r3, r4, r5]) rfl ⟨_, by rw [HDC.out.1], (by first | exact below_resD (below_res (HD9.out.below.setCell (by simp) _)) | exact below_res (below_resD (HD9.out.below.setCell (by simp) _))), by rw [HDC.out.2]; exact noRecord_row⟩
        · have hsz : ¬ (0 : Int) < (s8.size : Int) := by omega
          have hsz2 : ¬ (s8.size : Int) > 0 := by omega
          have hck := recordCheck_any R [.string x2, .string x3, .slice A4 n4 c4, .slice A6 n6 c6, .slice A7 n7 c7, .slice A8 n8 c8] (fresh (w.heap.size + 1 + 1 + 1) w8.heap.size) (w8.setCell ⟨X, 5, none⟩ (.slice A8 n8 c8)) (fun k hk => by simpa [size_set] using hk.2) HREC.out
          have hd1 := fun h => dec_err (dec_fault HLN.out HALL.out (by have := HL8.out; omega) h)
          have hd2 := fun h => dec_rec (dec_ok HLN.out HALL.out (by have := HL8.out; omega) h)
          obtain ⟨C, hC⟩ : ∃ C, recErr R = C := ⟨_, rfl⟩
          rw [hC] at hck hd1 hd2
          have HCK := Lib.hid hck; have HDA := Lib.hid hd1; have HDB := Lib.hid hd2
          clear hck hd1 hd2
          clear hD8 hX8 hC
          go_wp2_with fail
          refine HCK.out.mono ?_
          rintro en w10 ⟨rfl, hb10⟩
          have hbw := HD9.out.below.trans (hb10.mono HD9.out.below.size)
          have hR10 := HD9.out.res.later hb10 HD9.out.res.lt
          have hX10 := HX9.out.later hb10 HX9.out.lt
          have hrec := RecordR.stays _ _ _ _ _ _ HREC.out (fun _ h => h) (Keeps.of_below hb10 fun k hk => by simpa [size_set] using hk.2)
          have hz10 := hb10.size
          rw [size_set] at hz10
          clear r0 r1 r2 r3 r4 r5 g0 g1 g2 g3 g4 g5 d0 d1 d2 d3 d4 d5 ca5 f5 q8 e0 e1 ef hb10 HCK HREC
          have r0 := hR10.at_ 0 _ rfl
          have r1 := hR10.at_ 1 _ rfl
          have r2 := hR10.at_ 2 _ rfl
          have r3 := hR10.at_ 3 _ rfl
          have r4 := hR10.at_ 4 _ rfl
          have r5 := hR10.at_ 5 _ rfl
          have g0 := hR10.free 0
          have g1 := hR10.free 1
          have g2 := hR10.free 2
          have g3 := hR10.free 3
          have g4 := hR10.free 4
          have g5 := hR10.free 5
          have d0 := hX10.at_ 0 _ rfl
          have d1 := hX10.at_ 1 _ rfl
          have d2 := hX10.at_ 2 _ rfl
          have d3 := hX10.at_ 3 _ rfl
          have d4 := hX10.at_ 4 _ rfl
          have d5 := hX10.at_ 5 _ rfl
          have HBW := Lib.hid hbw; have HREC := Lib.hid hrec; have HZ10 := Lib.hid hz10
          clear hbw hrec hz10
          clear hR10 hX10
          by_cases hC : C = 0
          · subst hC
            have hd := HDB.out rfl
            have HDC := Lib.hid hd; clear hd
            go_wp2_with fail
            have hz10 := HZ10.out
            have hlo : ∀ i, ¬ fresh (w.heap.size + 1 + 1 + 1) w8.heap.size (⟨w.heap.size, i, none⟩ : Addr).block := fun i => fresh_no (by show w.heap.size < _; omega)
            exact bodyPost_ret (v := .tuple #[.agg #[.string x2, .string x3, .slice A4 n4 c4, .slice A6 n6 c6, .slice A7 n7 c7, .slice A8 n8 c8], .int .i64 0]) (by simp [results, Try.results36, go_sem, r0, r1, r2, r3, r4, r5]) rfl ⟨_, by rw [HDC.out.1], below_res HBW.out, by
              rw [HDC.out.2]
              exact RecordR.stays _ _ _ _ _ _ HREC.out (fresh_up (by omega) (by simp only [size_set]; exact hz10)) (((((((Keeps.refl _ _).setCell (hlo _) _).setCell (hlo _) _).setCell (hlo _) _).setCell (hlo _) _).setCell (hlo _) _).setCell (hlo _) _)⟩
          · have hez : (C == 0) = false := by simp [hC]
            have hez2 : (C != 0) = true := by simp [hC]
            have hd := HDA.out hC
            have HDC := Lib.hid hd; clear hd
            go_wp2_with fail
            exact bodyPost_ret (v := .tuple #[.agg #[.string ⟨#[]⟩, .string ⟨#[]⟩, .slice none 0 0, .slice none 0 0, .slice none 0 0, .slice none 0 0], .int .i64 C]) (by simp [results, Try.results36, go_sem, r0, r1, r2, r3, r4, r5]) rfl ⟨_, by rw [HDC.out.1], below_res HBW.out, by rw [HDC.out.2]; exact noRecord_row⟩
      · have hez : (e8 == 0) = false := by simp [he]
        have hez2 : (e8 != 0) = true := by simp [he]
        have hd := dec_err (dec_bad HLN.out HALL.out he)
        have HDC := Lib.hid hd
        clear hd hX8 hD8
        go_wp2_with fail
        go_region
        all_goals
          (try go_wp2_with fail)
          exact bodyPost_ret (v := .tuple #[.agg #[.string ⟨#[]⟩, .string ⟨#[]⟩, .slice none 0 0, .slice none 0 0, .slice none 0 0, .slice none 0 0], .int .i64 e8]) (by simp [results, Try.results36, go_sem, r0, r1, r2, r3, r4, r5]) rfl ⟨_, by rw [HDC.out.1], (by first | exact below_resD (below_res HD9.out.below) | exact below_res (below_resD HD9.out.below)), by rw [HDC.out.2]; exact noRecord_row⟩

end Go.Proofs.Ytoejhgbndehaiaa
