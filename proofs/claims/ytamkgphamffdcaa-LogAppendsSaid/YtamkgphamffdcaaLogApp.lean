/- A log that is written: log.Append, and the reference's framed, AppendedOf. -/
import Derived.Test.YtamkgphamffdcaaLogSum
import Derived.Test.YtamkgphamffdcaaEncode
import Derived.Test.YtamkgphamffdcaaRefRecord
namespace Go.Proofs.Ytamkgphamffdcaa
open Go.RowKit Go.Shelf

/-- A record's bytes in a log, but for the seal. -/
def frameH (b : ByteArray) : ByteArray := ⟨#[107]⟩ ++ txt (num3 b.size) ++ b
def apErr (s : ByteArray) (r : Record) : Int := if recErr r = 0 then (if 60000 < s.size + (frameH (recBytes r)).size + 4 then 1 else 0) else recErr r
def apTxt (s : ByteArray) (r : Record) : ByteArray := if recErr r = 0 then (if 60000 < s.size + (frameH (recBytes r)).size + 4 then ⟨#[]⟩ else s ++ frameH (recBytes r) ++ txt (sealB (frameH (recBytes r)).data.toList)) else ⟨#[]⟩
theorem frameH_size (b : ByteArray) : (frameH b).size = b.size + 4 := by
  simp only [frameH, ba_app_size, txt_size, num3, show (⟨#[107]⟩ : ByteArray).size = 1 from rfl, List.length_cons, List.length_nil]; omega
theorem recBytes_size {r : Record} : (recBytes r).size ≤ 4100000 := by
  unfold recBytes
  split
  · next h => rw [txt_size]; exact encRecord_len h
  · exact Nat.zero_le _

set_option maxHeartbeats 1000000 in
set_option maxRecDepth 100000 in
theorem logAppend_any (s : ByteArray) (r : Record) (cs : List Value) (F : Foot) (w : World) (hF : ∀ k, F k → k < w.heap.size) (hr : RecordR w F cs r) (hs : s.size ≤ 140737488355328) :
    Calls Try.prog 94 #[.string s, .agg cs.toArray] w fun e w' => e = .returned (.tuple #[.string (apTxt s r), .int .i64 (apErr s r)]) ∧ Below w.heap.size w w' := by
  have hc := fun U (hU : Below w.heap.size w U) => encode_any r cs F U (foot_up hF hU) (RecordR.stays.later hr hU hF)
  obtain ⟨I1, i1, T1, e1, T2, e2, D1, d1, rfl, _⟩ := RecordR.all hr
  clear hr
  unfold apTxt apErr
  have hb := recBytes_size (r := r)
  generalize recBytes r = B at hc hb ⊢
  generalize recErr r = E at hc ⊢
  have hfs := frameH_size B
  have hd3 := fun W => digits_3 B.size W (by omega)
  have hsu := fun W => sum_any (frameH B) W (by omega)
  obtain ⟨hx, hy⟩ := adl_small (frameH B).data.toList
  have hd4 := fun W => digits_4 (sumN (frameH B).data.toList) W (by unfold sumN; omega)
  have hsl : (txt (sealB (frameH B).data.toList)).size = 4 := by rw [txt_size]; rfl
  rw [seal_num] at hd4
  have hn3 : (txt (num3 B.size)).size = 3 := by rw [txt_size]; rfl
  have hfe : frameH B = ⟨#[107]⟩ ++ txt (num3 B.size) ++ B := rfl
  generalize txt (num3 B.size) = n3 at hn3 hd3 hfe
  generalize txt (sealB (frameH B).data.toList) = n4 at hsl hd4 ⊢
  generalize sumN (frameH B).data.toList = sm at hsu hd4
  rw [hfe] at hsu ⊢
  have hsz : (⟨#[107]⟩ ++ n3 ++ B : ByteArray).size = 1 + n3.size + B.size := by rw [ba_app_size, ba_app_size]; rfl
  have hn3' : n3.size ≤ 3 := by omega
  have hsl' : n4.size ≤ 4 := by omega
  rw [hsz]
  have HC := Lib.hid hc; have HD3 := Lib.hid hd3; have HD4 := Lib.hid hd4; have HSU := Lib.hid hsu
  clear hc hd3 hd4 hsu
  clear hx hy hfe hfs hsz hn3 hsl
  by_cases h0 : E = 0
  · subst h0
    rw [if_pos rfl, if_pos rfl]
    obtain ⟨T, hT⟩ : ∃ T, (if 60000 < s.size + (1 + n3.size + B.size) + 4 then (⟨#[]⟩ : ByteArray) else s ++ (⟨#[107]⟩ ++ n3 ++ B) ++ n4) = T := ⟨_, rfl⟩
    obtain ⟨C, hC⟩ : ∃ C, (if 60000 < s.size + (1 + n3.size + B.size) + 4 then (1 : Int) else 0) = C := ⟨_, rfl⟩
    rw [hT, hC]
    have HT := Lib.hid hT; have HCd := Lib.hid hC
    clear hT hC
    go_enter Try.func94, Try.ntmps94
    go_upto_region 1 with fail
    have hBa := Box.made w 40 #[.string r.name, .string r.source, .slice I1 r.imports.length i1, .slice T1 r.face.types.length e1, .slice T2 r.face.funcs.length e2, .slice D1 r.diags.length d1]
    have hba : Below w.heap.size w (w.alloc (.cells #[.string r.name, .string r.source, .slice I1 r.imports.length i1, .slice T1 r.face.types.length e1, .slice T2 r.face.funcs.length e2, .slice D1 r.diags.length d1] 40)) := by go_grown
    have hza : (w.alloc (.cells #[.string r.name, .string r.source, .slice I1 r.imports.length i1, .slice T1 r.face.types.length e1, .slice T2 r.face.funcs.length e2, .slice D1 r.diags.length d1] 40)).heap.size = w.heap.size + 1 := by simp
    generalize w.alloc (.cells #[.string r.name, .string r.source, .slice I1 r.imports.length i1, .slice T1 r.face.types.length e1, .slice T2 r.face.funcs.length e2, .slice D1 r.diags.length d1] 40) = W1 at hBa hba hza ⊢
    have x0 := hBa.at_ 0 _ rfl
    have x1 := hBa.at_ 1 _ rfl
    have x2 := hBa.at_ 2 _ rfl
    have x3 := hBa.at_ 3 _ rfl
    have x4 := hBa.at_ 4 _ rfl
    have x5 := hBa.at_ 5 _ rfl
    go_wp2_with fail
    refine (HC.out _ hba).mono ?_
    rintro e W2 ⟨rfl, hb2⟩
    have HBW := Lib.hid (hba.trans (hb2.mono hba.size))
    clear hBa hba hza hb2 x0 x1 x2 x3 x4 x5
    go_wp2_with fail
    refine (HD3.out _).mono ?_
    rintro e W3 ⟨rfl, hb3⟩
    have HB3 := Lib.hid (HBW.out.trans (hb3.mono HBW.out.size))
    clear hb3
    have s1 : ¬ 9223372036854775807 < 1 + n3.size := by omega
    have s2 : ¬ 9223372036854775807 < 1 + n3.size + B.size := by omega
    have s3 : ¬ 9223372036854775807 < s.size + (1 + n3.size + B.size) := by omega
    have s4 : ¬ 9223372036854775807 < s.size + (1 + n3.size + B.size) + n4.size := by omega
    have hw : wrap64 ((s.size : Int) + (1 + (n3.size : Int) + (B.size : Int)) + 4) = ((s.size + (1 + n3.size + B.size) + 4 : Nat) : Int) := by
      rw [IntWalk.wrap64_in _ (by omega)]; omega
    have HX1 := Lib.hid hn3'; have HX2 := Lib.hid hb; have HX4 := Lib.hid hs; have HX5 := Lib.hid hsl'; have HW := Lib.hid hw
    clear hn3' hb hs hsl' hw
    go_upto_region 5 with fail
    clear s1 s2
    go_wp2_with fail
    · have h : 60000 < wrap64 ((s.size : Int) + (1 + (n3.size : Int) + (B.size : Int)) + 4) := by assumption
      rw [HW.out] at h
      have h6 : 60000 < s.size + (1 + n3.size + B.size) + 4 := by omega
      go_ret2
      exact ⟨by rw [← HT.out, ← HCd.out, if_pos h6, if_pos h6]; rfl, HB3.out⟩
    · have h : wrap64 ((s.size : Int) + (1 + (n3.size : Int) + (B.size : Int)) + 4) ≤ 60000 := by assumption
      rw [HW.out] at h
      have h6 : ¬ 60000 < s.size + (1 + n3.size + B.size) + 4 := by omega
      have H6 := Lib.hid h6
      clear h h6
      refine (HSU.out _).mono ?_
      rintro e W4 ⟨rfl, rfl⟩
      go_wp2_with fail
      refine (HD4.out _).mono ?_
      rintro e W5 ⟨rfl, hb5⟩
      have HB5 := Lib.hid (HB3.out.trans (hb5.mono HB3.out.size))
      clear hb5
      go_wp2_with fail
      go_ret2
      exact ⟨by rw [← HT.out, ← HCd.out, if_neg H6.out, if_neg H6.out]; rfl, HB5.out⟩
  · have h0n : (E != 0) = true := by simp [h0]
    rw [if_neg h0, if_neg h0]
    go_enter Try.func94, Try.ntmps94
    go_upto_region 1 with fail
    have hBa := Box.made w 40 #[.string r.name, .string r.source, .slice I1 r.imports.length i1, .slice T1 r.face.types.length e1, .slice T2 r.face.funcs.length e2, .slice D1 r.diags.length d1]
    have hba : Below w.heap.size w (w.alloc (.cells #[.string r.name, .string r.source, .slice I1 r.imports.length i1, .slice T1 r.face.types.length e1, .slice T2 r.face.funcs.length e2, .slice D1 r.diags.length d1] 40)) := by go_grown
    have hza : (w.alloc (.cells #[.string r.name, .string r.source, .slice I1 r.imports.length i1, .slice T1 r.face.types.length e1, .slice T2 r.face.funcs.length e2, .slice D1 r.diags.length d1] 40)).heap.size = w.heap.size + 1 := by simp
    generalize w.alloc (.cells #[.string r.name, .string r.source, .slice I1 r.imports.length i1, .slice T1 r.face.types.length e1, .slice T2 r.face.funcs.length e2, .slice D1 r.diags.length d1] 40) = W1 at hBa hba hza ⊢
    have x0 := hBa.at_ 0 _ rfl
    have x1 := hBa.at_ 1 _ rfl
    have x2 := hBa.at_ 2 _ rfl
    have x3 := hBa.at_ 3 _ rfl
    have x4 := hBa.at_ 4 _ rfl
    have x5 := hBa.at_ 5 _ rfl
    go_wp2_with fail
    refine (HC.out _ hba).mono ?_
    rintro e W2 ⟨rfl, hb2⟩
    have HBW := Lib.hid (hba.trans (hb2.mono hba.size))
    clear hBa hba hza hb2 x0 x1 x2 x3 x4 x5
    go_wp2_with fail
    go_ret2
    exact ⟨rfl, HBW.out⟩

/-- A record's bytes in a log. -/
def framedB (b : ByteArray) : ByteArray := frameH b ++ txt (sealB (frameH b).data.toList)
def framedTxt (r : Record) : ByteArray := if recErr r = 0 then framedB (recBytes r) else ⟨#[]⟩

set_option maxHeartbeats 1000000 in
set_option maxRecDepth 100000 in
theorem framed_any (r : Record) (cs : List Value) (F : Foot) (w : World) (hF : ∀ k, F k → k < w.heap.size) (hr : RecordR w F cs r) :
    Calls Try.prog 170 #[.agg cs.toArray] w fun e w' => e = .returned (.tuple #[.string (framedTxt r), .int .i64 (recErr r)]) ∧ Below w.heap.size w w' := by
  have hc := fun U (hU : Below w.heap.size w U) => recordBytes_any r cs F U (foot_up hF hU) (RecordR.stays.later hr hU hF)
  obtain ⟨I1, i1, T1, e1, T2, e2, D1, d1, rfl, _⟩ := RecordR.all hr
  clear hr
  unfold framedTxt framedB
  have hb := recBytes_size (r := r)
  generalize recBytes r = B at hc hb ⊢
  generalize recErr r = E at hc ⊢
  have hfs := frameH_size B
  have hse := fun W => sealOf_any (frameH B) W (by omega)
  have hsl : (txt (sealB (frameH B).data.toList)).size ≤ 4 := by rw [txt_size]; exact Nat.le_refl _
  have hn3 : (txt (num3 B.size)).size ≤ 3 := by rw [txt_size]; exact Nat.le_refl _
  have hcv : ∀ W : World, (convert 105 9 (.slice (some ⟨W.heap.size, 0, none⟩) 3 3)).run Try.prog (W.alloc (.cells #[.int .u8 ((B.size : Int) / 65536), .int .u8 ((B.size : Int) / 256 % 256), .int .u8 ((B.size : Int) % 256)] 5)) = .ok (.string (txt (num3 B.size))) (W.alloc (.cells #[.int .u8 ((B.size : Int) / 65536), .int .u8 ((B.size : Int) / 256 % 256), .int .u8 ((B.size : Int) % 256)] 5)) := fun W => by
    refine run_convert_bytes_back _ 105 9 5 ⟨W.heap.size, 0, none⟩ 3 (num3 B.size) Try.underlying105 Try.underlying5 Try.underlying9 (fun j hj => ?_)
    have hB := Box.made W 5 #[.int .u8 ((B.size : Int) / 65536), .int .u8 ((B.size : Int) / 256 % 256), .int .u8 ((B.size : Int) % 256)]
    rw [Addr.add_lit, Nat.zero_add]
    match j, hj with
    | 0, _ => exact (hB.at_ 0 (.int .u8 ((B.size : Int) / 65536)) rfl).trans (by rw [show (B.size : Int) / 65536 = (B.size : Int) / 65536 % 256 by omega, byte_div65536]; rfl)
    | 1, _ => exact (hB.at_ 1 (.int .u8 ((B.size : Int) / 256 % 256)) rfl).trans (by rw [byte_div256]; rfl)
    | 2, _ => exact (hB.at_ 2 (.int .u8 ((B.size : Int) % 256)) rfl).trans (by rw [byte_nat]; rfl)
  have hfe : frameH B = ⟨#[107]⟩ ++ txt (num3 B.size) ++ B := rfl
  generalize txt (num3 B.size) = n3 at hn3 hcv hfe
  generalize txt (sealB (frameH B).data.toList) = n4 at hsl hse ⊢
  rw [hfe] at hse ⊢
  have s1 : ¬ 9223372036854775807 < 1 + n3.size := by omega
  have s2 : ¬ 9223372036854775807 < 1 + n3.size + B.size := by omega
  have s3 : ¬ 9223372036854775807 < 1 + n3.size + B.size + n4.size := by omega
  have q1 : IntKind.i64.wrap ((B.size : Int) / 65536) = (B.size : Int) / 65536 := IntWalk.i64_in _ (by omega)
  have q2 : IntKind.i64.wrap ((B.size : Int) / 256) = (B.size : Int) / 256 := IntWalk.i64_in _ (by omega)
  have q3 : ((B.size : Int) / 256).tmod 256 = (B.size : Int) / 256 % 256 := Int.tmod_eq_emod_of_nonneg (by omega)
  have q4 : ((B.size : Int)).tmod 256 = (B.size : Int) % 256 := Int.tmod_eq_emod_of_nonneg (by omega)
  have HC := Lib.hid hc; have HSE := Lib.hid hse
  clear hc hse
  clear hfe hfs hn3 hsl
  by_cases h0 : E = 0
  · subst h0
    rw [if_pos rfl]
    go_enter Try.func170, Try.ntmps170
    go_upto_region 1 with fail
    have hBa := Box.made w 40 #[.string r.name, .string r.source, .slice I1 r.imports.length i1, .slice T1 r.face.types.length e1, .slice T2 r.face.funcs.length e2, .slice D1 r.diags.length d1]
    have hba : Below w.heap.size w (w.alloc (.cells #[.string r.name, .string r.source, .slice I1 r.imports.length i1, .slice T1 r.face.types.length e1, .slice T2 r.face.funcs.length e2, .slice D1 r.diags.length d1] 40)) := by go_grown
    have hza : (w.alloc (.cells #[.string r.name, .string r.source, .slice I1 r.imports.length i1, .slice T1 r.face.types.length e1, .slice T2 r.face.funcs.length e2, .slice D1 r.diags.length d1] 40)).heap.size = w.heap.size + 1 := by simp
    generalize w.alloc (.cells #[.string r.name, .string r.source, .slice I1 r.imports.length i1, .slice T1 r.face.types.length e1, .slice T2 r.face.funcs.length e2, .slice D1 r.diags.length d1] 40) = W1 at hBa hba hza ⊢
    have x0 := hBa.at_ 0 _ rfl
    have x1 := hBa.at_ 1 _ rfl
    have x2 := hBa.at_ 2 _ rfl
    have x3 := hBa.at_ 3 _ rfl
    have x4 := hBa.at_ 4 _ rfl
    have x5 := hBa.at_ 5 _ rfl
    go_wp2_with fail
    refine (HC.out _ hba).mono ?_
    rintro e W2 ⟨rfl, hb2⟩
    have HBW := Lib.hid (hba.trans (hb2.mono hba.size))
    clear hBa hba hza hb2 x0 x1 x2 x3 x4 x5
    go_wp2_with fail
    refine (HSE.out _).mono ?_
    rintro e W3 ⟨rfl, hb3⟩
    have HB3 := Lib.hid (HBW.out.trans (Below.trans (show Below W2.heap.size W2 _ by go_grown) (hb3.mono (by simp)) |>.mono HBW.out.size))
    clear hb3
    go_wp2_with fail
    go_ret2
    exact ⟨rfl, HB3.out⟩
  · have h0n : (E != 0) = true := by simp [h0]
    rw [if_neg h0]
    go_enter Try.func170, Try.ntmps170
    go_upto_region 1 with fail
    have hBa := Box.made w 40 #[.string r.name, .string r.source, .slice I1 r.imports.length i1, .slice T1 r.face.types.length e1, .slice T2 r.face.funcs.length e2, .slice D1 r.diags.length d1]
    have hba : Below w.heap.size w (w.alloc (.cells #[.string r.name, .string r.source, .slice I1 r.imports.length i1, .slice T1 r.face.types.length e1, .slice T2 r.face.funcs.length e2, .slice D1 r.diags.length d1] 40)) := by go_grown
    have hza : (w.alloc (.cells #[.string r.name, .string r.source, .slice I1 r.imports.length i1, .slice T1 r.face.types.length e1, .slice T2 r.face.funcs.length e2, .slice D1 r.diags.length d1] 40)).heap.size = w.heap.size + 1 := by simp
    generalize w.alloc (.cells #[.string r.name, .string r.source, .slice I1 r.imports.length i1, .slice T1 r.face.types.length e1, .slice T2 r.face.funcs.length e2, .slice D1 r.diags.length d1] 40) = W1 at hBa hba hza ⊢
    have x0 := hBa.at_ 0 _ rfl
    have x1 := hBa.at_ 1 _ rfl
    have x2 := hBa.at_ 2 _ rfl
    have x3 := hBa.at_ 3 _ rfl
    have x4 := hBa.at_ 4 _ rfl
    have x5 := hBa.at_ 5 _ rfl
    go_wp2_with fail
    refine (HC.out _ hba).mono ?_
    rintro e W2 ⟨rfl, hb2⟩
    have HBW := Lib.hid (hba.trans (hb2.mono hba.size))
    clear hBa hba hza hb2 x0 x1 x2 x3 x4 x5
    go_wp2_with fail
    go_ret2
    exact ⟨rfl, HBW.out⟩

theorem framedB_size (b : ByteArray) : (framedB b).size = b.size + 8 := by rw [framedB, ba_app_size, frameH_size, txt_size]; rfl

set_option maxHeartbeats 1000000 in
set_option maxRecDepth 100000 in
theorem appendedOf_any (s : ByteArray) (r : Record) (cs : List Value) (F : Foot) (w : World) (hF : ∀ k, F k → k < w.heap.size) (hr : RecordR w F cs r) (hs : s.size ≤ 140737488355328) :
    Calls Try.prog 95 #[.string s, .agg cs.toArray] w fun e w' => e = .returned (.tuple #[.string (apTxt s r), .int .i64 (apErr s r)]) ∧ Below w.heap.size w w' := by
  have hc := fun U (hU : Below w.heap.size w U) => framed_any r cs F U (foot_up hF hU) (RecordR.stays.later hr hU hF)
  obtain ⟨I1, i1, T1, e1, T2, e2, D1, d1, rfl, _⟩ := RecordR.all hr
  clear hr
  unfold apTxt apErr
  unfold framedTxt at hc
  have hb := recBytes_size (r := r)
  generalize recBytes r = B at hc hb ⊢
  generalize recErr r = E at hc ⊢
  by_cases h0 : E = 0
  · subst h0
    have hz1 := framedB_size B
    have hz2 := frameH_size B
    have hap : s ++ frameH B ++ txt (sealB (frameH B).data.toList) = s ++ framedB B := ba_assoc _ _ _
    rw [if_pos rfl, if_pos rfl, hap, show s.size + (frameH B).size + 4 = s.size + (framedB B).size by omega]
    simp only [if_true] at hc
    have hsz : (framedB B).size ≤ 4100010 := by omega
    generalize framedB B = X at hc hsz ⊢
    clear hz1 hz2 hap
    obtain ⟨T, hT⟩ : ∃ T, (if 60000 < s.size + X.size then (⟨#[]⟩ : ByteArray) else s ++ X) = T := ⟨_, rfl⟩
    obtain ⟨C, hC⟩ : ∃ C, (if 60000 < s.size + X.size then (1 : Int) else 0) = C := ⟨_, rfl⟩
    rw [hT, hC]
    have s1 : ¬ 9223372036854775807 < s.size + X.size := by omega
    have hw : wrap64 ((s.size : Int) + (X.size : Int)) = ((s.size + X.size : Nat) : Int) := by rw [IntWalk.wrap64_in _ (by omega)]; omega
    have HC := Lib.hid hc; have HT := Lib.hid hT; have HCd := Lib.hid hC; have HS := Lib.hid hs; have HX1 := Lib.hid hsz; have HW := Lib.hid hw; have HB := Lib.hid hb
    clear hc hT hC hs hsz hw hb
    go_enter Try.func95, Try.ntmps95
    go_upto_region 1 with fail
    have hBa := Box.made w 40 #[.string r.name, .string r.source, .slice I1 r.imports.length i1, .slice T1 r.face.types.length e1, .slice T2 r.face.funcs.length e2, .slice D1 r.diags.length d1]
    have hba : Below w.heap.size w (w.alloc (.cells #[.string r.name, .string r.source, .slice I1 r.imports.length i1, .slice T1 r.face.types.length e1, .slice T2 r.face.funcs.length e2, .slice D1 r.diags.length d1] 40)) := by go_grown
    have hza : (w.alloc (.cells #[.string r.name, .string r.source, .slice I1 r.imports.length i1, .slice T1 r.face.types.length e1, .slice T2 r.face.funcs.length e2, .slice D1 r.diags.length d1] 40)).heap.size = w.heap.size + 1 := by simp
    generalize w.alloc (.cells #[.string r.name, .string r.source, .slice I1 r.imports.length i1, .slice T1 r.face.types.length e1, .slice T2 r.face.funcs.length e2, .slice D1 r.diags.length d1] 40) = W1 at hBa hba hza ⊢
    have x0 := hBa.at_ 0 _ rfl
    have x1 := hBa.at_ 1 _ rfl
    have x2 := hBa.at_ 2 _ rfl
    have x3 := hBa.at_ 3 _ rfl
    have x4 := hBa.at_ 4 _ rfl
    have x5 := hBa.at_ 5 _ rfl
    go_wp2_with fail
    refine (HC.out _ hba).mono ?_
    rintro e W2 ⟨rfl, hb2⟩
    have HBW := Lib.hid (hba.trans (hb2.mono hba.size))
    clear hBa hba hza hb2 x0 x1 x2 x3 x4 x5
    go_wp2_with fail
    · have h : (60000 : Int) < (s.size : Int) + (X.size : Int) := by assumption
      have h6 : 60000 < s.size + X.size := by omega
      go_ret2
      exact ⟨by rw [← HT.out, ← HCd.out, if_pos h6, if_pos h6]; rfl, HBW.out⟩
    · have h : (s.size : Int) + (X.size : Int) ≤ 60000 := by assumption
      have h6 : ¬ 60000 < s.size + X.size := by omega
      go_ret2
      exact ⟨by rw [← HT.out, ← HCd.out, if_neg h6, if_neg h6]; rfl, HBW.out⟩
  · have h0n : (E != 0) = true := by simp [h0]
    have h0e : (E == 0) = false := by simp [h0]
    rw [if_neg h0, if_neg h0]
    simp only [h0, if_false] at hc
    have HC := Lib.hid hc
    clear hc
    go_enter Try.func95, Try.ntmps95
    go_upto_region 1 with fail
    have hBa := Box.made w 40 #[.string r.name, .string r.source, .slice I1 r.imports.length i1, .slice T1 r.face.types.length e1, .slice T2 r.face.funcs.length e2, .slice D1 r.diags.length d1]
    have hba : Below w.heap.size w (w.alloc (.cells #[.string r.name, .string r.source, .slice I1 r.imports.length i1, .slice T1 r.face.types.length e1, .slice T2 r.face.funcs.length e2, .slice D1 r.diags.length d1] 40)) := by go_grown
    have hza : (w.alloc (.cells #[.string r.name, .string r.source, .slice I1 r.imports.length i1, .slice T1 r.face.types.length e1, .slice T2 r.face.funcs.length e2, .slice D1 r.diags.length d1] 40)).heap.size = w.heap.size + 1 := by simp
    generalize w.alloc (.cells #[.string r.name, .string r.source, .slice I1 r.imports.length i1, .slice T1 r.face.types.length e1, .slice T2 r.face.funcs.length e2, .slice D1 r.diags.length d1] 40) = W1 at hBa hba hza ⊢
    have x0 := hBa.at_ 0 _ rfl
    have x1 := hBa.at_ 1 _ rfl
    have x2 := hBa.at_ 2 _ rfl
    have x3 := hBa.at_ 3 _ rfl
    have x4 := hBa.at_ 4 _ rfl
    have x5 := hBa.at_ 5 _ rfl
    go_wp2_with fail
    refine (HC.out _ hba).mono ?_
    rintro e W2 ⟨rfl, hb2⟩
    have HBW := Lib.hid (hba.trans (hb2.mono hba.size))
    clear hBa hba hza hb2 x0 x1 x2 x3 x4 x5
    go_wp2_with fail
    go_ret2
    exact ⟨rfl, HBW.out⟩

end Go.Proofs.Ytamkgphamffdcaa
