/- Records as bytes: how long they are. Plain facts. -/
import Derived.Test.YtoejhgbndehaiaaBytes
import Derived.Test.YtoejhgbndehaiaaCodec
import Derived.Test.YtoejhgbndehaiaaFaceText
import Derived.Test.YtoejhgbndehaiaaRecErr
namespace Go.Proofs.Ytoejhgbndehaiaa
open Go.RowKit

/-- Bytes as a text. -/
def txt (l : List UInt8) : ByteArray := ⟨l.toArray⟩
theorem txt_app (a b : List UInt8) : txt a ++ txt b = txt (a ++ b) := ba_ext (by simp only [txt, ba_app, ba_of])
theorem txt_data (l : List UInt8) : (txt l).data.toList = l := ba_of l
theorem txt_size (l : List UInt8) : (txt l).size = l.length := by rw [ba_size, txt_data]
theorem txt_back (s : ByteArray) : txt s.data.toList = s := ba_back s

theorem flatMap_len {α : Type} {f : α → List UInt8} {c n : Nat} : ∀ {l : List α}, l.length ≤ n → (∀ x ∈ l, (f x).length ≤ c) → (l.flatMap f).length ≤ n * c
  | [], _, _ => by simp
  | x :: l, hn, h => by
    rw [List.flatMap_cons, List.length_append]
    obtain ⟨m, rfl⟩ : ∃ m, n = m + 1 := ⟨n - 1, by simp at hn; omega⟩
    have h1 := h x (by simp)
    have h2 := flatMap_len (l := l) (n := m) (by simpa using hn) (fun y hy => h y (by simp [hy]))
    rw [Nat.succ_mul]; omega
theorem flatMap_succ {α : Type} {f : α → List UInt8} {l : List α} {k : Nat} {x : α} (h : l[k]? = some x) : (l.take (k + 1)).flatMap f = (l.take k).flatMap f ++ f x := by
  rw [take_snoc h, List.flatMap_append]; simp
theorem take_len {α : Type} {l : List α} {k n : Nat} (h : l.length ≤ n) : (l.take k).length ≤ n := by rw [List.length_take]; omega
theorem encStr_len (s : ByteArray) : (encStr s).length = s.size + 2 := by rw [ba_size]; simp [encStr]
theorem encKnown_len {x : Known} (h : knownBad x = 0) : (encKnown x).length ≤ 612 := by
  unfold knownBad at h
  split at h
  · next hh =>
    simp at hh
    have h1 := nameOk_size hh.1
    have h2 := kindErr_size hh.2.1
    rw [encKnown, List.length_append, encStr_len, encStr_len]; omega
  · cases h
theorem encParams_len {x : Sig} (h : sigBad x = 0) (k : Nat) : ((x.params.take k).flatMap encStr).length ≤ 8 * 602 := by
  obtain ⟨_, _, h3, h4⟩ := sig_parts h
  exact flatMap_len (take_len h3) (fun p hp => by rw [encStr_len]; have := h4 p (List.mem_of_mem_take hp); omega)
theorem encSig_len {x : Sig} (h : sigBad x = 0) : (encSig x).length ≤ 5500 := by
  obtain ⟨h1, h2, _, _⟩ := sig_parts h
  have h5 := encParams_len h x.params.length
  rw [List.take_length] at h5
  simp only [encSig, List.length_append, encStr_len, encNum, List.length_cons, List.length_nil]
  omega
theorem face_24 {a : Face} (h : faceErr a = 0) : a.types.length + a.funcs.length ≤ 24 := by
  unfold faceErr at h
  split at h
  · cases h
  · omega
theorem encTypes_len {a : Face} (h : faceErr a = 0) (k : Nat) : ((a.types.take k).flatMap encKnown).length ≤ 24 * 612 :=
  flatMap_len (take_len (by have := face_24 h; omega)) (fun x hx => encKnown_len ((face_rising h).2.2.1 x (List.mem_of_mem_take hx)))
theorem encFuncs_len {a : Face} (h : faceErr a = 0) (k : Nat) : ((a.funcs.take k).flatMap encSig).length ≤ 24 * 5500 :=
  flatMap_len (take_len (by have := face_24 h; omega)) (fun x hx => encSig_len ((face_rising h).2.2.2 x (List.mem_of_mem_take hx)))
theorem encFace_len {a : Face} (h : faceErr a = 0) : (encFace a).length ≤ 150000 := by
  have h1 := encTypes_len h a.types.length
  have h2 := encFuncs_len h a.funcs.length
  rw [List.take_length] at h1 h2
  simp only [encFace, List.length_append, encNum, List.length_cons, List.length_nil]
  omega
theorem import_face {x : Import} (h : importBad x = 0) : nameOk x.name = true ∧ faceErr x.face = 0 := by
  unfold importBad at h
  split at h
  · cases h
  · next h1 =>
    split at h
    · next h2 => exact absurd h h2
    · next h2 => exact ⟨by simpa using h1, Classical.not_not.1 h2⟩
theorem encImport_len {x : Import} (h : importBad x = 0) : (encImport x).length ≤ 160000 := by
  obtain ⟨h1, h2⟩ := import_face h
  have h3 := nameOk_size h1
  have h4 := encFace_len h2
  simp only [encImport, List.length_append, encStr_len, encNum, List.length_cons, List.length_nil]
  omega
theorem imports_good {l : List Import} (h : importsErr l = 0) : l.length ≤ 24 ∧ ∀ x ∈ l, importBad x = 0 := by
  unfold importsErr at h
  split at h
  · cases h
  · exact ⟨by omega, itemErr_good (firstErr_zero h)⟩
theorem encImports_len {l : List Import} (h : importsErr l = 0) (k : Nat) : ((l.take k).flatMap encImport).length ≤ 24 * 160000 :=
  flatMap_len (take_len (imports_good h).1) (fun x hx => encImport_len ((imports_good h).2 x (List.mem_of_mem_take hx)))
/-- What a good record's parts are. -/
theorem rec_parts {r : Record} (h : recErr r = 0) : nameOk r.name = true ∧ r.source.size ≤ 1500 ∧ r.diags.length ≤ 24 ∧ importsErr r.imports = 0 ∧ faceErr r.face = 0 ∧ ∀ d ∈ r.diags, diagBad d = false := by
  unfold recErr at h
  split at h
  · cases h
  · next h1 =>
    split at h
    · cases h
    · next h2 =>
      split at h
      · next h3 => exact absurd h h3
      · next h3 =>
        split at h
        · next h4 => exact absurd h h4
        · next h4 =>
          split at h
          · cases h
          · next h5 =>
            exact ⟨by simpa using h1, by omega, by omega, Classical.not_not.1 h3, Classical.not_not.1 h4, fun d hd => by
              cases hb : diagBad d with
              | false => rfl
              | true => exact absurd (List.any_eq_true.2 ⟨d, hd, hb⟩) h5⟩
theorem encDiag_len {d : Diag} (h : diagBad d = false) : (encDiag d).length ≤ 20 := by
  have : d.where_.size ≤ 8 := by
    unfold diagBad at h
    by_cases h0 : d.where_.size = 0
    · omega
    · refine nameOk_size ?_
      simp [h0] at h
      exact h.1
  simp only [encDiag, List.length_append, encStr_len, encNum, List.length_cons, List.length_nil]
  omega
theorem encDiags_len {r : Record} (h : recErr r = 0) (k : Nat) : ((r.diags.take k).flatMap encDiag).length ≤ 24 * 20 := by
  obtain ⟨_, _, h3, _, _, h6⟩ := rec_parts h
  exact flatMap_len (take_len h3) (fun d hd => encDiag_len (h6 d (List.mem_of_mem_take hd)))
theorem encRecord_len {r : Record} (h : recErr r = 0) : (encRecord r).length ≤ 4100000 := by
  obtain ⟨h1, h2, h3, h4, h5, h6⟩ := rec_parts h
  have k1 := nameOk_size h1
  have k2 := encImports_len h4 r.imports.length
  have k3 := encFace_len h5
  have k4 := encDiags_len h r.diags.length
  rw [List.take_length] at k2 k4
  simp only [encRecord, List.length_append, encStr_len, encNum, List.length_cons, List.length_nil]
  omega
/-- The bytes that are told. -/
def recBytes (r : Record) : ByteArray := if recErr r = 0 then txt (encRecord r) else ⟨#[]⟩

end Go.Proofs.Ytoejhgbndehaiaa
