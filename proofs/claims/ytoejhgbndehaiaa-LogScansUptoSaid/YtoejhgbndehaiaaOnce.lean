/- What is read is what is written: no record has two forms. Plain facts. -/
import Derived.Test.YtoejhgbndehaiaaReads
namespace Go.Proofs.Ytoejhgbndehaiaa

section
variable {α β : Type} {p : Rd α} {f : α → Rd β} {enc : α → List UInt8} {s r : List UInt8} {x : α} {y : β}
theorem rdThen_inv (h : rdThen p f s = .ok (y, r)) : ∃ x t, p s = .ok (x, t) ∧ f x t = .ok (y, r) := by
  unfold rdThen at h
  cases hp : p s with
  | error e => rw [hp] at h; cases h
  | ok a => obtain ⟨x, t⟩ := a; rw [hp] at h; exact ⟨x, t, rfl, h⟩
theorem rdPure_inv {z : α} (h : rdPure x s = .ok (z, r)) : z = x ∧ r = s := by cases h; exact ⟨rfl, rfl⟩
theorem rdMany_enc (hp : ∀ s x r, p s = .ok (x, r) → s = enc x ++ r) : ∀ (n : Nat) {s : List UInt8} {xs : List α} {r : List UInt8}, rdMany p n s = .ok (xs, r) → s = xs.flatMap enc ++ r
  | 0, s, xs, r, h => by obtain ⟨rfl, rfl⟩ := rdPure_inv h; rfl
  | n + 1, s, xs, r, h => by
    obtain ⟨ys, t, h1, h2⟩ := rdThen_inv h
    obtain ⟨y, u, h3, h4⟩ := rdThen_inv h2
    obtain ⟨rfl, rfl⟩ := rdPure_inv h4
    rw [rdMany_enc hp n h1, hp _ _ _ h3, List.flatMap_append]
    simp
theorem rdNum_enc {n : Nat} (h : rdNum s = .ok (n, r)) : s = encNum n ++ r ∧ n ≤ 255 := by
  cases s with
  | nil => cases h
  | cons b t =>
    cases h
    refine ⟨by simp [encNum], ?_⟩
    have := b.toNat_lt
    omega
theorem rdList_enc {xs : List α} (hp : ∀ s x r, p s = .ok (x, r) → s = enc x ++ r) (h : rdList p s = .ok (xs, r)) : s = encNum xs.length ++ (xs.flatMap enc ++ r) := by
  obtain ⟨n, t, h1, h2⟩ := rdThen_inv h
  rw [(rdNum_enc h1).1, rdMany_enc hp n h2, rdMany_len h2]
end

theorem ofNat_div (b c : UInt8) : UInt8.ofNat ((b.toNat * 256 + c.toNat) / 256) = b ∧ UInt8.ofNat (b.toNat * 256 + c.toNat) = c := by
  have hb := b.toNat_lt
  have hc := c.toNat_lt
  constructor
  · apply UInt8.toNat.inj
    rw [UInt8.toNat_ofNat', show (b.toNat * 256 + c.toNat) / 256 = b.toNat by omega]
    omega
  · apply UInt8.toNat.inj
    rw [UInt8.toNat_ofNat']
    omega

theorem rdStr_enc {s r : List UInt8} {x : ByteArray} (h : rdStr s = .ok (x, r)) : s = encStr x ++ r := by
  match s, h with
  | b :: c :: t, h =>
    unfold rdStr at h
    simp only at h
    split at h
    · cases h
    · rename_i hl
      cases h
      obtain ⟨h1, h2⟩ := ofNat_div b c
      have hz : (⟨(t.take (b.toNat * 256 + c.toNat)).toArray⟩ : ByteArray).size = b.toNat * 256 + c.toNat := by
        show (t.take (b.toNat * 256 + c.toNat)).toArray.size = _
        rw [List.size_toArray, List.length_take]; omega
      unfold encStr
      rw [hz, h1, h2]
      simp

theorem rdKnown_enc (s : List UInt8) (x : Known) (r : List UInt8) (h : rdKnown s = .ok (x, r)) : s = encKnown x ++ r := by
  obtain ⟨n, t, h1, h⟩ := rdThen_inv h
  obtain ⟨i, u, h2, h⟩ := rdThen_inv h
  obtain ⟨rfl, rfl⟩ := rdPure_inv h
  rw [rdStr_enc h1, rdStr_enc h2]
  simp [encKnown]
theorem rdSig_enc (s : List UInt8) (x : Sig) (r : List UInt8) (h : rdSig s = .ok (x, r)) : s = encSig x ++ r := by
  obtain ⟨n, t, h1, h⟩ := rdThen_inv h
  obtain ⟨ps, u, h2, h⟩ := rdThen_inv h
  obtain ⟨i, v, h3, h⟩ := rdThen_inv h
  obtain ⟨rfl, rfl⟩ := rdPure_inv h
  rw [rdStr_enc h1, rdList_enc (enc := encStr) (fun _ _ _ => rdStr_enc) h2, rdStr_enc h3]
  simp [encSig]
theorem rdFace_enc (s : List UInt8) (x : Face) (r : List UInt8) (h : rdFace s = .ok (x, r)) : s = encFace x ++ r := by
  obtain ⟨ts, t, h1, h⟩ := rdThen_inv h
  obtain ⟨fs, u, h2, h⟩ := rdThen_inv h
  obtain ⟨rfl, rfl⟩ := rdPure_inv h
  rw [rdList_enc (enc := encKnown) rdKnown_enc h1, rdList_enc (enc := encSig) rdSig_enc h2]
  simp [encFace]
theorem rdThere_enc {s r : List UInt8} {t : Bool} (h : rdThere s = .ok (t, r)) : s = encNum (if t then 1 else 0) ++ r := by
  obtain ⟨n, u, h1, h⟩ := rdThen_inv h
  split at h
  · cases h
  · rename_i hn
    cases h
    rw [(rdNum_enc h1).1]
    by_cases h1 : n = 1
    · simp [h1]
    · obtain rfl : n = 0 := by omega
      simp
theorem rdImport_enc (s : List UInt8) (x : Import) (r : List UInt8) (h : rdImport s = .ok (x, r)) : s = encImport x ++ r := by
  obtain ⟨n, t, h1, h⟩ := rdThen_inv h
  obtain ⟨b, u, h2, h⟩ := rdThen_inv h
  obtain ⟨f, v, h3, h⟩ := rdThen_inv h
  obtain ⟨rfl, rfl⟩ := rdPure_inv h
  rw [rdStr_enc h1, rdThere_enc h2, rdFace_enc _ _ _ h3]
  simp [encImport]
theorem rdDiag_enc (s : List UInt8) (x : Diag) (r : List UInt8) (h : rdDiag s = .ok (x, r)) : s = encDiag x ++ r := by
  obtain ⟨n, t, h1, h⟩ := rdThen_inv h
  obtain ⟨c, u, h2, h⟩ := rdThen_inv h
  obtain ⟨rfl, rfl⟩ := rdPure_inv h
  rw [rdStr_enc h1, (rdNum_enc h2).1]
  simp [encDiag]
theorem rdRecord_enc {s r : List UInt8} {x : Record} (h : rdRecord s = .ok (x, r)) : s = encRecord x ++ r := by
  obtain ⟨n, t1, h1, h⟩ := rdThen_inv h
  obtain ⟨so, t2, h2, h⟩ := rdThen_inv h
  obtain ⟨im, t3, h3, h⟩ := rdThen_inv h
  obtain ⟨f, t4, h4, h⟩ := rdThen_inv h
  obtain ⟨ds, t5, h5, h⟩ := rdThen_inv h
  obtain ⟨rfl, rfl⟩ := rdPure_inv h
  rw [rdStr_enc h1, rdStr_enc h2, rdList_enc (enc := encImport) rdImport_enc h3, rdFace_enc _ _ _ h4, rdList_enc (enc := encDiag) rdDiag_enc h5]
  simp [encRecord]
/-- Its errors are none of them 0. -/
def NE {α : Type} (p : Rd α) : Prop := ∀ s e, p s = .error e → e ≠ 0
theorem NE.then_ {α β : Type} {p : Rd α} {f : α → Rd β} (h : NE p) (k : ∀ x, NE (f x)) : NE (rdThen p f) := by
  intro s e he
  unfold rdThen at he
  cases hp : p s with
  | error e' => rw [hp] at he; cases he; exact h _ _ hp
  | ok a => obtain ⟨x, t⟩ := a; rw [hp] at he; exact k x t e he
theorem NE.pure_ {α : Type} {x : α} : NE (rdPure x) := fun _ _ h => by cases h
theorem NE.num : NE rdNum := by
  intro s e h
  cases s with
  | nil => cases h; decide
  | cons b r => cases h
theorem NE.str : NE rdStr := by
  intro s e h
  unfold rdStr at h
  split at h
  · split at h
    · cases h; decide
    · cases h
  · cases h; decide
theorem NE.many {α : Type} {p : Rd α} (h : NE p) : ∀ n, NE (rdMany p n)
  | 0 => NE.pure_
  | n + 1 => NE.then_ (NE.many h n) fun _ => NE.then_ h fun _ => NE.pure_
theorem NE.list {α : Type} {p : Rd α} (h : NE p) : NE (rdList p) := NE.then_ NE.num fun n => NE.many h n
theorem NE.known : NE rdKnown := NE.then_ NE.str fun _ => NE.then_ NE.str fun _ => NE.pure_
theorem NE.sig : NE rdSig := NE.then_ NE.str fun _ => NE.then_ (NE.list NE.str) fun _ => NE.then_ NE.str fun _ => NE.pure_
theorem NE.face : NE rdFace := NE.then_ (NE.list NE.known) fun _ => NE.then_ (NE.list NE.sig) fun _ => NE.pure_
theorem NE.there : NE rdThere := NE.then_ NE.num fun n s e h => by
  split at h
  · cases h; decide
  · cases h
theorem NE.import_ : NE rdImport := NE.then_ NE.str fun _ => NE.then_ NE.there fun _ => NE.then_ NE.face fun _ => NE.pure_
theorem NE.diag : NE rdDiag := NE.then_ NE.str fun _ => NE.then_ NE.num fun _ => NE.pure_
theorem NE.record : NE rdRecord := NE.then_ NE.str fun _ => NE.then_ NE.str fun _ => NE.then_ (NE.list NE.import_) fun _ => NE.then_ NE.face fun _ => NE.then_ (NE.list NE.diag) fun _ => NE.pure_
theorem dec_ne {err : Record → Int} {s : List UInt8} {e : Int} (h : decRecord err s = .error e) : e ≠ 0 := by
  unfold decRecord at h
  split at h
  · cases h; decide
  · split at h
    · rename_i e' hr; cases h; exact NE.record _ _ hr
    · split at h
      · cases h; decide
      · split at h
        · rename_i he; cases h; exact he
        · cases h
/-- No record has two forms. -/
theorem once {err : Record → Int} {s : List UInt8} {x : Record} (h : decRecord err s = .ok x) : err x = 0 ∧ encRecord x = s ∧ s.length ≤ 60000 := by
  unfold decRecord at h
  split at h
  · cases h
  · rename_i hl
    cases hr : rdRecord s with
    | error e => rw [hr] at h; cases h
    | ok a =>
      obtain ⟨y, r⟩ := a
      rw [hr] at h
      simp only at h
      split at h
      · cases h
      · rename_i h0
        split at h
        · cases h
        · rename_i he
          cases h
          have h1 := rdRecord_enc hr
          obtain rfl : r = [] := List.length_eq_zero_iff.1 (by omega)
          exact ⟨by omega, by rw [h1]; simp, by omega⟩

end Go.Proofs.Ytoejhgbndehaiaa
