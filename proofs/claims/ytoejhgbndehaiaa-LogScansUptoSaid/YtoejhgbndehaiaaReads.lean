/- What a reader does, and what it leaves; records that are read. Plain facts. -/
import Derived.Test.YtoejhgbndehaiaaCodec
namespace Go.Proofs.Ytoejhgbndehaiaa

/-- A reader at some bytes, and an error (0: none), becomes one at others; it told x. -/
def Reads {α : Type} (p : Rd α) (s : List UInt8) (e : Int) (x : α) (s' : List UInt8) (e' : Int) : Prop :=
  (e = 0 ∧ p s = .ok (x, s') ∧ e' = 0) ∨ (e = 0 ∧ p s = .error e' ∧ e' ≠ 0) ∨ (e ≠ 0 ∧ e' = e)

section
variable {α β : Type} {p : Rd α} {f : α → Rd β} {s s' s2 : List UInt8} {e e' e2 : Int} {x : α} {y : β} {n i : Nat}
theorem Reads.bind (h : Reads p s e x s' e') (k : Reads (f x) s' e' y s2 e2) : Reads (rdThen p f) s e y s2 e2 := by
  rcases h with ⟨rfl, h1, rfl⟩ | ⟨rfl, h1, h2⟩ | ⟨h1, rfl⟩
  · rcases k with ⟨_, k1, rfl⟩ | ⟨_, k1, k2⟩ | ⟨k1, _⟩
    · exact .inl ⟨rfl, by rw [rdThen_ok h1]; exact k1, rfl⟩
    · exact .inr (.inl ⟨rfl, by rw [rdThen_ok h1]; exact k1, k2⟩)
    · exact absurd rfl k1
  · rcases k with ⟨k0, _, _⟩ | ⟨k0, _, _⟩ | ⟨_, rfl⟩
    · exact absurd k0 h2
    · exact absurd k0 h2
    · exact .inr (.inl ⟨rfl, rdThen_err h1, h2⟩)
  · rcases k with ⟨k0, _, _⟩ | ⟨k0, _, _⟩ | ⟨_, rfl⟩
    · exact absurd k0 h1
    · exact absurd k0 h1
    · exact .inr (.inr ⟨h1, rfl⟩)
theorem Reads.pure_ : Reads (rdPure x) s e x s e := by
  by_cases h : e = 0
  · exact .inl ⟨h, rfl, h⟩
  · exact .inr (.inr ⟨h, rfl⟩)
theorem Reads.map {g : α → β} (h : Reads p s e x s' e') : Reads (rdThen p fun a => rdPure (g a)) s e (g x) s' e' := h.bind Reads.pure_
theorem Reads.none_ : Reads (rdMany p 0) s e [] s e := Reads.pure_ (x := ([] : List α))
theorem Reads.next {xs : List α} (h : Reads (rdMany p i) s e xs s' e') (k : Reads p s' e' x s2 e2) : Reads (rdMany p (i + 1)) s e (xs ++ [x]) s2 e2 :=
  Reads.bind (f := fun xs => rdThen p fun x => rdPure (xs ++ [x])) h (Reads.map (g := fun x => xs ++ [x]) k)
theorem Reads.stop {xs ys : List α} (h : Reads (rdMany p i) s e xs s' e') (h0 : e' ≠ 0) (hn : i ≤ n) : Reads (rdMany p n) s e ys s2 e' := by
  rcases h with ⟨_, _, h1⟩ | ⟨h1, h2, h3⟩ | ⟨h1, h2⟩
  · exact absurd h1 h0
  · exact .inr (.inl ⟨h1, rdMany_stop h2 n hn, h3⟩)
  · exact .inr (.inr ⟨h1, h2⟩)
theorem Reads.list_ {k : Nat} {xs : List α} (h : Reads rdNum s e k s' e') (h2 : Reads (rdMany p k) s' e' xs s2 e2) : Reads (rdList p) s e xs s2 e2 := Reads.bind (f := rdMany p) h h2
theorem Reads.bad (h : Reads p s e x s' e') (h0 : e ≠ 0) (y : α) (t : List UInt8) : Reads p s e y t e := .inr (.inr ⟨h0, rfl⟩)
end

section
variable {err : Record → Int} {s r : List UInt8} {x : Record} {e : Int}
theorem dec_long (h : 60000 < s.length) : decRecord err s = .error 1 := by unfold decRecord; rw [if_pos h]
theorem dec_bad (h : ¬ 60000 < s.length) (hr : Reads rdRecord s 0 x r e) (he : e ≠ 0) : decRecord err s = .error e := by
  unfold decRecord
  rw [if_neg h]
  rcases hr with ⟨_, _, h1⟩ | ⟨_, h1, _⟩ | ⟨h1, _⟩
  · exact absurd h1 he
  · rw [h1]
  · exact absurd rfl h1
theorem reads_ok {α : Type} {p : Rd α} {x : α} (hr : Reads p s 0 x r 0) : p s = .ok (x, r) := by
  rcases hr with ⟨_, h1, _⟩ | ⟨_, _, h1⟩ | ⟨h1, _⟩
  · exact h1
  · exact absurd rfl h1
  · exact absurd rfl h1
theorem dec_more (h : ¬ 60000 < s.length) (hr : Reads rdRecord s 0 x r 0) (he : r.length ≠ 0) : decRecord err s = .error 4 := by
  unfold decRecord
  rw [if_neg h, reads_ok hr]
  simp only
  rw [if_pos he]
theorem dec_fault (h : ¬ 60000 < s.length) (hr : Reads rdRecord s 0 x r 0) (h0 : r.length = 0) (he : err x ≠ 0) : decRecord err s = .error (err x) := by
  unfold decRecord
  rw [if_neg h, reads_ok hr]
  simp only
  rw [if_neg (by omega), if_pos he]
theorem dec_ok (h : ¬ 60000 < s.length) (hr : Reads rdRecord s 0 x r 0) (h0 : r.length = 0) (he : err x = 0) : decRecord err s = .ok x := by
  unfold decRecord
  rw [if_neg h, reads_ok hr]
  simp only
  rw [if_neg (by omega), if_neg (by simp [he])]
end

end Go.Proofs.Ytoejhgbndehaiaa
